/- Copies that are drawn: DrawCombineCopies, DrawLostBits, DrawSendHops. No condition beyond lengths. -/
import Derived.Test.YtaoahgngpjoekaaDoorEd
namespace Go.Proofs.YtaoahgngpjoekaaDoor
open Go.RowKit

theorem sendR_size (s : ByteArray) (l j : List Int) : ((sendR s l j).getD ByteArray.empty).size ≤ s.size := by
  unfold sendR
  by_cases h : readyB s l j = true
  · rw [if_pos h]
    show (text _).size ≤ _
    rw [text_size, sendL_length]
    exact Nat.le_refl _
  · rw [if_neg h]; exact Nat.zero_le _
theorem OwnVF.gr {α : Type} {f : α → Value} {t : TypeId} {w w' : World} {g lo : Nat} {v : Value} {l : List α} (h : OwnVF f t w lo v l) (hg : w.grownBy w' (some g)) (hlt : g < lo) : OwnVF f t w' lo v l := ownsRow_gr h hg hlt
theorem OwnF.gr {α : Type} {f : α → Value} {t : TypeId} {w w' : World} {g lo n c : Nat} {ao : Option Addr} {l : List α} (h : OwnF f t w lo ao n c l) (hg : w.grownBy w' (some g)) (hlt : g < lo) : OwnF f t w' lo ao n c l := ⟨h.1, h.2.1, ownsRow_gr h.2.2 hg hlt⟩
theorem small_snoc {l : List ByteArray} {s : ByteArray} {m : Nat} (h : ∀ s ∈ l, s.size ≤ m) (hs : s.size ≤ m) : ∀ t ∈ l ++ [s], t.size ≤ m := by
  intro t ht
  rcases List.mem_append.1 ht with h1 | h1
  · exact h t h1
  · rw [List.mem_singleton.1 h1]; exact hs



set_option maxRecDepth 100000 in
set_option maxHeartbeats 800000 in
theorem DrawSendHopsF_c {w : World} {ao : Option Addr} {n c : Nat} (h : CodeW w ao n c) : Calls Tryd.prog 12 #[.slice ao n c] w fun e w' =>
    ∃ s a1 n1 c1, ∃ l1 : List Int, ∃ a2 n2 c2, ∃ l2 : List Int, e = .returned (.tuple #[.string s, .slice a1 n1 c1, .slice a2 n2 c2]) ∧ s.size ≤ 601 ∧ RdC w' a1 n1 c1 l1 ∧ l1.length ≤ 301 ∧ RdC w' a2 n2 c2 l2 ∧ l2.length ≤ 17 ∧ (∀ a, a1 = some a → w.heap.size ≤ a.block) ∧ (∀ a, a2 = some a → w.heap.size ≤ a.block) ∧ Below w.heap.size w w' := by
  obtain ⟨lb, hR, hcap, hby⟩ := h
  go_enter Tryd.func12, Tryd.ntmps12
  go_wp2_with fail
  refine (l9Open_c hR hcap hby).mono ?_; rintro e w1 ⟨rfl, hr1, hb1⟩
  have hz1 := hb1.size
  clear hR hby
  go_wp2_with fail
  refine (l7Some_c hr1 (by omega)).mono ?_; rintro e w2 ⟨a1, n1, c1, l1, ch, q1, rfl, ho1, hch, hv, h0, h14, hq0, hq1, hr2, hg2⟩
  have hb2 := hb1.trans (below_of_gr hg2 (Nat.le_refl _) hz1)
  have hgl := hr1.lt
  have hz2 := hg2.size
  clear hr1 hg2 hv
  go_wp2_with fail
  refine (l1String_c 20 hr2 (by omega) (by omega)).mono ?_; rintro e w3 ⟨dt, q3, rfl, hdt, hq30, hq31, hr3, hg3⟩
  have ho3 := ho1.gr hg3 hgl
  have hb3 := hb2.trans (below_of_gr hg3 (Nat.le_refl _) hb2.size)
  have hz3 := Nat.le_trans hz2 hg3.size
  clear ho1 hr2 hg3 hb2
  go_wp2_with fail
  refine (l6Wild_c dt hr3 (by omega) (by omega)).mono ?_; rintro e w4 ⟨s, q4, rfl, hs, hq40, hq41, hrA, hg4⟩
  have hoA := ho3.gr hg4 hgl
  have hbA := hb3.trans (below_of_gr hg4 (Nat.le_refl _) hb3.size)
  have hzA := Nat.le_trans hz3 hg4.size
  clear ho3 hr3 hg4 hb3
  go_wp2_with fail
  refine (l7Bad_c hrA (by omega) hoA hgl (by omega) hzA).mono ?_; rintro e wB ⟨a2, n2, c2, l2, q2, rfl, hrc, h301, hq2, hq3, hrB, hgB, hne2⟩
  have hbB := hbA.trans (hgB.below (Nat.le_refl _) (fun a ha => by have := (hoA.lt a ha).1; omega) hbA.size)
  have hzB := hbB.size
  go_wp2_with fail
  refine (l7Set_c ch hrB (by omega)).mono ?_; rintro e wN ⟨b2, m2, d2, j2, q3, rfl, hoJ, h17, hq4, hq5, hrN, hgN⟩
  have hbN := hbB.trans (below_of_gr hgN (Nat.le_refl _) hzB)
  have hrc2 : RdC wN a2 n2 c2 l2 := ⟨hrc.1.gr hgN (fun a ha _ => Nat.ne_of_gt (hne2 a ha)), hrc.2⟩
  clear hrc
  go_wp2_with fail
  go_ret3
  exact ⟨s, a2, n2, c2, l2, b2, m2, d2, j2, rfl, hs, hrc2, h301, hoJ.rdc, h17, fun a ha => Nat.le_of_lt (hne2 a ha), fun a ha => Nat.le_trans hzB (hoJ.lt a ha).1, hbN⟩
theorem DrawSendHops_c {w : World} {ao : Option Addr} {n c : Nat} (h : CodeW w ao n c) : Calls Tryd.prog 12 #[.slice ao n c] w fun e w' =>
    ∃ s a1 n1 c1, ∃ l1 : List Int, ∃ a2 n2 c2, ∃ l2 : List Int, e = .returned (.tuple #[.string s, .slice a1 n1 c1, .slice a2 n2 c2]) ∧ s.size ≤ 601 ∧ RdC w' a1 n1 c1 l1 ∧ l1.length ≤ 301 ∧ RdC w' a2 n2 c2 l2 ∧ l2.length ≤ 17 ∧ Below w.heap.size w w' :=
  (DrawSendHopsF_c h).mono fun _ _ ⟨s, a1, n1, c1, l1, a2, n2, c2, l2, h1, h2, h3, h4, h5, h6, _, _, h7⟩ => ⟨s, a1, n1, c1, l1, a2, n2, c2, l2, h1, h2, h3, h4, h5, h6, h7⟩

end Go.Proofs.YtaoahgngpjoekaaDoor
