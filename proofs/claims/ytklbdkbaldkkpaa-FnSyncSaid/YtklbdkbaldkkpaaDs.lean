/- Draws of chapter 7: what SyncHops is asked. No condition beyond lengths. -/
import Derived.Test.YtklbdkbaldkkpaaDq
import Derived.Test.YtklbdkbaldkkpaaLw
import Derived.Test.YtklbdkbaldkkpaaRy
namespace Go.Proofs.Ytklbdkbaldkkpaa
open Go.RowKit

def RetSIJ (w : World) (e : Ending) (w' : World) : Prop :=
  ∃ s t ch : Int, ∃ ao n c, ∃ l : List Int, e = .returned (.tuple #[.int .i64 s, .int .i64 t, .int .i64 ch, .slice ao n c]) ∧ RdC w' ao n c l ∧ l.length ≤ 301 ∧ Below w.heap.size w w'
theorem tuple4 {fn : Func} {t u v x : Tmp} (h : fn.results = #[.tmp t, .tmp u, .tmp v, .tmp x]) (tmps : Array Value) (P : Program) (w : World) :
    (results fn tmps).run P w = .ok (.tuple #[tmps.getD t undef, tmps.getD u undef, tmps.getD v undef, tmps.getD x undef]) w := by
  simp [results, h]
theorem Box.gr2 {w w' : World} {b g : Nat} {ao : Option Addr} {cs : Array Value} {t : TypeId} (h : Box w b cs t) (hg : Gr2 w w' g ao) (h1 : b ≠ g) (h2 : ∀ a, ao = some a → a.block ≠ b) : Box w' b cs t := by
  unfold Box
  rw [hg.block b h.lt h1 (fun e => by
    cases ao with
    | none => cases e
    | some a => exact h2 a rfl (by simp at e; exact e.symm))]
  exact h
theorem hopSeq_len (s t x ch n : Int) : ((hopSeq s t x ch n).getD []).length ≤ 300 := by
  unfold hopSeq
  split
  · rename_i h
    unfold hopOk at h
    simp only [Bool.and_eq_true] at h
    have := inB_iff.1 h.2
    simp only [Option.getD_some, hopL_len]; omega
  · simp
theorem own_set {w : World} {lo b n c k : Nat} {l : List Int} (h : Own w lo (some ⟨b, 0, none⟩) n c l) (x : Int) : Own (w.setCell ⟨b, k, none⟩ (.int .i64 x)) lo (some ⟨b, 0, none⟩) n c (l.set k x) := by
  refine ⟨by rw [List.length_set]; exact h.1, h.2.1, ?_⟩
  have := (h.2.2.stored k (.int .i64 x)).1
  rw [List.map_set]
  exact this

set_option maxRecDepth 100000 in
set_option maxHeartbeats 3200000 in
theorem DrawSyncHops_c {w : World} {ao : Option Addr} {n c : Nat} (h : CodeW w ao n c) : Calls Try.prog 24 #[.slice ao n c] w (RetSIJ w) := by
  obtain ⟨lb, hR, hcap, hby⟩ := h
  go_enter Try.func24, Try.ntmps24
  go_wp2_with fail
  refine (l9Open_c hR hcap hby).mono ?_; rintro e w1 ⟨rfl, hr1, hB1⟩
  clear hR hby
  obtain ⟨g, hg⟩ : ∃ g, w.heap.size = g := ⟨_, rfl⟩
  rw [hg] at hr1 hB1 ⊢
  have hgl := hr1.lt
  go_wp2_with fail
  refine (l1Some_c hr1 (by omega)).mono ?_; rintro e w2 ⟨s, t, x, q2, rfl, hv, hq2, hq3, hr2, hg2⟩
  have hB2 := hB1.trans (below_of_gr hg2 (Nat.le_refl _) (by omega))
  have hz2 := hg2.size
  clear hr1 hg2 hB1
  have hY := Box.new w2 #[.int .i64 s, .int .i64 t, .int .i64 x] 24
  have hbl : Below w2.heap.size w2 ((w2.alloc (.cells #[.int .i64 s, .int .i64 t, .int .i64 x] 24)).alloc (.cells (([4, 5, 7, 8, 3, 16, 1, 2] : List Int).map (Value.int .i64)).toArray 3)) := ((Below.refl _ _).alloc (Nat.le_refl _) _).alloc (by simp) _
  have hbl1 : Below w2.heap.size w2 (w2.alloc (.cells #[.int .i64 s, .int .i64 t, .int .i64 x] 24)) := (Below.refl _ _).alloc (Nat.le_refl _) _
  have hr3 := hr2.below hbl1
  have hY3 := hY.alloc (.cells (([4, 5, 7, 8, 3, 16, 1, 2] : List Int).map (Value.int .i64)).toArray 3)
  have hB3 := hB2.trans (hbl.mono (by omega))
  have hyg : w2.heap.size ≠ g := by omega
  have hlit := rd_lit' (w2.alloc (.cells #[.int .i64 s, .int .i64 t, .int .i64 x] 24)) [4, 5, 7, 8, 3, 16, 1, 2] 3 (w2.heap.size + 1) 8 (by simp) rfl (by decide)
  have hr4 := hr3.alloc (.cells (([4, 5, 7, 8, 3, 16, 1, 2] : List Int).map (Value.int .i64)).toArray 3)
  clear hB2 hr2 hr3 hbl hbl1 hY
  go_wp2_with fail
  refine (num_c hr4 (by omega) hlit (by intro a ha; cases ha; intro _; show w2.heap.size + 1 ≠ g; omega) (by decide)).mono ?_; rintro e w3 ⟨ch, rfl, hch, hr5, hg5⟩
  have hch2 : 1 ≤ ch ∧ ch ≤ 16 := by simp at hch; omega
  have hY5 := hY3.gr hg5 hyg
  have hB5 := hB3.trans (below_of_gr hg5 (Nat.le_refl _) (by have := hB3.size; omega))
  have hgz := hg5.size
  have hz5 : w2.heap.size < w3.heap.size := hY5.lt
  clear hY3 hB3 hg5 hr4 hlit hch hgz
  have hdr : Below w3.heap.size w3 w3.drew := Below.drew (Below.refl _ _)
  have hr5d := hr5.below hdr
  have hY5d := hY5.below hdr hY5.lt
  have hB5d := hB5.trans (hdr.mono (by have := hB5.size; omega))
  have C0 := box_k3 hY5
  have HV := Lib.hid hv
  clear hY5 hB5 hr5 hdr hv
  go_wp2_with fail
  go_region_held3 (fun w' => w'.cell? ⟨w2.heap.size, 0, none⟩ = some (.int .i64 s) ∧ w'.cell? ⟨w2.heap.size, 1, none⟩ = some (.int .i64 t) ∧ w'.cell? ⟨w2.heap.size, 2, none⟩ = some (.int .i64 x)) (first | exact C0 | exact C1 | exact C2) (first | (go_at_call 64; refine (pick_c _ hr5d (by omega)).mono ?_; rintro e w5 ⟨k, rfl, k0, k1, hr7, hg7⟩; have hY7 := hY5d.gr hg7 hyg; have C1 := box_k3 hY7) | (go_at_call 14; refine (sHopSequence_c _ _ _ ch _ _).mono ?_; rintro e w6 ⟨ah, nh, chp, rfl, ho6, hb6⟩; have hY8 := hY7.below hb6 hY7.lt; have C2 := box_k3 hY8))
  have hs : 0 ≤ s ∧ s ≤ 8 := by
    obtain ⟨S, T, X, rfl, _, _, h1, _⟩ := regB_nat HV.out
    omega
  have hlen := hopSeq_len s t x ch k
  have hr8 := hr7.below hb6
  have hlo : g < w5.heap.size := hr7.lt
  have hlo2 : w2.heap.size < w5.heap.size := hY7.lt
  have hB8 := (hB5d.trans (below_of_gr hg7 (Nat.le_refl _) (by have := hB5d.size; omega))).trans (hb6.mono (by omega))
  have ho8 : Own w6 w5.heap.size ah nh chp ((hopSeq s t x ch k).getD []) := ho6
  obtain ⟨lo, hloe⟩ : ∃ lo, w5.heap.size = lo := ⟨_, rfl⟩
  have hlz : lo ≤ w6.heap.size := by rw [← hloe]; exact hb6.size
  rw [hloe] at hlo hlo2 ho8
  generalize (hopSeq s t x ch k).getD [] = L at hlen ho8
  have HN := Lib.hid ho8.1
  have hs8 := ho8.2.1
  clear ho6 hb6 hr7 hg7 hY7 hY5d hr5d hB5d C0 C1 C2 hloe
  by_cases hn0 : 0 < nh
  · obtain ⟨b, rfl⟩ : ∃ b, ah = some ⟨b, 0, none⟩ := by
      rcases ho8.2.2.2 with ⟨h1, h2⟩ | ⟨g', cap, cur, hv', _⟩
      · cases h1; omega
      · cases hv'; exact ⟨g', rfl⟩
    go_wp2_with fail
    refine (pick_c _ hr8 (by omega)).mono ?_; rintro e w7 ⟨u, rfl, u0, u1, hrD, hgD⟩
    have hoD := ho8.gr hgD hlo
    have hYD := hY8.gr hgD hyg
    have hBD := hB8.trans (below_of_gr hgD (Nat.le_refl _) (by have := hB8.size; omega))
    have hzD := hgD.size
    clear hr8 ho8 hY8 hB8 hgD u1
    by_cases hu0 : (u == 0) = true
    · go_wp2_with fail
      refine (pick_c _ hrD (by omega)).mono ?_; rintro e w8 ⟨i', rfl, i0, i1, hrE, hgE⟩
      obtain ⟨i, rfl⟩ := Int.eq_ofNat_of_zero_le i0
      have hin : i < nh := by omega
      have hoE := hoD.gr hgE hlo
      have hYE := hYD.gr hgE hyg
      have hBE := hBD.trans (below_of_gr hgE (Nat.le_refl _) (by have := hBD.size; omega))
      have hzE := hgE.size
      clear hrD hoD hYD hBD hgE i0 i1
      go_wp2_with fail
      refine (pick_c _ hrE (by omega)).mono ?_; rintro e w8' ⟨v, rfl, v0, v1, hrF, hgF⟩
      have hoF := hoE.gr hgF hlo
      have hYF := hYE.gr hgF hyg
      have hBF := hBE.trans (below_of_gr hgF (Nat.le_refl _) (by have := hBE.size; omega))
      have hzF := hgF.size
      have hbb := hoF.lt _ rfl
      have hb1 : lo ≤ b := hbb.1
      obtain ⟨b', o', he, hl', hcF⟩ := hoF.rd.at hin
      cases he
      rw [Nat.zero_add] at hcF
      have hfF := hoF.2.2.frozenAt i
      have hoG := own_set (k := i) hoF v
      have hlenG : (L.set i v).length ≤ 300 := by rw [List.length_set]; exact hlen
      have hrG := hrF.farGt (gr_set (w := w8') b i (.int .i64 v)) (show g < b by omega)
      have hYG := hYF.other (a := ⟨b, i, none⟩) (show w2.heap.size ≠ b by omega) (.int .i64 v)
      have hBG := hBF.setCell (p := ⟨b, i, none⟩) (show g ≤ b by omega) (.int .i64 v)
      have hzW : lo ≤ (w8'.setCell ⟨b, i, none⟩ (.int .i64 v)).heap.size := Nat.le_trans (show lo ≤ w8'.heap.size by omega) (gr_set (w := w8') b i (.int .i64 v)).size
      clear hrE hoE hYE hBE hgF hoF hrF hYF hBF v1 v0 hbb
      obtain ⟨c0, c1, c2⟩ := box_k3 hYG
      go_wp2_with fail
      refine (l1Bad_c s t x hrG (by omega) hs).mono ?_; rintro e w9 ⟨s2, t2, x2, q9, rfl, hq9, hq10, hr9, hg9⟩
      have hz9 := hg9.size
      have ho9 := hoG.gr hg9 hlo
      have hB9 := hBG.trans (below_of_gr hg9 (Nat.le_refl _) (by have := hBG.size; omega))
      have hU := Box.new w9 #[.int .i64 s2, .int .i64 t2, .int .i64 x2] 24
      have hbl9 : Below w9.heap.size w9 (w9.alloc (.cells #[.int .i64 s2, .int .i64 t2, .int .i64 x2] 24)).drew := Below.drew ((Below.refl _ _).alloc (Nat.le_refl _) _)
      have hzA := Nat.le_trans (Nat.le_trans hzW hz9) hbl9.size
      have hrA := hr9.below hbl9
      have hoA := ho9.below hbl9
      have hUA := hU.below (Below.drew (Below.refl _ _)) hU.lt
      have hBA := hB9.trans (hbl9.mono (by have := hB9.size; omega))
      have hug : w9.heap.size ≠ g := by have := hr9.lt; omega
      have hua : ∀ a : Addr, some (⟨b, 0, none⟩ : Addr) = some a → a.block ≠ w9.heap.size := fun a ha => by have := (ho9.lt a ha).2; omega
      obtain ⟨u0', u1', u2'⟩ := box_k3 hUA
      have D0 := And.intro u0' u1'
      clear hrG hoG hYG hBG c0 c1 c2 hg9 hr9 ho9 hB9 hU hbl9 u0' u1' u2'
      go_wp2_with fail
      go_region_held3 (fun w' => w'.cell? ⟨w9.heap.size, 0, none⟩ = some (.int .i64 s2) ∧ w'.cell? ⟨w9.heap.size, 1, none⟩ = some (.int .i64 t2)) (first | exact D0 | exact D1 | exact D2) (first | (go_at_call 48; refine (l7Number_c ch hrA (by omega) (by omega)).mono ?_; rintro e w10 ⟨cn, qA, rfl, hm0, hm1, hq11, hq12, hrB, hgB⟩; have hUB := hUA.gr hgB hug; have hoB := hoA.gr hgB hlo; have hBB := hBA.trans (below_of_gr hgB (Nat.le_refl _) (by have := hBA.size; omega)); obtain ⟨x0', x1', x2'⟩ := box_k3 hUB; have D1 := And.intro x0' x1') | (go_at_call 73; refine (l7Bad_c hrB (by omega) hoB hlo hlenG (Nat.le_trans hzA hgB.size)).mono ?_; rintro e w11 ⟨a2, n2, c2, l2, qB, rfl, hrc, h301, hq13, hq14, hrC, hgC, hneC⟩; have hUC := hUB.gr2 hgC hug hua; have hBC := hBB.trans (hgC.below (Nat.le_refl g) (fun a ha => Nat.le_of_lt (Nat.lt_of_lt_of_le hlo (hoB.lt a ha).1)) (by have := hBB.size; omega)); obtain ⟨y0', y1', y2'⟩ := box_k3 hUC; have D2 := And.intro y0' y1'))
      go_wp2_with fail
      refine bodyPost_ret (tuple4 rfl _ _ _) rfl ?_
      exact ⟨s2, t2, cn, a2, n2, c2, l2, rfl, hrc, h301, by rw [hg]; exact hBC⟩
    · have hu0' : (u == 0) = false := by simpa using hu0
      have hzW : lo ≤ w7.heap.size := by omega
      clear hu0
      obtain ⟨c0, c1, c2⟩ := box_k3 hYD
      go_wp2_with fail
      refine (l1Bad_c s t x hrD (by omega) hs).mono ?_; rintro e w9 ⟨s2, t2, x2, q9, rfl, hq9, hq10, hr9, hg9⟩
      have hz9 := hg9.size
      have ho9 := hoD.gr hg9 hlo
      have hB9 := hBD.trans (below_of_gr hg9 (Nat.le_refl _) (by have := hBD.size; omega))
      have hU := Box.new w9 #[.int .i64 s2, .int .i64 t2, .int .i64 x2] 24
      have hbl9 : Below w9.heap.size w9 (w9.alloc (.cells #[.int .i64 s2, .int .i64 t2, .int .i64 x2] 24)).drew := Below.drew ((Below.refl _ _).alloc (Nat.le_refl _) _)
      have hzA := Nat.le_trans (Nat.le_trans hzW hz9) hbl9.size
      have hrA := hr9.below hbl9
      have hoA := ho9.below hbl9
      have hUA := hU.below (Below.drew (Below.refl _ _)) hU.lt
      have hBA := hB9.trans (hbl9.mono (by have := hB9.size; omega))
      have hug : w9.heap.size ≠ g := by have := hr9.lt; omega
      have hua : ∀ a : Addr, some (⟨b, 0, none⟩ : Addr) = some a → a.block ≠ w9.heap.size := fun a ha => by have := (ho9.lt a ha).2; omega
      obtain ⟨u0', u1', u2'⟩ := box_k3 hUA
      have D0 := And.intro u0' u1'
      clear hrD hoD hYD hBD c0 c1 c2 hg9 hr9 ho9 hB9 hU hbl9 u0' u1' u2'
      go_wp2_with fail
      go_region_held3 (fun w' => w'.cell? ⟨w9.heap.size, 0, none⟩ = some (.int .i64 s2) ∧ w'.cell? ⟨w9.heap.size, 1, none⟩ = some (.int .i64 t2)) (first | exact D0 | exact D1 | exact D2) (first | (go_at_call 48; refine (l7Number_c ch hrA (by omega) (by omega)).mono ?_; rintro e w10 ⟨cn, qA, rfl, hm0, hm1, hq11, hq12, hrB, hgB⟩; have hUB := hUA.gr hgB hug; have hoB := hoA.gr hgB hlo; have hBB := hBA.trans (below_of_gr hgB (Nat.le_refl _) (by have := hBA.size; omega)); obtain ⟨x0', x1', x2'⟩ := box_k3 hUB; have D1 := And.intro x0' x1') | (go_at_call 73; refine (l7Bad_c hrB (by omega) hoB hlo hlen (Nat.le_trans hzA hgB.size)).mono ?_; rintro e w11 ⟨a2, n2, c2, l2, qB, rfl, hrc, h301, hq13, hq14, hrC, hgC, hneC⟩; have hUC := hUB.gr2 hgC hug hua; have hBC := hBB.trans (hgC.below (Nat.le_refl g) (fun a ha => Nat.le_of_lt (Nat.lt_of_lt_of_le hlo (hoB.lt a ha).1)) (by have := hBB.size; omega)); obtain ⟨y0', y1', y2'⟩ := box_k3 hUC; have D2 := And.intro y0' y1'))
      go_wp2_with fail
      refine bodyPost_ret (tuple4 rfl _ _ _) rfl ?_
      exact ⟨s2, t2, cn, a2, n2, c2, l2, rfl, hrc, h301, by rw [hg]; exact hBC⟩
  · obtain rfl : nh = 0 := by omega
    have hnn : ¬ (0 : Int) < ((0 : Nat) : Int) := by omega
    have hzW := hlz
    obtain ⟨c0, c1, c2⟩ := box_k3 hY8
    go_wp2_with fail
    refine (l1Bad_c s t x hr8 (by omega) hs).mono ?_; rintro e w9 ⟨s2, t2, x2, q9, rfl, hq9, hq10, hr9, hg9⟩
    have hz9 := hg9.size
    have ho9 := ho8.gr hg9 hlo
    have hB9 := hB8.trans (below_of_gr hg9 (Nat.le_refl _) (by have := hB8.size; omega))
    have hU := Box.new w9 #[.int .i64 s2, .int .i64 t2, .int .i64 x2] 24
    have hbl9 : Below w9.heap.size w9 (w9.alloc (.cells #[.int .i64 s2, .int .i64 t2, .int .i64 x2] 24)).drew := Below.drew ((Below.refl _ _).alloc (Nat.le_refl _) _)
    have hzA := Nat.le_trans (Nat.le_trans hzW hz9) hbl9.size
    have hrA := hr9.below hbl9
    have hoA := ho9.below hbl9
    have hUA := hU.below (Below.drew (Below.refl _ _)) hU.lt
    have hBA := hB9.trans (hbl9.mono (by have := hB9.size; omega))
    have hug : w9.heap.size ≠ g := by have := hr9.lt; omega
    have hua : ∀ a, ah = some a → a.block ≠ w9.heap.size := fun a ha => by have := (ho9.lt a ha).2; omega
    obtain ⟨u0', u1', u2'⟩ := box_k3 hUA
    have D0 := And.intro u0' u1'
    clear hr8 ho8 hY8 hB8 c0 c1 c2 hg9 hr9 ho9 hB9 hU hbl9 u0' u1' u2'
    go_wp2_with fail
    go_region_held3 (fun w' => w'.cell? ⟨w9.heap.size, 0, none⟩ = some (.int .i64 s2) ∧ w'.cell? ⟨w9.heap.size, 1, none⟩ = some (.int .i64 t2)) (first | exact D0 | exact D1 | exact D2) (first | (go_at_call 48; refine (l7Number_c ch hrA (by omega) (by omega)).mono ?_; rintro e w10 ⟨cn, qA, rfl, hm0, hm1, hq11, hq12, hrB, hgB⟩; have hUB := hUA.gr hgB hug; have hoB := hoA.gr hgB hlo; have hBB := hBA.trans (below_of_gr hgB (Nat.le_refl _) (by have := hBA.size; omega)); obtain ⟨x0', x1', x2'⟩ := box_k3 hUB; have D1 := And.intro x0' x1') | (go_at_call 73; refine (l7Bad_c hrB (by omega) hoB hlo hlen (Nat.le_trans hzA hgB.size)).mono ?_; rintro e w11 ⟨a2, n2, c2, l2, qB, rfl, hrc, h301, hq13, hq14, hrC, hgC, hneC⟩; have hUC := hUB.gr2 hgC hug hua; have hBC := hBB.trans (hgC.below (Nat.le_refl g) (fun a ha => Nat.le_of_lt (Nat.lt_of_lt_of_le hlo (hoB.lt a ha).1)) (by have := hBB.size; omega)); obtain ⟨y0', y1', y2'⟩ := box_k3 hUC; have D2 := And.intro y0' y1'))
    go_wp2_with fail
    refine bodyPost_ret (tuple4 rfl _ _ _) rfl ?_
    exact ⟨s2, t2, cn, a2, n2, c2, l2, rfl, hrc, h301, by rw [hg]; exact hBC⟩

end Go.Proofs.Ytklbdkbaldkkpaa
