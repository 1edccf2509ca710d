/- What the laws' own helpers on slices of texts do: szStringS, toStringS, eqStringS. No condition beyond a length of at most 2 to the 40. -/
import Derived.Test.YtfeocobkclcnfaaG
namespace Go.Proofs.Ytfeocobkclcnfaa
open Go.RowKit

/-- A slice of texts that the call made. -/
def RetTexts (w : World) (l : List ByteArray) (e : Ending) (w' : World) : Prop :=
  ∃ ao n c, e = .returned (.slice ao n c) ∧ OwnT w' w.heap.size ao n c l ∧ Below w.heap.size w w'

set_option maxRecDepth 100000 in
set_option maxHeartbeats 800000 in
theorem szStringS_c {ao : Option Addr} {n c : Nat} {l : List ByteArray} {w : World} (left : Int) (h : RdT w ao n l) (hs : ∀ s ∈ l, s.size ≤ maxLen) (h0 : 0 ≤ left) (h1 : left ≤ 1048576) :
    Calls Try.prog 7 #[.slice ao n c, .int .i64 left] w fun e w' => (∃ v : Int, e = .returned (.int .i64 v) ∧ -1 ≤ v ∧ v ≤ left ∧ (0 ≤ v → n ≤ 1048576 ∧ ∀ s ∈ l, s.size ≤ 1048576)) ∧ w = w' := by
  have hsz := h.2.1
  have HN := Lib.hid h.1
  have HS := Lib.hid hs
  clear hs
  by_cases hneg : left - (n : Int) < 0
  · go_enter Try.func7, Try.ntmps7
    go_wp2
    go_ret
    exact ⟨⟨-1, rfl, by omega, by omega, fun h => absurd h (by omega)⟩, rfl⟩
  · go_enter Try.func7, Try.ntmps7
    go_wp2
    go_loop [1, 5] (fun q i => ∃ (k : Nat) (L : Int), k ≤ n ∧ i = .int .i64 k ∧ q = .int .i64 L ∧ 0 ≤ L ∧ L ≤ left ∧ Hid (∀ s ∈ l.take k, s.size ≤ 1048576)) (fun _ i => n - (intOf i).toNat)
    case atStart => exact ⟨0, left - n, Nat.zero_le _, rfl, rfl, by omega, by omega, Lib.hid (fun s hs => by simp at hs)⟩
    case round =>
      obtain ⟨k, L, hk, rfl, rfl, hL0, hL1, HT⟩ := hrel
      by_cases hlt : k < n
      · obtain ⟨b1, o1, rfl, hl, hc⟩ := h.at hlt
        have hus := HS.out _ (List.getElem_mem hl)
        obtain ⟨u, hu⟩ : ∃ u, u = l[k] := ⟨_, rfl⟩
        have HU := Lib.hid hu
        rw [← hu] at hc hus
        clear hu
        have hus2 : u.size ≤ 9223372036854775807 := by unfold maxLen at hus; omega
        clear hus
        by_cases hun : L - (u.size : Int) < 0
        · go_wp2
          go_ret
          exact ⟨⟨-1, rfl, by omega, by omega, fun h => absurd h (by omega)⟩, rfl⟩
        · have HT2 := Lib.hid (show ∀ s ∈ l.take (k + 1), s.size ≤ 1048576 from fun s hs => by
            rw [List.take_succ_eq_append_getElem hl] at hs
            rcases List.mem_append.1 hs with hs | hs
            · exact HT.out s hs
            · rw [List.mem_singleton.1 hs, ← HU.out]; omega)
          go_wp2
          go_round
          case rel => exact ⟨k + 1, L - u.size, by omega, by go_num, by go_num, by omega, by omega, HT2⟩
          case measure => simp [intOf]; omega
      · have hT := HT.out
        rw [List.take_of_length_le (by rw [← HN.out]; omega)] at hT
        go_wp2
        go_ret
        exact ⟨⟨L, rfl, by omega, hL1, fun _ => ⟨by omega, hT⟩⟩, rfl⟩

set_option maxHeartbeats 800000 in
theorem szStringS_big {ao : Option Addr} {n c : Nat} {w : World} (left : Int) (h0 : 0 ≤ left) (h1 : left ≤ 1048576) (h2 : left < (n : Int)) (hn : n ≤ maxLen) :
    Calls Try.prog 7 #[.slice ao n c, .int .i64 left] w fun e w' => e = .returned (.int .i64 (-1)) ∧ w = w' := by
  have hn2 : n ≤ 9223372036854775807 := by unfold maxLen at hn; omega
  have hneg : left - (n : Int) < 0 := by omega
  clear hn
  go_enter Try.func7, Try.ntmps7
  go_wp2
  go_ret
  exact ⟨rfl, rfl⟩

set_option maxRecDepth 100000 in
set_option maxHeartbeats 800000 in
theorem toStringS_c {ao : Option Addr} {n c : Nat} {l : List ByteArray} {w : World} (h : RdT w ao n l) :
    Calls Try.prog 10 #[.slice ao n c] w (RetTexts w l) := by
  have hs := h.2.1
  have HN := Lib.hid h.1
  go_enter Try.func10, Try.ntmps10
  go_wp2_with (at_make; refine wp_makeF 23 9 16 ByteArray.empty Try.underlying23 info_str rfl (by decide) w rfl _ _ rfl .i64 .i64 n rfl rfl (by omega) ?_; intro w1 hownF hbF)
  have hF := FillF.start hownF HN.out.symm (by simp)
  clear hownF
  go_loopw [4] (fun i wr => ∃ k : Nat, k ≤ n ∧ i = .int .i64 k ∧ FillT wr w.heap.size w.heap.size n l (List.replicate n ByteArray.empty) k ∧ Below w.heap.size w wr) (fun i _ => n - (intOf i).toNat)
  case atStart => exact ⟨0, Nat.zero_le _, rfl, hF, hbF⟩
  case round =>
    clear hF hbF
    obtain ⟨k, hk, rfl, hF, hb⟩ := hrel
    by_cases hlt : k < n
    · obtain ⟨bk, off, rfl, hl, hc⟩ := (h.below hb).at hlt
      obtain ⟨z, hcz⟩ := hF.cell hlt
      have hf := hF.free k
      have hst := hF.step hlt (y := .string l[k]) (fun hl => rfl)
      have hbn := hF.below hb (.string l[k])
      clear hF hb
      go_wp2
      go_roundw
      case rel => exact ⟨k + 1, by omega, by go_num, hst, hbn⟩
      case measure => simp [intOf]; omega
    · obtain rfl : k = n := by omega
      obtain ⟨a1, n1, c1, e1, ho⟩ := (hF.done (Nat.le_refl _)).own (by rw [← HN.out]; omega)
      cases e1
      go_wp2
      go_ret
      exact ⟨_, _, _, rfl, ho, hb⟩

set_option maxHeartbeats 800000 in
theorem eqStringS_same {ao bo : Option Addr} {n m c d : Nat} {l : List ByteArray} {w : World} (h : RdT w ao n l) (h' : RdT w bo m l) :
    Calls Try.prog 14 #[.slice ao n c, .slice bo m d] w fun e w' => e = .returned (.bool true) ∧ Qw w w' := by
  have hs := h.2.1
  obtain rfl : n = m := by rw [h.1, h'.1]
  go_enter Try.func14, Try.ntmps14
  go_wp2
  go_loopw [5] (fun i wr => ∃ k : Nat, k ≤ n ∧ i = .int .i64 k ∧ Qw w wr) (fun i _ => n - (intOf i).toNat)
  case atStart => exact ⟨0, Nat.zero_le _, rfl, Qw.refl _⟩
  case round =>
    obtain ⟨k, hk, rfl, hq⟩ := hrel
    by_cases hlt : k < n
    · obtain ⟨b1, o1, rfl, hl, hc⟩ := (h.qw hq).at hlt
      obtain ⟨b2, o2, rfl, hl', hc'⟩ := (h'.qw hq).at hlt
      clear h h'
      go_wp2
      go_quiet (fail)
      go_wp2
      go_roundw
      case rel => exact ⟨k + 1, by omega, by go_num, hq.trans (Qw.drewN _ _)⟩
      case measure => simp [intOf]; omega
    · go_wp2
      go_ret
      exact ⟨rfl, hq⟩

end Go.Proofs.Ytfeocobkclcnfaa
