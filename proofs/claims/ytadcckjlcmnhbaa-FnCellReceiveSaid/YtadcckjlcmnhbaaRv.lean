/- Which lists of numbers are signals (SignalValid of the program and of the reference). No condition beyond lengths. -/
import Derived.Test.YtadcckjlcmnhbaaRu
import Derived.Test.YtadcckjlcmnhbaaHv
namespace Go.Proofs.Ytadcckjlcmnhbaa
open Go.RowKit

def sigB (l : List Int) : Bool := decide (l.length ≤ 3000) && allB (-1000000) 1000000 l

set_option maxHeartbeats 800000 in
theorem SignalValid_c {ao : Option Addr} {n c : Nat} {l : List Int} {w : World} (h : Rd w ao n l) :
    Calls Try.prog 14 #[.slice ao n c] w fun e w' => e = .returned (.bool (sigB l)) ∧ w = w' := by
  by_cases h3 : (n : Int) ≤ 3000
  · have hr := Lib.hid (show sigB l = allB (-1000000) 1000000 l by unfold sigB; rw [decide_eq_true (by rw [← h.1]; omega), Bool.true_and])
    go_enter Try.func14, Try.ntmps14
    go_wp2_with fail
    refine (numbersWithin_c (-1000000) 1000000 h).mono ?_; rintro e w' ⟨rfl, rfl⟩
    go_wp2_with fail
    go_ret
    exact ⟨ret_b hr.out.symm, rfl⟩
  · have hr := Lib.hid (show sigB l = false by unfold sigB; rw [decide_eq_false (by rw [← h.1]; omega), Bool.false_and])
    go_enter Try.func14, Try.ntmps14
    go_wp2_with fail
    go_ret
    exact ⟨ret_b hr.out.symm, rfl⟩

set_option maxHeartbeats 800000 in
theorem sSignalValid_c {ao : Option Addr} {n c : Nat} {l : List Int} {w : World} (h : Rd w ao n l) :
    Calls Try.prog 139 #[.slice ao n c] w fun e w' => e = .returned (.bool (sigB l)) ∧ w = w' := by
  have hs := h.2.1
  have HN := Lib.hid h.1
  go_enter Try.func139, Try.ntmps139
  go_wp2
  go_loop [3] (fun i => ∃ k : Nat, k ≤ n ∧ i = .int .i64 k ∧ Hid (allB (-1000000) 1000000 (l.take k) = true)) (fun i => n - (intOf i).toNat)
  case atStart => exact ⟨0, Nat.zero_le _, rfl, Lib.hid rfl⟩
  case round =>
    obtain ⟨k, hk, rfl, HA⟩ := hrel
    by_cases hlt : k < n
    · obtain ⟨bk, off, rfl, hl, hc⟩ := h.at hlt
      clear h
      go_wp2_with fail
      refine (l1In_c _ _ _ _).mono ?_; rintro e w' ⟨rfl, rfl⟩
      by_cases h1 : inB l[k] (-1000000) 1000000 = true
      · rw [h1]
        have HT := Lib.hid (allB_take_succ hl HA.out h1)
        clear h1
        go_wp2_with fail
        go_round
        case rel => exact ⟨k + 1, by omega, by go_num, HT⟩
        case measure => simp [intOf]; omega
      · have h1' : inB l[k] (-1000000) 1000000 = false := by simpa using h1
        rw [h1']
        have hr := Lib.hid (show sigB l = false by unfold sigB; rw [allB_false hl h1', Bool.and_false])
        clear h1 h1'
        go_wp2_with fail
        go_ret
        exact ⟨ret_b hr.out.symm, rfl⟩
    · have hr := Lib.hid (show sigB l = decide ((n : Int) ≤ 3000) by
        unfold sigB; rw [allB_whole (by have := HN.out; omega) HA.out, Bool.and_true]; exact decide_eq_decide.2 (by have := HN.out; omega))
      go_wp2_with fail
      go_ret
      exact ⟨ret_b hr.out.symm, rfl⟩

end Go.Proofs.Ytadcckjlcmnhbaa
