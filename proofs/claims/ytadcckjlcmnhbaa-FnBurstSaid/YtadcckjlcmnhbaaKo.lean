/- RepeatBits of the program and of the reference. No condition beyond lengths. -/
import Derived.Test.YtadcckjlcmnhbaaKm
namespace Go.Proofs.Ytadcckjlcmnhbaa
open Go.RowKit

def bitsR (t : ByteArray) : Option ByteArray := if bitsB t = true then some t else none
set_option maxHeartbeats 400000 in
theorem bitsOrNone_c (t : ByteArray) (w : World) : Calls Try.prog 93 #[.string t] w (RetTB w (bitsR t)) := by
  by_cases h : bitsB t = true
  · have hr := Lib.hid (show bitsR t = some t from if_pos h)
    go_enter Try.func93, Try.ntmps93
    go_wp2_with fail
    refine (isBits_c _ _).mono ?_; rintro e w' ⟨rfl, rfl⟩
    rw [h]
    go_wp2_with fail
    go_ret2
    exact retTB_some hr.out (Below.refl _ _)
  · have h' : bitsB t = false := by simpa using h
    have hr := Lib.hid (show bitsR t = none from if_neg h)
    clear h
    go_enter Try.func93, Try.ntmps93
    go_wp2_with fail
    refine (isBits_c _ _).mono ?_; rintro e w' ⟨rfl, rfl⟩
    rw [h']
    go_wp2_with fail
    go_ret2
    exact retTB_none hr.out (Below.refl _ _)
theorem bits_rep {s : ByteArray} {N : Nat} (h1 : bitsB s = true) (h2 : oddB N = true) : bitsR (repT s N) = repR s N := by
  by_cases h3 : s.size * N ≤ 600
  · rw [repR_yes h1 h2 h3]
    have hz : (repT s N).size ≤ 600 := by rw [repT_size]; exact h3
    have ha : allS bitC (repT s N) = true := allS_bitL (repL_bit N (bits_all h1))
    exact if_pos (bits_mk hz ha)
  · rw [repR_no3 h3]
    refine if_neg fun h => h3 ?_
    have := bits_le h
    rwa [repT_size] at this

end Go.Proofs.Ytadcckjlcmnhbaa
