/- Stations: what the laws' helpers do with one; StrengthOf and PowerGoal of the program and of the reference. -/
import Derived.Test.YtadcckjlcmnhbaaSs
namespace Go.Proofs.Ytadcckjlcmnhbaa
open Go.RowKit

def szS (nm ph : ByteArray) (left : Int) : Int := if left < (nm.size : Int) + (ph.size : Int) then -1 else left - nm.size - ph.size
theorem szS_no {nm ph : ByteArray} {left : Int} (h : left < (nm.size : Int) + (ph.size : Int)) : szS nm ph left = -1 := by simp [szS, h]
theorem szS_yes {nm ph : ByteArray} {left : Int} (h : (nm.size : Int) + (ph.size : Int) ≤ left) : szS nm ph left = left - nm.size - ph.size := by
  unfold szS; rw [if_neg (by omega)]



theorem strOf_no {nm ph : ByteArray} {g l : Int} (h : stB nm ph g l = false) : strOf nm ph g l = -1 := by simp [strOf, h]
theorem strOf_yes {nm ph : ByteArray} {g l : Int} (h : stB nm ph g l = true) : strOf nm ph g l = g / l := by simp [strOf, h]
theorem goalOf_no1 {nm ph : ByteArray} {g l t : Int} (h : stB nm ph g l = false) : goalOf nm ph g l t = -1 := by simp [goalOf, h]
theorem goalOf_no2 {nm ph : ByteArray} {g l t : Int} (h : inB t 0 40 = false) : goalOf nm ph g l t = -1 := by simp [goalOf, h]
theorem goalOf_yes {nm ph : ByteArray} {g l t : Int} (h : stB nm ph g l = true) (h' : inB t 0 40 = true) : goalOf nm ph g l t = min (t * l) 1000 := by simp [goalOf, h, h']

set_option maxHeartbeats 800000 in
theorem StrengthOf_c (nm ph : ByteArray) (g l : Int) (w : World) : Calls Try.prog 13 #[.agg #[.string nm, .string ph, .int .i64 g, .int .i64 l]] w fun e w' => e = .returned (.int .i64 (strOf nm ph g l)) ∧ Below w.heap.size w w' := by
  have hb : Below w.heap.size w (w.alloc (.cells #[.string nm, .string ph, .int .i64 g, .int .i64 l] 34)) := (Below.refl _ _).alloc (Nat.le_refl _) _
  have hB := Box.new w #[.string nm, .string ph, .int .i64 g, .int .i64 l] 34
  have hlt := Lib.hid hB.lt
  by_cases h : stB nm ph g l = true
  · obtain ⟨hg, hl⟩ := stB_ranges h
    have hr := Lib.hid (strOf_yes h)
    have hne : (l == 0) = false := by simp; omega
    go_enter Try.func13, Try.ntmps13
    go_wp2_with fail
    refine (stationValid_c _ _ _ _ _).mono ?_; rintro e w1 ⟨rfl, hb1⟩
    have c2 := (hB.below hb1 hlt.out).cell (i := 2) rfl
    have c3 := (hB.below hb1 hlt.out).cell (i := 3) rfl
    have hb2 := hb.trans (hb1.mono (by simp))
    clear hB
    go_wp2_with fail
    go_ret
    exact ⟨ret_i hr.out.symm, hb2⟩
  · have h' : stB nm ph g l = false := by simpa using h
    have hr := Lib.hid (strOf_no h')
    clear h
    go_enter Try.func13, Try.ntmps13
    go_wp2_with fail
    refine (stationValid_c _ _ _ _ _).mono ?_; rintro e w1 ⟨rfl, hb1⟩
    have hb2 := hb.trans (hb1.mono (by simp))
    go_wp2_with fail
    go_ret
    exact ⟨ret_i hr.out.symm, hb2⟩

end Go.Proofs.Ytadcckjlcmnhbaa
