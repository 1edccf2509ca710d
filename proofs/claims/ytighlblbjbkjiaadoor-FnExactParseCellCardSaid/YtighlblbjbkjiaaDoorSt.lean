/- Stations: what the laws' helpers do with one; StrengthOf and PowerGoal of the program and of the reference. -/
import Derived.Test.YtighlblbjbkjiaaDoorSs
namespace Go.Proofs.YtighlblbjbkjiaaDoor
open Go.RowKit

def szS (nm ph : ByteArray) (left : Int) : Int := if left < (nm.size : Int) + (ph.size : Int) then -1 else left - nm.size - ph.size
theorem szS_no {nm ph : ByteArray} {left : Int} (h : left < (nm.size : Int) + (ph.size : Int)) : szS nm ph left = -1 := by simp [szS, h]
theorem szS_yes {nm ph : ByteArray} {left : Int} (h : (nm.size : Int) + (ph.size : Int) ≤ left) : szS nm ph left = left - nm.size - ph.size := by
  unfold szS; rw [if_neg (by omega)]

set_option maxHeartbeats 800000 in
theorem szStation_c (nm ph : ByteArray) (g l left : Int) (w : World) (hn : nm.size ≤ maxLen) (hp : ph.size ≤ maxLen) (h0 : 0 ≤ left) (h1 : left ≤ 1048576) :
    Calls Tryd.prog 19 #[.agg #[.string nm, .string ph, .int .i64 g, .int .i64 l], .int .i64 left] w fun e w' => e = .returned (.int .i64 (szS nm ph left)) ∧ Below w.heap.size w w' := by
  have hb : Below w.heap.size w (w.alloc (.cells #[.string nm, .string ph, .int .i64 g, .int .i64 l] 40)) := (Below.refl _ _).alloc (Nat.le_refl _) _
  unfold maxLen at hn hp
  by_cases h2 : left - (nm.size : Int) < 0
  · have hr := Lib.hid (szS_no (nm := nm) (ph := ph) (left := left) (by omega))
    go_enter Tryd.func19, Tryd.ntmps19
    go_wp2
    go_ret
    exact ⟨ret_i hr.out.symm, hb⟩
  · by_cases h3 : left - (nm.size : Int) - (ph.size : Int) < 0
    · have hr := Lib.hid (szS_no (nm := nm) (ph := ph) (left := left) (by omega))
      go_enter Tryd.func19, Tryd.ntmps19
      go_wp2
      go_ret
      exact ⟨ret_i hr.out.symm, hb⟩
    · have hr := Lib.hid (szS_yes (nm := nm) (ph := ph) (left := left) (by omega))
      go_enter Tryd.func19, Tryd.ntmps19
      go_wp2
      go_ret
      exact ⟨ret_i hr.out.symm, hb⟩

set_option maxHeartbeats 800000 in
theorem toStation_c (nm ph : ByteArray) (g l : Int) (w : World) : Calls Tryd.prog 23 #[.agg #[.string nm, .string ph, .int .i64 g, .int .i64 l]] w fun e w' => e = .returned (.agg #[.string nm, .string ph, .int .i64 g, .int .i64 l]) ∧ Below w.heap.size w w' := by
  go_enter Tryd.func23, Tryd.ntmps23
  go_wp2
  refine bodyPost_ret (v := .agg #[.string nm, .string ph, .int .i64 g, .int .i64 l]) (by simp [results, Tryd.results23, go_sem]) rfl ⟨rfl, ?_⟩
  repeat (first | exact Below.refl _ _ | refine Below.drew ?_ | refine Below.alloc ?_ (by simp; try omega) _ | refine Below.setCell ?_ (by simp) _)

theorem strOf_no {nm ph : ByteArray} {g l : Int} (h : stB nm ph g l = false) : strOf nm ph g l = -1 := by simp [strOf, h]
theorem strOf_yes {nm ph : ByteArray} {g l : Int} (h : stB nm ph g l = true) : strOf nm ph g l = g / l := by simp [strOf, h]
theorem goalOf_no1 {nm ph : ByteArray} {g l t : Int} (h : stB nm ph g l = false) : goalOf nm ph g l t = -1 := by simp [goalOf, h]
theorem goalOf_no2 {nm ph : ByteArray} {g l t : Int} (h : inB t 0 40 = false) : goalOf nm ph g l t = -1 := by simp [goalOf, h]
theorem goalOf_yes {nm ph : ByteArray} {g l t : Int} (h : stB nm ph g l = true) (h' : inB t 0 40 = true) : goalOf nm ph g l t = min (t * l) 1000 := by simp [goalOf, h, h']

end Go.Proofs.YtighlblbjbkjiaaDoor
