/- Stations: what the laws' helpers do with one; StrengthOf and PowerGoal of the program and of the reference. -/
import Derived.Test.YtdedcablhahbnaaDoorSs
namespace Go.Proofs.YtdedcablhahbnaaDoor
open Go.RowKit

def szS (nm ph : ByteArray) (left : Int) : Int := if left < (nm.size : Int) + (ph.size : Int) then -1 else left - nm.size - ph.size
theorem szS_no {nm ph : ByteArray} {left : Int} (h : left < (nm.size : Int) + (ph.size : Int)) : szS nm ph left = -1 := by simp [szS, h]
theorem szS_yes {nm ph : ByteArray} {left : Int} (h : (nm.size : Int) + (ph.size : Int) ≤ left) : szS nm ph left = left - nm.size - ph.size := by
  unfold szS; rw [if_neg (by omega)]



theorem strOf_no {nm ph : ByteArray} {g l : Int} (h : stB nm ph g l = false) : strOf nm ph g l = -1 := by simp [strOf, h]
theorem strOf_yes {nm ph : ByteArray} {g l : Int} (h : stB nm ph g l = true) : strOf nm ph g l = g / l := by simp [strOf, h]
theorem goalOf_no1 {nm ph : ByteArray} {g l t : Int} (h : stB nm ph g l = false) : goalOf nm ph g l t = -1 := by simp [goalOf, h]
theorem goalOf_no2 {nm ph : ByteArray} {g l t : Int} (h : inB t 0 40 = false) : goalOf nm ph g l t = -1 := by simp [goalOf, h]
theorem goalOf_yes {nm ph : ByteArray} {g l t : Int} (h : stB nm ph g l = true) (h' : inB t 0 40 = true) : goalOf nm ph g l t = min (t * l) 1000 := by simp [goalOf, h, h']

end Go.Proofs.YtdedcablhahbnaaDoor
