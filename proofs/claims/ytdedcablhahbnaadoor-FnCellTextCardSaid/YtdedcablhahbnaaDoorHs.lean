/- ShiftHops of the program and of the reference. No condition beyond lengths. -/
import Derived.Test.YtdedcablhahbnaaDoorHj
import Derived.Deep.RegionLaw
namespace Go.Proofs.YtdedcablhahbnaaDoor
open Go.RowKit

theorem Own.cap {w : World} {lo : Nat} {ao : Option Addr} {n c : Nat} {l : List Int} (h : Own w lo ao n c l) : n ≤ c := by
  rcases h.2.2.2 with ⟨h1, h2⟩ | ⟨g, cap, cur, hv, _, _, hc, _⟩
  · omega
  · cases hv; exact hc

def rotL (k : Nat) (l : List Int) : List Int := l.drop k ++ l.take k
def shiftHops (l : List Int) (k : Int) : Option (List Int) := if (hopsB l 16 && decide (0 < l.length)) = true then some (rotL (k % l.length).toNat l) else none
theorem shiftHops_no1 {l : List Int} {k : Int} (h : hopsB l 16 = false) : shiftHops l k = none := by simp [shiftHops, h]
theorem shiftHops_no2 {l : List Int} {k : Int} (h : l.length = 0) : shiftHops l k = none := by simp [shiftHops, h]
theorem shiftHops_yes {l : List Int} {k : Int} (h : hopsB l 16 = true) (h2 : 0 < l.length) : shiftHops l k = some (rotL (k % l.length).toNat l) := by simp [shiftHops, h, h2]

/-- slices.Grow of a nil slice: a row of the call's own without elements. -/
def RetV (w : World) (l : List Int) (e : Ending) (w' : World) : Prop := ∃ v, e = .returned v ∧ OwnV w' w.heap.size v l ∧ Below w.heap.size w w'

end Go.Proofs.YtdedcablhahbnaaDoor
