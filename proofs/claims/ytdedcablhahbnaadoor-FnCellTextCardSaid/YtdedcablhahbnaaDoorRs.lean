/- A step of a valid register, of the program and of the reference. -/
import Derived.Test.YtdedcablhahbnaaDoorRg
import Derived.Deep.RegionHeld3
namespace Go.Proofs.YtdedcablhahbnaaDoor
open Go.RowKit

/-- The state after a step. -/
def stepS (s t x : Nat) : Nat := x / 2 + par (x &&& t) * 2 ^ (s - 1)
theorem stepS_lt {s t x : Nat} (hs : 2 ≤ s) (hx : x < 2 ^ s) : stepS s t x < 2 ^ s := by
  unfold stepS
  have h1 := par_le (x &&& t)
  have h2 : 2 ^ s = 2 * 2 ^ (s - 1) := by rw [← Nat.pow_succ']; congr 1; omega
  have h3 : par (x &&& t) * 2 ^ (s - 1) ≤ 1 * 2 ^ (s - 1) := Nat.mul_le_mul_right _ h1
  omega
theorem pow_size {s : Nat} (h : s ≤ 8) : 1 ≤ 2 ^ s ∧ 2 ^ s ≤ 256 := by
  refine ⟨Nat.one_le_two_pow, ?_⟩
  exact Nat.le_trans (Nat.pow_le_pow_right (by omega) h) (by decide)

end Go.Proofs.YtdedcablhahbnaaDoor
