/- Many steps forward of a valid register, of the program and of the reference. -/
import Derived.Test.YtdedcablhahbnaaDoorRs
namespace Go.Proofs.YtdedcablhahbnaaDoor
open Go.RowKit

/-- The state after k steps. -/
def jumpS (s t : Nat) : Nat → Nat → Nat
  | 0, x => x
  | k + 1, x => jumpS s t k (stepS s t x)
theorem jumpS_succ (s t : Nat) : ∀ (k x : Nat), jumpS s t (k + 1) x = stepS s t (jumpS s t k x) := by
  intro k
  induction k with
  | zero => intro x; rfl
  | succ k ih => intro x; rw [jumpS, ih, jumpS]
theorem jumpS_lt {s t : Nat} (hs : 2 ≤ s) : ∀ {k x : Nat}, x < 2 ^ s → jumpS s t k x < 2 ^ s := by
  intro k
  induction k with
  | zero => intro x h; exact h
  | succ k ih => intro x h; exact ih (stepS_lt hs h)


theorem wrap64_eq (n : Int) : wrap64 n = IntKind.i64.wrap n := by rw [IntKind.wrap_i64]; unfold wrap64; omega
theorem or_step {s x q : Nat} (hs : 2 ≤ s ∧ s ≤ 8) (hx : x < 2 ^ s) (hq : q ≤ 1) : bits .or .i64 ((x : Int) / 2) (IntKind.i64.wrap ((q : Int) * 2 ^ (s - 1))) = ((x / 2 + q * 2 ^ (s - 1) : Nat) : Int) := by
  have hb := pow_size hs.2
  have hp := pow_size (s := s - 1) (by omega)
  have hqp : q * 2 ^ (s - 1) ≤ 1 * 2 ^ (s - 1) := Nat.mul_le_mul_right _ hq
  have h2 : 2 ^ s = 2 * 2 ^ (s - 1) := by rw [← Nat.pow_succ']; congr 1; omega
  have e1 : (q : Int) * 2 ^ (s - 1) = ((q * 2 ^ (s - 1) : Nat) : Int) := by rw [Int.natCast_mul, Int.natCast_pow]; rfl
  have e2 : (x : Int) / 2 = ((x / 2 : Nat) : Int) := by omega
  have e3 : q * 2 ^ (s - 1) % 2 ^ (s - 1) = 0 := Nat.mul_mod_left _ _
  rw [e1, i64_wrap_nat _ (by omega), e2, i64_or _ _ (by omega) (by omega), Nat.or_comm, nat_join (s - 1) _ _ e3 (by omega), Nat.add_comm]



/-- The post of a function that hands back a register and a bool. -/
def RetRegB (w : World) (r : Option (Int × Int × Int)) (e : Ending) (w' : World) : Prop :=
  e = .returned (.tuple #[.agg #[.int .i64 (r.getD (0, 0, 0)).1, .int .i64 (r.getD (0, 0, 0)).2.1, .int .i64 (r.getD (0, 0, 0)).2.2], .bool r.isSome]) ∧ Below w.heap.size w w'

end Go.Proofs.YtdedcablhahbnaaDoor
