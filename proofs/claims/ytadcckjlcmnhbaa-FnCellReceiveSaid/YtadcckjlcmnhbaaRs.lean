/- A step of a valid register, of the program and of the reference. -/
import Derived.Test.YtadcckjlcmnhbaaRg
import Derived.Deep.RegionHeld3
namespace Go.Proofs.Ytadcckjlcmnhbaa
open Go.RowKit

/-- The state after a step. -/
def stepS (s t x : Nat) : Nat := x / 2 + par (x &&& t) * 2 ^ (s - 1)
theorem stepS_lt {s t x : Nat} (hs : 2 ≤ s) (hx : x < 2 ^ s) : stepS s t x < 2 ^ s := by
  unfold stepS
  have h1 := par_le (x &&& t)
  have h2 : 2 ^ s = 2 * 2 ^ (s - 1) := by rw [← Nat.pow_succ']; congr 1; omega
  have h3 : par (x &&& t) * 2 ^ (s - 1) ≤ 1 * 2 ^ (s - 1) := Nat.mul_le_mul_right _ h1
  omega
theorem pow_size {s : Nat} (h : s ≤ 8) : 1 ≤ 2 ^ s ∧ 2 ^ s ≤ 256 := by
  refine ⟨Nat.one_le_two_pow, ?_⟩
  exact Nat.le_trans (Nat.pow_le_pow_right (by omega) h) (by decide)

set_option maxHeartbeats 1600000 in
set_option maxRecDepth 100000 in
theorem l1Step_c (s t x : Nat) (w : World) (hs : 2 ≤ s ∧ s ≤ 8) (ht : t < 2 ^ s) (hx : x < 2 ^ s) :
    Calls Try.prog 137 #[.agg #[.int .i64 s, .int .i64 t, .int .i64 x]] w fun e w' => e = .returned (.agg #[.int .i64 s, .int .i64 t, .int .i64 (stepS s t x)]) ∧ Below w.heap.size w w' := by
  have hb := pow_size hs.2
  have hlt := @stepS_lt s t x hs.1 hx
  have hx2 : x < 256 := by omega
  have ht2 : t < 256 := by omega
  have ha := i64_and x t (by omega) (by omega)
  have hal : x &&& t ≤ x := Nat.and_le_left
  have HP := Lib.hid (l1Parity_c (x &&& t))
  have hq := par_le (x &&& t)
  have hst := Lib.hid (show (stepS s t x : Int) = (x : Int) / 2 + (par (x &&& t) : Int) * ((2 ^ (s - 1) : Nat) : Int) by unfold stepS; rw [Int.natCast_add, Int.natCast_mul]; rfl)
  have HT := Lib.hid (show ∀ w, Calls Try.prog 105 #[.int .i64 ((s : Int) - 1)] w fun e w' => e = .returned (.int .i64 ((2 ^ (s - 1) : Nat) : Int)) ∧ w = w' from fun w => by
    have h := l1Two_c ((s : Int) - 1) w (by omega)
    rw [show ((s : Int) - 1).toNat = s - 1 by omega] at h
    have e : ((2 ^ (s - 1) : Nat) : Int) = (2 : Int) ^ (s - 1) := by rw [Int.natCast_pow]; rfl
    rw [e]; exact h)
  have hp := pow_size (s := s - 1) (by omega)
  generalize 2 ^ (s - 1) = p at hst HT hp
  generalize par (x &&& t) = q at hst HP hq
  generalize stepS s t x = z at *
  have hz : z < 256 := by omega
  obtain ⟨r, hr⟩ : ∃ r, r = q * p := ⟨_, rfl⟩
  have hr2 : r ≤ 256 := by
    rw [hr]; exact Nat.le_trans (Nat.mul_le_mul hq hp.2) (by omega)
  have hmul : (q : Int) * (p : Int) = (r : Int) := by rw [hr, Int.natCast_mul]
  have hst2 := hst.out
  rw [hmul] at hst2
  have hw1 : IntKind.i64.wrap ((x : Int) / 2) = (x : Int) / 2 := IntWalk.i64_in _ (by omega)
  have hw2 : IntKind.i64.wrap ((s : Int) - 1) = (s : Int) - 1 := IntWalk.i64_in _ (by omega)
  have hw3 : IntKind.i64.wrap ((q : Int) * (p : Int)) = (r : Int) := by rw [hmul]; exact IntWalk.i64_in _ (by omega)
  have hw4 : IntKind.i64.wrap ((x : Int) / 2 + (r : Int)) = (z : Int) := by rw [← hst2]; exact IntWalk.i64_in _ (by omega)
  clear hlt hb hx ht hmul hst2 hr hst
  go_enter Try.func137, Try.ntmps137
  go_wp2_with fail
  refine wp_region_still_tail 16 (by kernel_rfl) (by kernel_rfl) ?_
  simp only [List.take_succ_cons, List.take_zero, List.drop_succ_cons, List.drop_zero]
  change wpStill _ _ (World.drew _) _ _ _
  repeat (first | still_step | still_call ((HP.out _ (by omega)).mono fun _ _ ⟨a, b⟩ => ⟨a, b.symm⟩) | still_call ((HT.out _).mono fun _ _ ⟨a, b⟩ => ⟨a, b.symm⟩))
  refine wpStill_nil ?_
  clear hw1 hw2 hw3 hw4
  change wpList _ _ _ _ _ (World.drew _)
  go_wp2_with fail
  refine bodyPost_ret (v := .agg #[.int .i64 s, .int .i64 t, .int .i64 z]) (by simp [results, Try.results137, go_sem]) rfl ⟨rfl, ?_⟩
  repeat (first | exact Below.refl _ _ | refine Below.drew ?_ | refine Below.alloc ?_ (by simp) _ | refine Below.setCell ?_ (by simp) _)

end Go.Proofs.Ytadcckjlcmnhbaa
