/- Many steps forward of a valid register, of the program and of the reference. -/
import Derived.Test.YtadcckjlcmnhbaaRs
namespace Go.Proofs.Ytadcckjlcmnhbaa
open Go.RowKit

/-- The state after k steps. -/
def jumpS (s t : Nat) : Nat → Nat → Nat
  | 0, x => x
  | k + 1, x => jumpS s t k (stepS s t x)
theorem jumpS_succ (s t : Nat) : ∀ (k x : Nat), jumpS s t (k + 1) x = stepS s t (jumpS s t k x) := by
  intro k
  induction k with
  | zero => intro x; rfl
  | succ k ih => intro x; rw [jumpS, ih, jumpS]
theorem jumpS_lt {s t : Nat} (hs : 2 ≤ s) : ∀ {k x : Nat}, x < 2 ^ s → jumpS s t k x < 2 ^ s := by
  intro k
  induction k with
  | zero => intro x h; exact h
  | succ k ih => intro x h; exact ih (stepS_lt hs h)

/-- Block b holds a register. -/
def RegAt (w : World) (b : Nat) (s t x : Int) : Prop := w.heap[b]? = some (.cells #[.int .i64 s, .int .i64 t, .int .i64 x] 42 (0, 0))
theorem RegAt.c0 {w : World} {b : Nat} {s t x : Int} (h : RegAt w b s t x) : w.cell? ⟨b, 0, none⟩ = some (.int .i64 s) := by unfold RegAt at h; simp [World.cell?, h]
theorem RegAt.c1 {w : World} {b : Nat} {s t x : Int} (h : RegAt w b s t x) : w.cell? ⟨b, 1, none⟩ = some (.int .i64 t) := by unfold RegAt at h; simp [World.cell?, h]
theorem RegAt.c2 {w : World} {b : Nat} {s t x : Int} (h : RegAt w b s t x) : w.cell? ⟨b, 2, none⟩ = some (.int .i64 x) := by unfold RegAt at h; simp [World.cell?, h]
theorem RegAt.free {w : World} {b : Nat} {s t x : Int} (h : RegAt w b s t x) (j : Nat) : w.frozen? ⟨b, j, none⟩ = false := by unfold RegAt at h; simp [World.frozen?, h]
theorem RegAt.lt {w : World} {b : Nat} {s t x : Int} (h : RegAt w b s t x) : b < w.heap.size := lt_of_block h
theorem RegAt.below {w w' : World} {b : Nat} {s t x : Int} (h : RegAt w b s t x) {B : Nat} (hb : Below B w w') (hB : b < B) : RegAt w' b s t x := by unfold RegAt; rw [hb.block b hB]; exact h

theorem RegAt.set0 {w : World} {b : Nat} {s t x : Int} (h : RegAt w b s t x) (y : Int) : RegAt (w.setCell ⟨b, 0, none⟩ (.int .i64 y)) b y t x := by
  unfold RegAt at *; exact heap_setCell_same w b 0 _ _ _ h
theorem RegAt.set1 {w : World} {b : Nat} {s t x : Int} (h : RegAt w b s t x) (y : Int) : RegAt (w.setCell ⟨b, 1, none⟩ (.int .i64 y)) b s y x := by
  unfold RegAt at *; exact heap_setCell_same w b 1 _ _ _ h
theorem RegAt.set2 {w : World} {b : Nat} {s t x : Int} (h : RegAt w b s t x) (y : Int) : RegAt (w.setCell ⟨b, 2, none⟩ (.int .i64 y)) b s t y := by
  unfold RegAt at *; exact heap_setCell_same w b 2 _ _ _ h
theorem RegAt.other {w : World} {b : Nat} {s t x : Int} (h : RegAt w b s t x) {a : Addr} (hne : b ≠ a.block) (u : Value) : RegAt (w.setCell a u) b s t x := by
  unfold RegAt at *; rw [Below.heap_setCell _ _ _ _ hne]; exact h

theorem regAt_two (w : World) (s t x a b c : Int) : RegAt ((w.alloc (.cells #[.int .i64 s, .int .i64 t, .int .i64 x] 42)).alloc (.cells #[.int .i64 a, .int .i64 b, .int .i64 c] 42)) w.heap.size s t x ∧ RegAt ((w.alloc (.cells #[.int .i64 s, .int .i64 t, .int .i64 x] 42)).alloc (.cells #[.int .i64 a, .int .i64 b, .int .i64 c] 42)) (w.heap.size + 1) a b c := by
  constructor
  · unfold RegAt
    rw [Below.heap_alloc _ _ _ (by simp), heap_alloc_new]
  · have := heap_alloc_new (w.alloc (.cells #[.int .i64 s, .int .i64 t, .int .i64 x] 42)) (.cells #[.int .i64 a, .int .i64 b, .int .i64 c] 42)
    simpa [RegAt] using this


theorem wrap64_eq (n : Int) : wrap64 n = IntKind.i64.wrap n := by rw [IntKind.wrap_i64]; unfold wrap64; omega
theorem or_step {s x q : Nat} (hs : 2 ≤ s ∧ s ≤ 8) (hx : x < 2 ^ s) (hq : q ≤ 1) : bits .or .i64 ((x : Int) / 2) (IntKind.i64.wrap ((q : Int) * 2 ^ (s - 1))) = ((x / 2 + q * 2 ^ (s - 1) : Nat) : Int) := by
  have hb := pow_size hs.2
  have hp := pow_size (s := s - 1) (by omega)
  have hqp : q * 2 ^ (s - 1) ≤ 1 * 2 ^ (s - 1) := Nat.mul_le_mul_right _ hq
  have h2 : 2 ^ s = 2 * 2 ^ (s - 1) := by rw [← Nat.pow_succ']; congr 1; omega
  have e1 : (q : Int) * 2 ^ (s - 1) = ((q * 2 ^ (s - 1) : Nat) : Int) := by rw [Int.natCast_mul, Int.natCast_pow]; rfl
  have e2 : (x : Int) / 2 = ((x / 2 : Nat) : Int) := by omega
  have e3 : q * 2 ^ (s - 1) % 2 ^ (s - 1) = 0 := Nat.mul_mod_left _ _
  rw [e1, i64_wrap_nat _ (by omega), e2, i64_or _ _ (by omega) (by omega), Nat.or_comm, nat_join (s - 1) _ _ e3 (by omega), Nat.add_comm]

set_option maxHeartbeats 1600000 in
theorem nextState_c (s t x : Nat) (w : World) (hs : 2 ≤ s ∧ s ≤ 8) (ht : t < 2 ^ s) (hx : x < 2 ^ s) :
    Calls Try.prog 133 #[.agg #[.int .i64 s, .int .i64 t, .int .i64 x]] w fun e w' => e = .returned (.int .i64 (stepS s t x)) ∧ Below w.heap.size w w' := by
  have hb := pow_size hs.2
  have hx2 : x < 256 := by omega
  have ht2 : t < 256 := by omega
  have ha := i64_and x t (by omega) (by omega)
  have hal : x &&& t ≤ x := Nat.and_le_left
  have HP := Lib.hid (Parity_c (x &&& t))
  have hq := par_le (x &&& t)
  have HQ := Lib.hid (show stepS s t x = x / 2 + par (x &&& t) * 2 ^ (s - 1) from rfl)
  generalize par (x &&& t) = q at HP hq HQ
  generalize stepS s t x = z at *
  have hw1 : IntKind.i64.wrap ((x : Int) / 2) = (x : Int) / 2 := IntWalk.i64_in _ (by omega)
  have hw2 : IntKind.i64.wrap ((s : Int) - 1) = (s : Int) - 1 := IntWalk.i64_in _ (by omega)
  have HX := Lib.hid hx
  clear hb hx ht
  go_enter Try.func133, Try.ntmps133
  go_wp2_with fail
  go_quiet ((go_at_call 146; exact quiet_eq (HP.out _ (by omega))))
  clear hw1 hw2
  go_wp2
  go_ret
  exact ⟨ret_i (by rw [wrap64_eq, or_step hs HX.out hq, HQ.out]), below_box _ _ _⟩


/-- The post of a function that hands back a register and a bool. -/
def RetRegB (w : World) (r : Option (Int × Int × Int)) (e : Ending) (w' : World) : Prop :=
  e = .returned (.tuple #[.agg #[.int .i64 (r.getD (0, 0, 0)).1, .int .i64 (r.getD (0, 0, 0)).2.1, .int .i64 (r.getD (0, 0, 0)).2.2], .bool r.isSome]) ∧ Below w.heap.size w w'

end Go.Proofs.Ytadcckjlcmnhbaa
