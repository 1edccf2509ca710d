/- Many steps forward of a valid register, of the program and of the reference. -/
import Derived.Test.YtaoahgngpjoekaaDoorRs
namespace Go.Proofs.YtaoahgngpjoekaaDoor
open Go.RowKit

/-- The state after k steps. -/
def jumpS (s t : Nat) : Nat → Nat → Nat
  | 0, x => x
  | k + 1, x => jumpS s t k (stepS s t x)
theorem jumpS_succ (s t : Nat) : ∀ (k x : Nat), jumpS s t (k + 1) x = stepS s t (jumpS s t k x) := by
  intro k
  induction k with
  | zero => intro x; rfl
  | succ k ih => intro x; rw [jumpS, ih, jumpS]
theorem jumpS_lt {s t : Nat} (hs : 2 ≤ s) : ∀ {k x : Nat}, x < 2 ^ s → jumpS s t k x < 2 ^ s := by
  intro k
  induction k with
  | zero => intro x h; exact h
  | succ k ih => intro x h; exact ih (stepS_lt hs h)

/-- Block b holds a register. -/
def RegAt (w : World) (b : Nat) (s t x : Int) : Prop := w.heap[b]? = some (.cells #[.int .i64 s, .int .i64 t, .int .i64 x] 67 (0, 0))
theorem RegAt.c0 {w : World} {b : Nat} {s t x : Int} (h : RegAt w b s t x) : w.cell? ⟨b, 0, none⟩ = some (.int .i64 s) := by unfold RegAt at h; simp [World.cell?, h]
theorem RegAt.c1 {w : World} {b : Nat} {s t x : Int} (h : RegAt w b s t x) : w.cell? ⟨b, 1, none⟩ = some (.int .i64 t) := by unfold RegAt at h; simp [World.cell?, h]
theorem RegAt.c2 {w : World} {b : Nat} {s t x : Int} (h : RegAt w b s t x) : w.cell? ⟨b, 2, none⟩ = some (.int .i64 x) := by unfold RegAt at h; simp [World.cell?, h]
theorem RegAt.free {w : World} {b : Nat} {s t x : Int} (h : RegAt w b s t x) (j : Nat) : w.frozen? ⟨b, j, none⟩ = false := by unfold RegAt at h; simp [World.frozen?, h]
theorem RegAt.lt {w : World} {b : Nat} {s t x : Int} (h : RegAt w b s t x) : b < w.heap.size := lt_of_block h
theorem RegAt.below {w w' : World} {b : Nat} {s t x : Int} (h : RegAt w b s t x) {B : Nat} (hb : Below B w w') (hB : b < B) : RegAt w' b s t x := by unfold RegAt; rw [hb.block b hB]; exact h

theorem RegAt.set0 {w : World} {b : Nat} {s t x : Int} (h : RegAt w b s t x) (y : Int) : RegAt (w.setCell ⟨b, 0, none⟩ (.int .i64 y)) b y t x := by
  unfold RegAt at *; exact heap_setCell_same w b 0 _ _ _ h
theorem RegAt.set1 {w : World} {b : Nat} {s t x : Int} (h : RegAt w b s t x) (y : Int) : RegAt (w.setCell ⟨b, 1, none⟩ (.int .i64 y)) b s y x := by
  unfold RegAt at *; exact heap_setCell_same w b 1 _ _ _ h
theorem RegAt.set2 {w : World} {b : Nat} {s t x : Int} (h : RegAt w b s t x) (y : Int) : RegAt (w.setCell ⟨b, 2, none⟩ (.int .i64 y)) b s t y := by
  unfold RegAt at *; exact heap_setCell_same w b 2 _ _ _ h
theorem RegAt.other {w : World} {b : Nat} {s t x : Int} (h : RegAt w b s t x) {a : Addr} (hne : b ≠ a.block) (u : Value) : RegAt (w.setCell a u) b s t x := by
  unfold RegAt at *; rw [Below.heap_setCell _ _ _ _ hne]; exact h

theorem regAt_two (w : World) (s t x a b c : Int) : RegAt ((w.alloc (.cells #[.int .i64 s, .int .i64 t, .int .i64 x] 67)).alloc (.cells #[.int .i64 a, .int .i64 b, .int .i64 c] 67)) w.heap.size s t x ∧ RegAt ((w.alloc (.cells #[.int .i64 s, .int .i64 t, .int .i64 x] 67)).alloc (.cells #[.int .i64 a, .int .i64 b, .int .i64 c] 67)) (w.heap.size + 1) a b c := by
  constructor
  · unfold RegAt
    rw [Below.heap_alloc _ _ _ (by simp), heap_alloc_new]
  · have := heap_alloc_new (w.alloc (.cells #[.int .i64 s, .int .i64 t, .int .i64 x] 67)) (.cells #[.int .i64 a, .int .i64 b, .int .i64 c] 67)
    simpa [RegAt] using this

set_option maxHeartbeats 1600000 in
theorem l1Jump_pos (s t x k : Nat) (w : World) (hs : 2 ≤ s ∧ s ≤ 8) (ht : t < 2 ^ s) (hx : x < 2 ^ s) (hk : k ≤ 5000) :
    Calls Tryd.prog 57 #[.agg #[.int .i64 s, .int .i64 t, .int .i64 x], .int .i64 k] w fun e w' => e = .returned (.agg #[.int .i64 s, .int .i64 t, .int .i64 (jumpS s t k x)]) ∧ Below w.heap.size w w' := by
  have HX := Lib.hid hx
  have HT := Lib.hid ht
  clear hx ht
  go_enter Tryd.func57, Tryd.ntmps57
  go_wp2_with fail
  go_loopw [5] (fun i wr => ∃ j : Nat, j ≤ k ∧ i = .int .i64 j ∧ RegAt wr w.heap.size s t (jumpS s t j x) ∧ (∃ u0 u1 u2, RegAt wr (w.heap.size + 1) u0 u1 u2) ∧ Below w.heap.size w wr) (fun i _ => k - (intOf i).toNat)
  case atStart => exact ⟨0, Nat.zero_le _, rfl, (regAt_two _ _ _ _ _ _ _).1, ⟨_, _, _, (regAt_two _ _ _ _ _ _ _).2⟩, by repeat (first | exact Below.refl _ _ | refine Below.alloc ?_ (by simp; try omega) _)⟩
  case round =>
    obtain ⟨j, hj, rfl, hR, ⟨u0, u1, u2, hU⟩, hb⟩ := hrel
    have hc0 := hR.c0
    have hc1 := hR.c1
    have hc2 := hR.c2
    have hlt0 := hR.lt
    have hlt1 := hU.lt
    by_cases hlt : j < k
    · have HJ := Lib.hid (jumpS_succ s t j x)
      have hlx := Lib.hid (jumpS_lt (t := t) (k := j) hs.1 HX.out)
      have HS := Lib.hid (l1Step_c s t (jumpS s t j x))
      generalize jumpS s t j x = y at *
      go_wp2_with fail
      refine (HS.out _ hs HT.out hlx.out).mono ?_; rintro e w1 ⟨rfl, hb1⟩
      have hR1 := hR.below hb1 hlt0
      have hU1 := hU.below hb1 hlt1
      have d0 := hR1.c0
      have d1 := hR1.c1
      have d2 := hR1.c2
      have f0 := hR1.free 0
      have f1 := hR1.free 1
      have f2 := hR1.free 2
      have hA := ((hR1.set0 s).set1 t).set2 (stepS s t y)
      have hV : RegAt _ (w.heap.size + 1) u0 u1 u2 := ((hU1.other (a := ⟨w.heap.size, 0, none⟩) (by simp) (.int .i64 s)).other (a := ⟨w.heap.size, 1, none⟩) (by simp) (.int .i64 t)).other (a := ⟨w.heap.size, 2, none⟩) (by simp) (.int .i64 (stepS s t y))
      have hB := (((hb.trans (hb1.mono (by omega))).setCell (p := ⟨w.heap.size, 0, none⟩) (Nat.le_refl _) (.int .i64 s)).setCell (p := ⟨w.heap.size, 1, none⟩) (Nat.le_refl _) (.int .i64 t)).setCell (p := ⟨w.heap.size, 2, none⟩) (Nat.le_refl _) (.int .i64 (stepS s t y))
      clear hR hU hR1 hU1 hb hb1 hc0 hc1 hc2
      go_wp2
      go_roundw
      case rel => exact ⟨j + 1, by omega, by go_num, by rw [HJ.out]; exact hA, ⟨_, _, _, hV⟩, hB⟩
      case measure => simp [intOf]; omega
    · obtain rfl : j = k := by omega
      have hneg : ¬ (0 : Int) < -(j : Int) := by omega
      have d0 := hU.c0
      have d1 := hU.c1
      have d2 := hU.c2
      have f0 := hU.free 0
      have f1 := hU.free 1
      have f2 := hU.free 2
      go_wp2_with fail
      refine wp_loop_rounds 1 ?_
      rw [rounds_succ]
      go_wp2
      refine bodyPost_ret (v := .agg #[.int .i64 s, .int .i64 t, .int .i64 (jumpS s t j x)]) (by simp [results, Tryd.results57, go_sem, d0, d1, d2]) rfl ⟨rfl, ?_⟩
      refine Below.setCell (Below.setCell (Below.setCell hb (by simp) _) (by simp) _) (by simp) _

theorem wrap64_eq (n : Int) : wrap64 n = IntKind.i64.wrap n := by rw [IntKind.wrap_i64]; unfold wrap64; omega
theorem or_step {s x q : Nat} (hs : 2 ≤ s ∧ s ≤ 8) (hx : x < 2 ^ s) (hq : q ≤ 1) : bits .or .i64 ((x : Int) / 2) (IntKind.i64.wrap ((q : Int) * 2 ^ (s - 1))) = ((x / 2 + q * 2 ^ (s - 1) : Nat) : Int) := by
  have hb := pow_size hs.2
  have hp := pow_size (s := s - 1) (by omega)
  have hqp : q * 2 ^ (s - 1) ≤ 1 * 2 ^ (s - 1) := Nat.mul_le_mul_right _ hq
  have h2 : 2 ^ s = 2 * 2 ^ (s - 1) := by rw [← Nat.pow_succ']; congr 1; omega
  have e1 : (q : Int) * 2 ^ (s - 1) = ((q * 2 ^ (s - 1) : Nat) : Int) := by rw [Int.natCast_mul, Int.natCast_pow]; rfl
  have e2 : (x : Int) / 2 = ((x / 2 : Nat) : Int) := by omega
  have e3 : q * 2 ^ (s - 1) % 2 ^ (s - 1) = 0 := Nat.mul_mod_left _ _
  rw [e1, i64_wrap_nat _ (by omega), e2, i64_or _ _ (by omega) (by omega), Nat.or_comm, nat_join (s - 1) _ _ e3 (by omega), Nat.add_comm]



/-- The post of a function that hands back a register and a bool. -/
def RetRegB (w : World) (r : Option (Int × Int × Int)) (e : Ending) (w' : World) : Prop :=
  e = .returned (.tuple #[.agg #[.int .i64 (r.getD (0, 0, 0)).1, .int .i64 (r.getD (0, 0, 0)).2.1, .int .i64 (r.getD (0, 0, 0)).2.2], .bool r.isSome]) ∧ Below w.heap.size w w'

end Go.Proofs.YtaoahgngpjoekaaDoor
