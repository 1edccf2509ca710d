/- The bits that a register runs through, of the program and of the reference; sums of bits. No condition beyond lengths. -/
import Derived.Test.YtmoamgmhdeckmaaKc
import Derived.Test.YtmoamgmhdeckmaaRh
import Derived.Test.YtmoamgmhdeckmaaD
namespace Go.Proofs.Ytmoamgmhdeckmaa
open Go.RowKit

/-- The first n bits of a register. -/
def runL (s t x n : Nat) : List Int := (List.range n).map fun i => ((48 + jumpS s t i x % 2 : Nat) : Int)
theorem runL_len (s t x n : Nat) : (runL s t x n).length = n := by simp [runL]
theorem runL_get {s t x n i : Nat} (h : i < (runL s t x n).length) : (runL s t x n)[i] = ((48 + jumpS s t i x % 2 : Nat) : Int) := by simp [runL]
theorem runL_bit (s t x n : Nat) : ∀ y ∈ runL s t x n, isBit y := by
  intro y hy
  unfold runL at hy
  obtain ⟨i, _, rfl⟩ := List.mem_map.1 hy
  unfold isBit; omega
theorem fill_far {w : World} {lo g m k b : Nat} {L Z : List Int} (h : FillB w lo g m L Z k) (hb : b < lo) (j : Nat) (u : Value) : FillB (w.setCell ⟨b, j, none⟩ u) lo g m L Z k :=
  ⟨ownsRow_gr h.1 (gr_set b j u) hb, h.2⟩

set_option maxRecDepth 100000 in
set_option maxHeartbeats 1600000 in
theorem RunRegister_c (S T X m : Nat) (w : World) (h1 : regB S T X = true) (hS : 2 ≤ S ∧ S ≤ 8) (hT : T < 2 ^ S) (hX : X < 2 ^ S) (hm : m ≤ 600) :
    Calls Try.prog 78 #[.agg #[.int .i64 S, .int .i64 T, .int .i64 X], .int .i64 m] w fun e w' => e = .returned (.tuple #[.string (text (runL S T X m)), .bool true]) ∧ Below w.heap.size w w' := by
  have hR0 := regAt_one w S T X
  have hB0 : Below w.heap.size w (w.alloc (.cells #[.int .i64 S, .int .i64 T, .int .i64 X] 26)) := (Below.refl _ _).alloc (Nat.le_refl _) _
  have HZ := Lib.hid (show (w.alloc (.cells #[.int .i64 S, .int .i64 T, .int .i64 X] 26)).heap.size = w.heap.size + 1 by simp)
  have HX := Lib.hid hX; have HT := Lib.hid hT
  clear hX hT
  have HLL := Lib.hid (runL_len S T X m)
  go_enter Try.func78, Try.ntmps78
  go_wp2_with fail
  refine (RegisterValid_c _ _ _ _).mono ?_; rintro e w1 ⟨rfl, hb1⟩
  rw [h1]
  clear h1
  have hR1 := hR0.below hb1 (by rw [HZ.out]; omega)
  have hB1 := hB0.trans (hb1.mono (by rw [HZ.out]; omega))
  have hl1 := hR1.lt
  clear hR0 hB0 hb1
  go_wp2_with (at_make; refine wp_makeF 29 5 1 (0 : Int) Try.underlying29 info_u8 rfl (by decide) w1 rfl _ _ rfl .i64 .i64 m rfl rfl (by omega) ?_; intro w2 hown hb2)
  have hF := FillF.start hown HLL.out (by simp)
  have hR2 := hR1.below hb2 hl1
  have hB2 := hB1.trans (hb2.mono (by omega))
  clear hR1 hB1 hown
  go_loopw [23] (fun i wr => ∃ k : Nat, k ≤ m ∧ i = .int .i64 k ∧ FillB wr w1.heap.size w1.heap.size m (runL S T X m) (List.replicate m 0) k ∧ RegAt wr w.heap.size S T (jumpS S T k X) ∧ Below w.heap.size w wr) (fun i _ => m - (intOf i).toNat)
  case atStart => exact ⟨0, Nat.zero_le _, rfl, hF, hR2, hB2⟩
  case round =>
    clear hF hR2 hB2 hb2
    obtain ⟨k, hk, rfl, hF, hR, hb⟩ := hrel
    by_cases hlt : k < m
    · have HJ := Lib.hid (jumpS_succ S T k X)
      have hlx := jumpS_lt (t := T) (k := k) hS.1 HX.out
      have HG := Lib.hid (fun hl => @runL_get S T X m k hl)
      have hp := pow_size hS.2
      have hy : jumpS S T k X ≤ 256 := by omega
      have HY := Lib.hid hlx; clear hlx hp
      generalize jumpS S T k X = y at *
      have HN := Lib.hid (nextState_c S T y)
      obtain ⟨d, hd⟩ : ∃ d, d = y % 2 := ⟨_, rfl⟩
      have hd1 : d ≤ 1 := by omega
      have EA := Lib.hid (show bits .and .i64 (y : Int) 1 = (d : Int) by
        have h2 := i64_and y 1 (by omega) (by omega)
        rw [show ((1 : Nat) : Int) = 1 from rfl] at h2
        rw [h2, Nat.and_one_is_mod, hd])
      rw [← hd] at HG
      clear hd
      have hc0 := hR.c0
      have hc1 := hR.c1
      have hc2 := hR.c2
      obtain ⟨z, hcF⟩ := hF.cell hlt
      have hfF := hF.free k
      have hst := hF.step hlt (y := .int .u8 ((48 + d : Nat) : Int)) (fun hl => by rw [HG.out hl])
      have hb' := hb.setCell (p := ⟨w1.heap.size, k, none⟩) (by show w.heap.size ≤ w1.heap.size; omega) (.int .u8 ((48 + d : Nat) : Int))
      have hR' := hR.other (a := ⟨w1.heap.size, k, none⟩) (by show w.heap.size ≠ w1.heap.size; omega) (.int .u8 ((48 + d : Nat) : Int))
      have g0 := hR'.c0
      have g1 := hR'.c1
      have g2 := hR'.c2
      have hl2 := hR'.lt
      go_wp2_with fail
      rw [EA.out]
      refine (bitOf_c _ _ hd1).mono ?_; rintro e w' ⟨rfl, rfl⟩
      go_wp2_with fail
      refine (HN.out _ hS HT.out HY.out).mono ?_; rintro e w2 ⟨rfl, hb3⟩
      have hR3 := hR'.below hb3 hl2
      have hF3 := hst.alter hb3
      have e2 := hR3.c2
      have f2 := hR3.free 2
      have hA := hR3.set2 (stepS S T y)
      have hB := (hb'.trans (hb3.mono hb'.size)).setCell (p := ⟨w.heap.size, 2, none⟩) (Nat.le_refl _) (.int .i64 (stepS S T y))
      have hF4 := fill_far hF3 (b := w.heap.size) hl1 2 (.int .i64 (stepS S T y))
      clear hF hb hb' hb3 hR hR' hR3 hF3 hst
      go_wp2_with fail
      go_roundw
      case rel => exact ⟨k + 1, by omega, by go_num, hF4, by rw [HJ.out]; exact hA, hB⟩
      case measure => simp [intOf]; omega
    · obtain rfl : k = m := by omega
      have hd0 := hF.done (Nat.le_refl _)
      obtain ⟨a1, n1, c1, e1, ho⟩ := hd0.own (by rw [HLL.out]; omega)
      cases e1
      have hrd := ho.rd
      go_wp2_with (with_reducible refine wp_text 29 5 9 Try.underlying29 Try.underlying5 Try.underlying9 _ rfl (.tmp 37) rfl rfl hrd ?_)
      go_ret2
      exact ⟨rfl, hb⟩

set_option maxRecDepth 100000 in
set_option maxHeartbeats 1600000 in
theorem l1Run_c (S T X m : Nat) (w : World) (hS : 2 ≤ S ∧ S ≤ 8) (hT : T < 2 ^ S) (hX : X < 2 ^ S) (hm : m ≤ 600) :
    Calls Try.prog 71 #[.agg #[.int .i64 S, .int .i64 T, .int .i64 X], .int .i64 m] w fun e w' => e = .returned (.string (text (runL S T X m))) ∧ Below w.heap.size w w' := by
  have hR1 := regAt_one w S T X
  have hB1 : Below w.heap.size w (w.alloc (.cells #[.int .i64 S, .int .i64 T, .int .i64 X] 26)) := (Below.refl _ _).alloc (Nat.le_refl _) _
  obtain ⟨w1, hw1⟩ : ∃ w1, w1 = w.alloc (.cells #[.int .i64 S, .int .i64 T, .int .i64 X] 26) := ⟨_, rfl⟩
  have HX := Lib.hid hX; have HT := Lib.hid hT
  clear hX hT
  have HLL := Lib.hid (runL_len S T X m)
  go_enter Try.func71, Try.ntmps71
  rw [← hw1] at hR1 hB1
  have hl1 := hR1.lt
  go_wp2_with (at_make; rw [← hw1]; clear hw1; refine wp_makeF 29 5 1 (0 : Int) Try.underlying29 info_u8 rfl (by decide) w1 rfl _ _ rfl .i64 .i64 m rfl rfl (by omega) ?_; intro w2 hown hb2)
  have hF := FillF.start hown HLL.out (by simp)
  have hR2 := hR1.below hb2 hl1
  have hB2 := hB1.trans (hb2.mono (by omega))
  clear hR1 hB1 hown
  go_loopw [6] (fun i wr => ∃ k : Nat, k ≤ m ∧ i = .int .i64 k ∧ FillB wr w1.heap.size w1.heap.size m (runL S T X m) (List.replicate m 0) k ∧ RegAt wr w.heap.size S T (jumpS S T k X) ∧ Below w.heap.size w wr) (fun i _ => m - (intOf i).toNat)
  case atStart => exact ⟨0, Nat.zero_le _, rfl, hF, hR2, hB2⟩
  case round =>
    clear hF hR2 hB2 hb2
    obtain ⟨k, hk, rfl, hF, hR, hb⟩ := hrel
    by_cases hlt : k < m
    · have HJ := Lib.hid (jumpS_succ S T k X)
      have hlx := jumpS_lt (t := T) (k := k) hS.1 HX.out
      have HG := Lib.hid (fun hl => @runL_get S T X m k hl)
      have hp := pow_size hS.2
      have hy : jumpS S T k X ≤ 256 := by omega
      have HY := Lib.hid hlx; clear hlx hp
      generalize jumpS S T k X = y at *
      have HN := Lib.hid (l1Step_c S T y)
      obtain ⟨d, hd⟩ : ∃ d, d = y % 2 := ⟨_, rfl⟩
      have hd1 : d ≤ 1 := by omega
      have e1 : (y : Int).tmod 2 = (d : Int) := by rw [hd]; rfl
      have e2 : (y : Int) % 2 = (d : Int) := by rw [hd]; rfl
      rw [← hd] at HG
      clear hd
      have hc0 := hR.c0
      have hc1 := hR.c1
      have hc2 := hR.c2
      obtain ⟨z, hcF⟩ := hF.cell hlt
      have hfF := hF.free k
      have hst := hF.step hlt (y := .int .u8 (48 + (d : Int))) (fun hl => by rw [HG.out hl]; rfl)
      have hb' := hb.setCell (p := ⟨w1.heap.size, k, none⟩) (by show w.heap.size ≤ w1.heap.size; omega) (.int .u8 (48 + (d : Int)))
      have hR' := hR.other (a := ⟨w1.heap.size, k, none⟩) (by show w.heap.size ≠ w1.heap.size; omega) (.int .u8 (48 + (d : Int)))
      have g0 := hR'.c0
      have g1 := hR'.c1
      have g2 := hR'.c2
      have hl2 := hR'.lt
      go_wp2_with fail
      refine (HN.out _ hS HT.out HY.out).mono ?_; rintro e w2 ⟨rfl, hb3⟩
      have hR3 := hR'.below hb3 hl2
      have hF3 := hst.alter hb3
      have q0 := hR3.c0
      have q1 := hR3.c1
      have q2 := hR3.c2
      have f0 := hR3.free 0
      have f1 := hR3.free 1
      have f2 := hR3.free 2
      have hA := ((hR3.set0 S).set1 T).set2 (stepS S T y)
      have hB := (((hb'.trans (hb3.mono hb'.size)).setCell (p := ⟨w.heap.size, 0, none⟩) (Nat.le_refl _) (.int .i64 S)).setCell (p := ⟨w.heap.size, 1, none⟩) (Nat.le_refl _) (.int .i64 T)).setCell (p := ⟨w.heap.size, 2, none⟩) (Nat.le_refl _) (.int .i64 (stepS S T y))
      have hF4 := fill_far (fill_far (fill_far hF3 (b := w.heap.size) hl1 0 (.int .i64 S)) (b := w.heap.size) hl1 1 (.int .i64 T)) (b := w.heap.size) hl1 2 (.int .i64 (stepS S T y))
      clear hF hb hb' hb3 hR hR' hR3 hF3 hst
      go_wp2_with fail
      go_roundw
      case rel => exact ⟨k + 1, by omega, by go_num, hF4, by rw [HJ.out]; exact hA, hB⟩
      case measure => simp [intOf]; omega
    · obtain rfl : k = m := by omega
      have hd0 := hF.done (Nat.le_refl _)
      obtain ⟨a1, n1, c1, e1, ho⟩ := hd0.own (by rw [HLL.out]; omega)
      cases e1
      have hrd := ho.rd
      go_wp2_with (with_reducible refine wp_text 29 5 9 Try.underlying29 Try.underlying5 Try.underlying9 _ rfl (.tmp 24) rfl rfl hrd ?_)
      go_ret
      exact ⟨rfl, hb⟩

end Go.Proofs.Ytmoamgmhdeckmaa
