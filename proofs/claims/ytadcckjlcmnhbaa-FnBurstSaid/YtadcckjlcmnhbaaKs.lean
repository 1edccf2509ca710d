/- The bits that a register runs through, of the program and of the reference; sums of bits. No condition beyond lengths. -/
import Derived.Test.YtadcckjlcmnhbaaKc
import Derived.Test.YtadcckjlcmnhbaaRh
import Derived.Test.YtadcckjlcmnhbaaD
import Derived.Test.YtadcckjlcmnhbaaKb
import Derived.Test.YtadcckjlcmnhbaaTb
namespace Go.Proofs.Ytadcckjlcmnhbaa
open Go.RowKit

/-- The first n bits of a register. -/
def runL (s t x n : Nat) : List Int := (List.range n).map fun i => ((48 + jumpS s t i x % 2 : Nat) : Int)
theorem runL_len (s t x n : Nat) : (runL s t x n).length = n := by simp [runL]
theorem runL_get {s t x n i : Nat} (h : i < (runL s t x n).length) : (runL s t x n)[i] = ((48 + jumpS s t i x % 2 : Nat) : Int) := by simp [runL]
theorem runL_bit (s t x n : Nat) : ∀ y ∈ runL s t x n, isBit y := by
  intro y hy
  unfold runL at hy
  obtain ⟨i, _, rfl⟩ := List.mem_map.1 hy
  unfold isBit; omega
theorem fill_far {w : World} {lo g m k b : Nat} {L Z : List Int} (h : FillB w lo g m L Z k) (hb : b < lo) (j : Nat) (u : Value) : FillB (w.setCell ⟨b, j, none⟩ u) lo g m L Z k :=
  ⟨ownsRow_gr h.1 (gr_set b j u) hb, h.2⟩

set_option maxRecDepth 100000 in
set_option maxHeartbeats 1600000 in
theorem RunRegister_c (S T X m : Nat) (w : World) (h1 : regB S T X = true) (hS : 2 ≤ S ∧ S ≤ 8) (hT : T < 2 ^ S) (hX : X < 2 ^ S) (hm : m ≤ 600) :
    Calls Try.prog 100 #[.agg #[.int .i64 S, .int .i64 T, .int .i64 X], .int .i64 m] w fun e w' => e = .returned (.tuple #[.string (text (runL S T X m)), .bool true]) ∧ Below w.heap.size w w' := by
  have hR0 := regAt_one w S T X
  have hB0 : Below w.heap.size w (w.alloc (.cells #[.int .i64 S, .int .i64 T, .int .i64 X] 42)) := (Below.refl _ _).alloc (Nat.le_refl _) _
  have HZ := Lib.hid (show (w.alloc (.cells #[.int .i64 S, .int .i64 T, .int .i64 X] 42)).heap.size = w.heap.size + 1 by simp)
  have HX := Lib.hid hX; have HT := Lib.hid hT
  clear hX hT
  have HLL := Lib.hid (runL_len S T X m)
  go_enter Try.func100, Try.ntmps100
  go_wp2_with fail
  refine (RegisterValid_c _ _ _ _).mono ?_; rintro e w1 ⟨rfl, hb1⟩
  rw [h1]
  clear h1
  have hR1 := hR0.below hb1 (by rw [HZ.out]; omega)
  have hB1 := hB0.trans (hb1.mono (by rw [HZ.out]; omega))
  have hl1 := hR1.lt
  clear hR0 hB0 hb1
  go_wp2_with (at_make; refine wp_makeF 22 5 1 (0 : Int) Try.underlying22 info_u8 rfl (by decide) w1 rfl _ _ rfl .i64 .i64 m rfl rfl (by omega) ?_; intro w2 hown hb2)
  have hF := FillF.start hown HLL.out (by simp)
  have hR2 := hR1.below hb2 hl1
  have hB2 := hB1.trans (hb2.mono (by omega))
  clear hR1 hB1 hown
  go_loopw [23] (fun i wr => ∃ k : Nat, k ≤ m ∧ i = .int .i64 k ∧ FillB wr w1.heap.size w1.heap.size m (runL S T X m) (List.replicate m 0) k ∧ RegAt wr w.heap.size S T (jumpS S T k X) ∧ Below w.heap.size w wr) (fun i _ => m - (intOf i).toNat)
  case atStart => exact ⟨0, Nat.zero_le _, rfl, hF, hR2, hB2⟩
  case round =>
    clear hF hR2 hB2 hb2
    obtain ⟨k, hk, rfl, hF, hR, hb⟩ := hrel
    by_cases hlt : k < m
    · have HJ := Lib.hid (jumpS_succ S T k X)
      have hlx := jumpS_lt (t := T) (k := k) hS.1 HX.out
      have HG := Lib.hid (fun hl => @runL_get S T X m k hl)
      have hp := pow_size hS.2
      have hy : jumpS S T k X ≤ 256 := by omega
      have HY := Lib.hid hlx; clear hlx hp
      generalize jumpS S T k X = y at *
      have HN := Lib.hid (nextState_c S T y)
      obtain ⟨d, hd⟩ : ∃ d, d = y % 2 := ⟨_, rfl⟩
      have hd1 : d ≤ 1 := by omega
      have EA := Lib.hid (show bits .and .i64 (y : Int) 1 = (d : Int) by
        have h2 := i64_and y 1 (by omega) (by omega)
        rw [show ((1 : Nat) : Int) = 1 from rfl] at h2
        rw [h2, Nat.and_one_is_mod, hd])
      rw [← hd] at HG
      clear hd
      have hc0 := hR.c0
      have hc1 := hR.c1
      have hc2 := hR.c2
      obtain ⟨z, hcF⟩ := hF.cell hlt
      have hfF := hF.free k
      have hst := hF.step hlt (y := .int .u8 ((48 + d : Nat) : Int)) (fun hl => by rw [HG.out hl])
      have hb' := hb.setCell (p := ⟨w1.heap.size, k, none⟩) (by show w.heap.size ≤ w1.heap.size; omega) (.int .u8 ((48 + d : Nat) : Int))
      have hR' := hR.other (a := ⟨w1.heap.size, k, none⟩) (by show w.heap.size ≠ w1.heap.size; omega) (.int .u8 ((48 + d : Nat) : Int))
      have g0 := hR'.c0
      have g1 := hR'.c1
      have g2 := hR'.c2
      have hl2 := hR'.lt
      go_wp2_with fail
      rw [EA.out]
      refine (bitOf_c _ _ hd1).mono ?_; rintro e w' ⟨rfl, rfl⟩
      go_wp2_with fail
      refine (HN.out _ hS HT.out HY.out).mono ?_; rintro e w2 ⟨rfl, hb3⟩
      have hR3 := hR'.below hb3 hl2
      have hF3 := hst.alter hb3
      have e2 := hR3.c2
      have f2 := hR3.free 2
      have hA := hR3.set2 (stepS S T y)
      have hB := (hb'.trans (hb3.mono hb'.size)).setCell (p := ⟨w.heap.size, 2, none⟩) (Nat.le_refl _) (.int .i64 (stepS S T y))
      have hF4 := fill_far hF3 (b := w.heap.size) hl1 2 (.int .i64 (stepS S T y))
      clear hF hb hb' hb3 hR hR' hR3 hF3 hst
      go_wp2_with fail
      go_roundw
      case rel => exact ⟨k + 1, by omega, by go_num, hF4, by rw [HJ.out]; exact hA, hB⟩
      case measure => simp [intOf]; omega
    · obtain rfl : k = m := by omega
      have hd0 := hF.done (Nat.le_refl _)
      obtain ⟨a1, n1, c1, e1, ho⟩ := hd0.own (by rw [HLL.out]; omega)
      cases e1
      have hrd := ho.rd
      go_wp2_with (with_reducible refine wp_text 22 5 9 Try.underlying22 Try.underlying5 Try.underlying9 _ rfl (.tmp 37) rfl rfl hrd ?_)
      go_ret2
      exact ⟨rfl, hb⟩

set_option maxRecDepth 100000 in
set_option maxHeartbeats 1600000 in
theorem l1Run_c (S T X m : Nat) (w : World) (hS : 2 ≤ S ∧ S ≤ 8) (hT : T < 2 ^ S) (hX : X < 2 ^ S) (hm : m ≤ 600) :
    Calls Try.prog 110 #[.agg #[.int .i64 S, .int .i64 T, .int .i64 X], .int .i64 m] w fun e w' => e = .returned (.string (text (runL S T X m))) ∧ Below w.heap.size w w' := by
  have hR1 := regAt_one w S T X
  have hB1 : Below w.heap.size w (w.alloc (.cells #[.int .i64 S, .int .i64 T, .int .i64 X] 42)) := (Below.refl _ _).alloc (Nat.le_refl _) _
  obtain ⟨w1, hw1⟩ : ∃ w1, w1 = w.alloc (.cells #[.int .i64 S, .int .i64 T, .int .i64 X] 42) := ⟨_, rfl⟩
  have HX := Lib.hid hX; have HT := Lib.hid hT
  clear hX hT
  have HLL := Lib.hid (runL_len S T X m)
  go_enter Try.func110, Try.ntmps110
  rw [← hw1] at hR1 hB1
  have hl1 := hR1.lt
  go_wp2_with (at_make; rw [← hw1]; clear hw1; refine wp_makeF 22 5 1 (0 : Int) Try.underlying22 info_u8 rfl (by decide) w1 rfl _ _ rfl .i64 .i64 m rfl rfl (by omega) ?_; intro w2 hown hb2)
  have hF := FillF.start hown HLL.out (by simp)
  have hR2 := hR1.below hb2 hl1
  have hB2 := hB1.trans (hb2.mono (by omega))
  clear hR1 hB1 hown
  go_loopw [6] (fun i wr => ∃ k : Nat, k ≤ m ∧ i = .int .i64 k ∧ FillB wr w1.heap.size w1.heap.size m (runL S T X m) (List.replicate m 0) k ∧ RegAt wr w.heap.size S T (jumpS S T k X) ∧ Below w.heap.size w wr) (fun i _ => m - (intOf i).toNat)
  case atStart => exact ⟨0, Nat.zero_le _, rfl, hF, hR2, hB2⟩
  case round =>
    clear hF hR2 hB2 hb2
    obtain ⟨k, hk, rfl, hF, hR, hb⟩ := hrel
    by_cases hlt : k < m
    · have HJ := Lib.hid (jumpS_succ S T k X)
      have hlx := jumpS_lt (t := T) (k := k) hS.1 HX.out
      have HG := Lib.hid (fun hl => @runL_get S T X m k hl)
      have hp := pow_size hS.2
      have hy : jumpS S T k X ≤ 256 := by omega
      have HY := Lib.hid hlx; clear hlx hp
      generalize jumpS S T k X = y at *
      have HN := Lib.hid (l1Step_c S T y)
      obtain ⟨d, hd⟩ : ∃ d, d = y % 2 := ⟨_, rfl⟩
      have hd1 : d ≤ 1 := by omega
      have e1 : (y : Int).tmod 2 = (d : Int) := by rw [hd]; rfl
      have e2 : (y : Int) % 2 = (d : Int) := by rw [hd]; rfl
      rw [← hd] at HG
      clear hd
      have hc0 := hR.c0
      have hc1 := hR.c1
      have hc2 := hR.c2
      obtain ⟨z, hcF⟩ := hF.cell hlt
      have hfF := hF.free k
      have hst := hF.step hlt (y := .int .u8 (48 + (d : Int))) (fun hl => by rw [HG.out hl]; rfl)
      have hb' := hb.setCell (p := ⟨w1.heap.size, k, none⟩) (by show w.heap.size ≤ w1.heap.size; omega) (.int .u8 (48 + (d : Int)))
      have hR' := hR.other (a := ⟨w1.heap.size, k, none⟩) (by show w.heap.size ≠ w1.heap.size; omega) (.int .u8 (48 + (d : Int)))
      have g0 := hR'.c0
      have g1 := hR'.c1
      have g2 := hR'.c2
      have hl2 := hR'.lt
      go_wp2_with fail
      refine (HN.out _ hS HT.out HY.out).mono ?_; rintro e w2 ⟨rfl, hb3⟩
      have hR3 := hR'.below hb3 hl2
      have hF3 := hst.alter hb3
      have q0 := hR3.c0
      have q1 := hR3.c1
      have q2 := hR3.c2
      have f0 := hR3.free 0
      have f1 := hR3.free 1
      have f2 := hR3.free 2
      have hA := ((hR3.set0 S).set1 T).set2 (stepS S T y)
      have hB := (((hb'.trans (hb3.mono hb'.size)).setCell (p := ⟨w.heap.size, 0, none⟩) (Nat.le_refl _) (.int .i64 S)).setCell (p := ⟨w.heap.size, 1, none⟩) (Nat.le_refl _) (.int .i64 T)).setCell (p := ⟨w.heap.size, 2, none⟩) (Nat.le_refl _) (.int .i64 (stepS S T y))
      have hF4 := fill_far (fill_far (fill_far hF3 (b := w.heap.size) hl1 0 (.int .i64 S)) (b := w.heap.size) hl1 1 (.int .i64 T)) (b := w.heap.size) hl1 2 (.int .i64 (stepS S T y))
      clear hF hb hb' hb3 hR hR' hR3 hF3 hst
      go_wp2_with fail
      go_roundw
      case rel => exact ⟨k + 1, by omega, by go_num, hF4, by rw [HJ.out]; exact hA, hB⟩
      case measure => simp [intOf]; omega
    · obtain rfl : k = m := by omega
      have hd0 := hF.done (Nat.le_refl _)
      obtain ⟨a1, n1, c1, e1, ho⟩ := hd0.own (by rw [HLL.out]; omega)
      cases e1
      have hrd := ho.rd
      go_wp2_with (with_reducible refine wp_text 22 5 9 Try.underlying22 Try.underlying5 Try.underlying9 _ rfl (.tmp 24) rfl rfl hrd ?_)
      go_ret
      exact ⟨rfl, hb⟩

/-- The sum of two rows of bits. -/
def sumL (a b : ByteArray) : List Int := (List.range a.size).map fun i => if (codes a).getD i 0 = (codes b).getD i 0 then 48 else 49
def sumT (a b : ByteArray) : ByteArray := text (sumL a b)
theorem sumL_len (a b : ByteArray) : (sumL a b).length = a.size := by simp [sumL]
theorem codes_at {s : ByteArray} {i : Nat} (h : i < s.size) : (codes s).getD i 0 = (s[i].toNat : Int) := by
  rw [List.getD_eq_getElem?_getD, List.getElem?_eq_getElem (by rw [codes_length]; exact h), Option.getD_some, codes_get s h]
theorem sumL_get {a b : ByteArray} {i : Nat} (h : i < (sumL a b).length) : (sumL a b)[i] = if (codes a).getD i 0 = (codes b).getD i 0 then 48 else 49 := by simp [sumL]
theorem sumL_at {a b : ByteArray} {i : Nat} {x y : Int} (ha : i < a.size) (hb : i < b.size) (hx : (a[i].toNat : Int) = x) (hy : (b[i].toNat : Int) = y) (h : i < (sumL a b).length) : (sumL a b)[i] = if x = y then 48 else 49 := by
  rw [sumL_get h, codes_at ha, codes_at hb, hx, hy]
theorem sumL_bit (a b : ByteArray) : ∀ x ∈ sumL a b, isBit x := by
  intro x hx
  unfold sumL at hx
  obtain ⟨i, _, rfl⟩ := List.mem_map.1 hx
  split
  · exact .inl rfl
  · exact .inr rfl

set_option maxRecDepth 100000 in
set_option maxHeartbeats 1600000 in
theorem sumOfBits_c (a b : ByteArray) (w : World) (hz : a.size ≤ 1000) (hab : a.size = b.size) (ha : allS bitC a = true) (hb0 : allS bitC b = true) : Calls Try.prog 101 #[.string a, .string b] w fun e w' => e = .returned (.string (sumT a b)) ∧ Below w.heap.size w w' := by
  have HL := Lib.hid (sumL_len a b)
  have HA := Lib.hid ha
  have HB := Lib.hid hb0
  have HAB := Lib.hid hab
  have HD := Lib.hid (show sumT a b = text (sumL a b) from rfl)
  clear ha hb0 hab
  go_enter Try.func101, Try.ntmps101
  go_wp2_with (at_make; refine wp_makeF 22 5 1 (0 : Int) Try.underlying22 info_u8 rfl (by decide) w rfl _ _ rfl .i64 .i64 a.size rfl rfl (by omega) ?_; intro w1 hown hb)
  have hF := FillF.start hown HL.out (by simp)
  clear hown
  go_loopw [12] (fun i wr => ∃ k : Nat, k ≤ a.size ∧ i = .int .i64 k ∧ FillB wr w.heap.size w.heap.size a.size (sumL a b) (List.replicate a.size 0) k ∧ Below w.heap.size w wr) (fun i _ => a.size - (intOf i).toNat)
  case atStart => exact ⟨0, Nat.zero_le _, rfl, hF, hb⟩
  case round =>
    clear hF hb
    obtain ⟨k, hk, rfl, hF, hb⟩ := hrel
    by_cases hlt : k < a.size
    · obtain ⟨z, hc⟩ := hF.cell hlt
      have hf := hF.free k
      have hltb : k < b.size := by rw [← HAB.out]; exact hlt
      have hva := bit_at HA.out hlt
      have hvb := bit_at HB.out hltb
      have HSA := Lib.hid (fun (x y : Int) hx hy hl => sumL_at (x := x) (y := y) hlt hltb hx hy hl)
      have hx1 : bits .xor .u8 48 48 = 0 := by decide
      have hx2 : bits .xor .u8 48 49 = 1 := by decide
      have hx3 : bits .xor .u8 49 48 = 1 := by decide
      have hx4 : bits .xor .u8 49 49 = 0 := by decide
      have hlt' : (k : Int) < (a.size : Int) := by omega
      have hltb' : (k : Int) < (b.size : Int) := by omega
      rcases hva with h48 | h48 <;> rcases hvb with g48 | g48
      ·
        have hwa : (a[k].toNat : Int) = 48 := by omega
        have hwb : (b[k].toNat : Int) = 48 := by omega
        have hst := hF.step hlt (y := .int .u8 48) (fun hl => by rw [HSA.out 48 48 hwa hwb hl]; rfl)
        have hb2 := hF.below hb (.int .u8 48)
        clear hF hb h48 g48
        go_wp2_with fail
        go_region_with (first | (go_at_call 92; refine (bitOf_c 0 _ (by omega)).mono ?_; rintro e w' ⟨rfl, rfl⟩))
        all_goals
          go_wp2_with fail
          go_roundw
          case rel => exact ⟨k + 1, by omega, by go_num, hst, hb2.drew⟩
          case measure => simp [intOf]; omega
      ·
        have hwa : (a[k].toNat : Int) = 48 := by omega
        have hwb : (b[k].toNat : Int) = 49 := by omega
        have hst := hF.step hlt (y := .int .u8 49) (fun hl => by rw [HSA.out 48 49 hwa hwb hl]; rfl)
        have hb2 := hF.below hb (.int .u8 49)
        clear hF hb h48 g48
        go_wp2_with fail
        go_region_with (first | (go_at_call 92; refine (bitOf_c 1 _ (by omega)).mono ?_; rintro e w' ⟨rfl, rfl⟩))
        all_goals
          go_wp2_with fail
          go_roundw
          case rel => exact ⟨k + 1, by omega, by go_num, hst, hb2.drew⟩
          case measure => simp [intOf]; omega
      ·
        have hwa : (a[k].toNat : Int) = 49 := by omega
        have hwb : (b[k].toNat : Int) = 48 := by omega
        have hst := hF.step hlt (y := .int .u8 49) (fun hl => by rw [HSA.out 49 48 hwa hwb hl]; rfl)
        have hb2 := hF.below hb (.int .u8 49)
        clear hF hb h48 g48
        go_wp2_with fail
        go_region_with (first | (go_at_call 92; refine (bitOf_c 1 _ (by omega)).mono ?_; rintro e w' ⟨rfl, rfl⟩))
        all_goals
          go_wp2_with fail
          go_roundw
          case rel => exact ⟨k + 1, by omega, by go_num, hst, hb2.drew⟩
          case measure => simp [intOf]; omega
      ·
        have hwa : (a[k].toNat : Int) = 49 := by omega
        have hwb : (b[k].toNat : Int) = 49 := by omega
        have hst := hF.step hlt (y := .int .u8 48) (fun hl => by rw [HSA.out 49 49 hwa hwb hl]; rfl)
        have hb2 := hF.below hb (.int .u8 48)
        clear hF hb h48 g48
        go_wp2_with fail
        go_region_with (first | (go_at_call 92; refine (bitOf_c 0 _ (by omega)).mono ?_; rintro e w' ⟨rfl, rfl⟩))
        all_goals
          go_wp2_with fail
          go_roundw
          case rel => exact ⟨k + 1, by omega, by go_num, hst, hb2.drew⟩
          case measure => simp [intOf]; omega
    · obtain rfl : k = a.size := by omega
      obtain ⟨a1, n1, c1, e1, ho⟩ := (hF.done (Nat.le_refl _)).own (by rw [HL.out]; omega)
      cases e1
      have hrd := ho.rd
      go_wp2_with (with_reducible refine wp_text 22 5 9 Try.underlying22 Try.underlying5 Try.underlying9 _ rfl (.tmp 28) rfl rfl hrd ?_)
      go_ret
      exact ⟨by rw [HD.out]; rfl, hb⟩

set_option maxRecDepth 100000 in
set_option maxHeartbeats 1600000 in
theorem l2AddB_c (a b : ByteArray) (w : World) (hz : a.size ≤ 1000) (hab : a.size = b.size) (ha : allS bitC a = true) (hb0 : allS bitC b = true) : Calls Try.prog 109 #[.string a, .string b] w fun e w' => e = .returned (.string (sumT a b)) ∧ Below w.heap.size w w' := by
  have HL := Lib.hid (sumL_len a b)
  have HA := Lib.hid ha
  have HB := Lib.hid hb0
  have HAB := Lib.hid hab
  have HD := Lib.hid (show sumT a b = text (sumL a b) from rfl)
  clear ha hb0 hab
  go_enter Try.func109, Try.ntmps109
  go_wp2_with (at_make; refine wp_makeF 22 5 1 (0 : Int) Try.underlying22 info_u8 rfl (by decide) w rfl _ _ rfl .i64 .i64 a.size rfl rfl (by omega) ?_; intro w1 hown hb)
  have hF := FillF.start hown HL.out (by simp)
  clear hown
  go_loopw [6] (fun i wr => ∃ k : Nat, k ≤ a.size ∧ i = .int .i64 k ∧ FillB wr w.heap.size w.heap.size a.size (sumL a b) (List.replicate a.size 0) k ∧ Below w.heap.size w wr) (fun i _ => a.size - (intOf i).toNat)
  case atStart => exact ⟨0, Nat.zero_le _, rfl, hF, hb⟩
  case round =>
    clear hF hb
    obtain ⟨k, hk, rfl, hF, hb⟩ := hrel
    by_cases hlt : k < a.size
    · obtain ⟨z, hc⟩ := hF.cell hlt
      have hf := hF.free k
      have hltb : k < b.size := by rw [← HAB.out]; exact hlt
      have hva := bit_at HA.out hlt
      have hvb := bit_at HB.out hltb
      have HSA := Lib.hid (fun (x y : Int) hx hy hl => sumL_at (x := x) (y := y) hlt hltb hx hy hl)
      have hx1 : bits .xor .u8 48 0 = 48 := by decide
      have hx2 : bits .xor .u8 48 1 = 49 := by decide
      have hx3 : bits .xor .u8 49 0 = 49 := by decide
      have hx4 : bits .xor .u8 49 1 = 48 := by decide
      have hlt' : (k : Int) < (a.size : Int) := by omega
      have hltb' : (k : Int) < (b.size : Int) := by omega
      rcases hva with h48 | h48 <;> rcases hvb with g48 | g48
      ·
        have hwa : (a[k].toNat : Int) = 48 := by omega
        have hwb : (b[k].toNat : Int) = 48 := by omega
        have hst := hF.step hlt (y := .int .u8 48) (fun hl => by rw [HSA.out 48 48 hwa hwb hl]; rfl)
        have hb2 := hF.below hb (.int .u8 48)
        clear hF hb h48 g48
        go_wp2_with fail
        go_still_tail 13, (by kernel_rfl)
        go_wp2_with fail
        go_roundw
        case rel => exact ⟨k + 1, by omega, by go_num, hst, hb2.drew⟩
        case measure => simp [intOf]; omega
      ·
        have hwa : (a[k].toNat : Int) = 48 := by omega
        have hwb : (b[k].toNat : Int) = 49 := by omega
        have hst := hF.step hlt (y := .int .u8 49) (fun hl => by rw [HSA.out 48 49 hwa hwb hl]; rfl)
        have hb2 := hF.below hb (.int .u8 49)
        clear hF hb h48 g48
        go_wp2_with fail
        go_still_tail 13, (by kernel_rfl)
        go_wp2_with fail
        go_roundw
        case rel => exact ⟨k + 1, by omega, by go_num, hst, hb2.drew⟩
        case measure => simp [intOf]; omega
      ·
        have hwa : (a[k].toNat : Int) = 49 := by omega
        have hwb : (b[k].toNat : Int) = 48 := by omega
        have hst := hF.step hlt (y := .int .u8 49) (fun hl => by rw [HSA.out 49 48 hwa hwb hl]; rfl)
        have hb2 := hF.below hb (.int .u8 49)
        clear hF hb h48 g48
        go_wp2_with fail
        go_still_tail 13, (by kernel_rfl)
        go_wp2_with fail
        go_roundw
        case rel => exact ⟨k + 1, by omega, by go_num, hst, hb2.drew⟩
        case measure => simp [intOf]; omega
      ·
        have hwa : (a[k].toNat : Int) = 49 := by omega
        have hwb : (b[k].toNat : Int) = 49 := by omega
        have hst := hF.step hlt (y := .int .u8 48) (fun hl => by rw [HSA.out 49 49 hwa hwb hl]; rfl)
        have hb2 := hF.below hb (.int .u8 48)
        clear hF hb h48 g48
        go_wp2_with fail
        go_still_tail 13, (by kernel_rfl)
        go_wp2_with fail
        go_roundw
        case rel => exact ⟨k + 1, by omega, by go_num, hst, hb2.drew⟩
        case measure => simp [intOf]; omega
    · obtain rfl : k = a.size := by omega
      obtain ⟨a1, n1, c1, e1, ho⟩ := (hF.done (Nat.le_refl _)).own (by rw [HL.out]; omega)
      cases e1
      have hrd := ho.rd
      go_wp2_with (with_reducible refine wp_text 22 5 9 Try.underlying22 Try.underlying5 Try.underlying9 _ rfl (.tmp 29) rfl rfl hrd ?_)
      go_ret
      exact ⟨by rw [HD.out]; rfl, hb⟩

def scrT (b : ByteArray) (S T X : Nat) : ByteArray := sumT b (text (runL S T X b.size))
def scrR (b : ByteArray) (s t x : Int) : Option ByteArray := if (bitsB b && regB s t x) = true then some (scrT b s.toNat t.toNat x.toNat) else none
theorem scrR_no1 {b : ByteArray} {s t x : Int} (h : bitsB b = false) : scrR b s t x = none := by unfold scrR; rw [h]; rfl
theorem scrR_no2 {b : ByteArray} {s t x : Int} (h : regB s t x = false) : scrR b s t x = none := by unfold scrR; rw [h, Bool.and_false]; rfl
theorem scrR_yes {b : ByteArray} {S T X : Nat} (h1 : bitsB b = true) (h2 : regB S T X = true) : scrR b S T X = some (scrT b S T X) := by unfold scrR; rw [h1, h2]; rfl
theorem run_bits (S T X n : Nat) : allS bitC (text (runL S T X n)) = true := by
  unfold allS text
  rw [List.all_eq_true]
  intro c hc
  simp only [List.mem_map] at hc
  obtain ⟨x, hx, rfl⟩ := hc
  rcases runL_bit S T X n x hx with rfl | rfl <;> rfl
theorem scr_bits (b : ByteArray) (S T X : Nat) : allS bitC (scrT b S T X) = true := by
  unfold allS scrT sumT text
  rw [List.all_eq_true]
  intro c hc
  simp only [List.mem_map] at hc
  obtain ⟨x, hx, rfl⟩ := hc
  rcases sumL_bit _ _ x hx with rfl | rfl <;> rfl
theorem scr_size (b : ByteArray) (S T X : Nat) : (scrT b S T X).size = b.size := by unfold scrT sumT; rw [text_size, sumL_len]

set_option maxHeartbeats 1600000 in
theorem ScrambleBits_c (b : ByteArray) (s t x : Int) (w : World) : Calls Try.prog 53 #[.string b, .agg #[.int .i64 s, .int .i64 t, .int .i64 x]] w (RetTB w (scrR b s t x)) := by
  have hR0 := regAt_one w s t x
  have hB0 : Below w.heap.size w (w.alloc (.cells #[.int .i64 s, .int .i64 t, .int .i64 x] 42)) := (Below.refl _ _).alloc (Nat.le_refl _) _
  have HZ := Lib.hid (show (w.alloc (.cells #[.int .i64 s, .int .i64 t, .int .i64 x] 42)).heap.size = w.heap.size + 1 by simp)
  have c0 := hR0.c0
  have c1 := hR0.c1
  have c2 := hR0.c2
  by_cases h1 : bitsB b = true
  · by_cases h2 : regB s t x = true
    · obtain ⟨S, T, X, rfl, rfl, rfl, hS, hT, hX⟩ := regB_nat h2
      have hr := Lib.hid (scrR_yes h1 h2)
      have h6 := bits_le h1
      have HA := Lib.hid (bits_all h1)
      have HB := Lib.hid (run_bits S T X b.size)
      have HD := Lib.hid (show scrT b S T X = sumT b (text (runL S T X b.size)) from rfl)
      have hrz : (text (runL S T X b.size)).size = b.size := by rw [text_size, runL_len]
      have HRZ := Lib.hid hrz
      have HTX := Lib.hid (And.intro hT.2 hX)
      have HRG := Lib.hid h2
      clear hT hX hrz
      go_enter Try.func53, Try.ntmps53
      go_wp2_with fail
      refine (isBits_c _ _).mono ?_; rintro e w' ⟨rfl, rfl⟩
      rw [h1]
      go_wp2_with fail
      refine (RegisterValid_c _ _ _ _).mono ?_; rintro e w1 ⟨rfl, hb1⟩
      rw [h2]
      have hR1 := hR0.below hb1 (by rw [HZ.out]; omega)
      have hB1 := hB0.trans (hb1.mono (by rw [HZ.out]; omega))
      have d0 := hR1.c0
      have d1 := hR1.c1
      have d2 := hR1.c2
      clear hR0 hB0 hb1 c0 c1 c2 h1 h2
      go_wp2_with fail
      refine (RunRegister_c S T X b.size _ HRG.out hS HTX.out.1 HTX.out.2 h6).mono ?_; rintro e w2 ⟨rfl, hb2⟩
      have hB2 := hB1.trans (hb2.mono hB1.size)
      clear hR1 hB1 hb2 d0 d1 d2
      generalize text (runL S T X b.size) = r at *
      go_wp2_with fail
      refine (sumOfBits_c b r _ (by omega) HRZ.out.symm HA.out HB.out).mono ?_; rintro e w3 ⟨rfl, hb3⟩
      go_wp2_with fail
      go_ret2
      exact retTB_some (by rw [hr.out, HD.out]) (hB2.trans (hb3.mono hB2.size))
    · have h2' : regB s t x = false := by simpa using h2
      have hr := Lib.hid (scrR_no2 (b := b) h2')
      clear h2
      go_enter Try.func53, Try.ntmps53
      go_wp2_with fail
      refine (isBits_c _ _).mono ?_; rintro e w' ⟨rfl, rfl⟩
      rw [h1]
      go_wp2_with fail
      refine (RegisterValid_c _ _ _ _).mono ?_; rintro e w1 ⟨rfl, hb1⟩
      rw [h2']
      have hB1 := hB0.trans (hb1.mono (by rw [HZ.out]; omega))
      go_wp2_with fail
      go_ret2
      exact retTB_none hr.out hB1
  · have h1' : bitsB b = false := by simpa using h1
    have hr := Lib.hid (scrR_no1 (s := s) (t := t) (x := x) h1')
    clear h1
    go_enter Try.func53, Try.ntmps53
    go_wp2_with fail
    refine (isBits_c _ _).mono ?_; rintro e w' ⟨rfl, rfl⟩
    rw [h1']
    go_wp2_with fail
    go_ret2
    exact retTB_none hr.out hB0

set_option maxHeartbeats 1600000 in
theorem sScrambleBits_c (b : ByteArray) (s t x : Int) (w : World) (hs : b.size ≤ 1099511627776) : Calls Try.prog 59 #[.string b, .agg #[.int .i64 s, .int .i64 t, .int .i64 x]] w (RetTB w (scrR b s t x)) := by
  have hR0 := regAt_one w s t x
  have hB0 : Below w.heap.size w (w.alloc (.cells #[.int .i64 s, .int .i64 t, .int .i64 x] 42)) := (Below.refl _ _).alloc (Nat.le_refl _) _
  have HZ := Lib.hid (show (w.alloc (.cells #[.int .i64 s, .int .i64 t, .int .i64 x] 42)).heap.size = w.heap.size + 1 by simp)
  have c0 := hR0.c0
  have c1 := hR0.c1
  have c2 := hR0.c2
  by_cases h1 : bitsB b = true
  · by_cases h2 : regB s t x = true
    · obtain ⟨S, T, X, rfl, rfl, rfl, hS, hT, hX⟩ := regB_nat h2
      have hr := Lib.hid (scrR_yes h1 h2)
      have h6 := bits_le h1
      have HA := Lib.hid (bits_all h1)
      have HB := Lib.hid (run_bits S T X b.size)
      have HD := Lib.hid (show scrT b S T X = sumT b (text (runL S T X b.size)) from rfl)
      have hrz : (text (runL S T X b.size)).size = b.size := by rw [text_size, runL_len]
      have HRZ := Lib.hid hrz
      have HTX := Lib.hid (And.intro hT.2 hX)
      clear hT hX hrz
      go_enter Try.func59, Try.ntmps59
      go_wp2_with fail
      refine (l1Bits_c _ _ hs).mono ?_; rintro e w' ⟨rfl, rfl⟩
      rw [h1]
      go_wp2_with fail
      refine (sRegisterValid_c _ _ _ _).mono ?_; rintro e w1 ⟨rfl, hb1⟩
      rw [h2]
      have hR1 := hR0.below hb1 (by rw [HZ.out]; omega)
      have hB1 := hB0.trans (hb1.mono (by rw [HZ.out]; omega))
      have d0 := hR1.c0
      have d1 := hR1.c1
      have d2 := hR1.c2
      clear hR0 hB0 hb1 c0 c1 c2 h1 h2
      go_wp2_with fail
      refine (l1Run_c S T X b.size _ hS HTX.out.1 HTX.out.2 h6).mono ?_; rintro e w2 ⟨rfl, hb2⟩
      have hB2 := hB1.trans (hb2.mono hB1.size)
      clear hR1 hB1 hb2 d0 d1 d2
      generalize text (runL S T X b.size) = r at *
      go_wp2_with fail
      refine (l2AddB_c b r _ (by omega) HRZ.out.symm HA.out HB.out).mono ?_; rintro e w3 ⟨rfl, hb3⟩
      go_wp2_with fail
      go_ret2
      exact retTB_some (by rw [hr.out, HD.out]) (hB2.trans (hb3.mono hB2.size))
    · have h2' : regB s t x = false := by simpa using h2
      have hr := Lib.hid (scrR_no2 (b := b) h2')
      clear h2
      go_enter Try.func59, Try.ntmps59
      go_wp2_with fail
      refine (l1Bits_c _ _ hs).mono ?_; rintro e w' ⟨rfl, rfl⟩
      rw [h1]
      go_wp2_with fail
      refine (sRegisterValid_c _ _ _ _).mono ?_; rintro e w1 ⟨rfl, hb1⟩
      rw [h2']
      have hB1 := hB0.trans (hb1.mono (by rw [HZ.out]; omega))
      go_wp2_with fail
      go_ret2
      exact retTB_none hr.out hB1
  · have h1' : bitsB b = false := by simpa using h1
    have hr := Lib.hid (scrR_no1 (s := s) (t := t) (x := x) h1')
    clear h1
    go_enter Try.func59, Try.ntmps59
    go_wp2_with fail
    refine (l1Bits_c _ _ hs).mono ?_; rintro e w' ⟨rfl, rfl⟩
    rw [h1']
    go_wp2_with fail
    go_ret2
    exact retTB_none hr.out hB0

end Go.Proofs.Ytadcckjlcmnhbaa
