/- ScrambleBits of the program and of the reference. No condition beyond lengths. -/
import Derived.Test.YtmoamgmhdeckmaaKq
import Derived.Test.YtmoamgmhdeckmaaKb
namespace Go.Proofs.Ytmoamgmhdeckmaa
open Go.RowKit

/-- The sum of two rows of bits. -/
def sumL (a b : ByteArray) : List Int := (List.range a.size).map fun i => if (codes a).getD i 0 = (codes b).getD i 0 then 48 else 49
def sumT (a b : ByteArray) : ByteArray := text (sumL a b)
theorem sumL_len (a b : ByteArray) : (sumL a b).length = a.size := by simp [sumL]
theorem codes_at {s : ByteArray} {i : Nat} (h : i < s.size) : (codes s).getD i 0 = (s[i].toNat : Int) := by
  rw [List.getD_eq_getElem?_getD, List.getElem?_eq_getElem (by rw [codes_length]; exact h), Option.getD_some, codes_get s h]
theorem sumL_get {a b : ByteArray} {i : Nat} (h : i < (sumL a b).length) : (sumL a b)[i] = if (codes a).getD i 0 = (codes b).getD i 0 then 48 else 49 := by simp [sumL]
theorem sumL_at {a b : ByteArray} {i : Nat} {x y : Int} (ha : i < a.size) (hb : i < b.size) (hx : (a[i].toNat : Int) = x) (hy : (b[i].toNat : Int) = y) (h : i < (sumL a b).length) : (sumL a b)[i] = if x = y then 48 else 49 := by
  rw [sumL_get h, codes_at ha, codes_at hb, hx, hy]
theorem sumL_bit (a b : ByteArray) : ∀ x ∈ sumL a b, isBit x := by
  intro x hx
  unfold sumL at hx
  obtain ⟨i, _, rfl⟩ := List.mem_map.1 hx
  split
  · exact .inl rfl
  · exact .inr rfl

set_option maxRecDepth 100000 in
set_option maxHeartbeats 1600000 in
theorem sumOfBits_c (a b : ByteArray) (w : World) (hz : a.size ≤ 1000) (hab : a.size = b.size) (ha : allS bitC a = true) (hb0 : allS bitC b = true) : Calls Try.prog 79 #[.string a, .string b] w fun e w' => e = .returned (.string (sumT a b)) ∧ Below w.heap.size w w' := by
  have HL := Lib.hid (sumL_len a b)
  have HA := Lib.hid ha
  have HB := Lib.hid hb0
  have HAB := Lib.hid hab
  have HD := Lib.hid (show sumT a b = text (sumL a b) from rfl)
  clear ha hb0 hab
  go_enter Try.func79, Try.ntmps79
  go_wp2_with (at_make; refine wp_makeF 29 5 1 (0 : Int) Try.underlying29 info_u8 rfl (by decide) w rfl _ _ rfl .i64 .i64 a.size rfl rfl (by omega) ?_; intro w1 hown hb)
  have hF := FillF.start hown HL.out (by simp)
  clear hown
  go_loopw [12] (fun i wr => ∃ k : Nat, k ≤ a.size ∧ i = .int .i64 k ∧ FillB wr w.heap.size w.heap.size a.size (sumL a b) (List.replicate a.size 0) k ∧ Below w.heap.size w wr) (fun i _ => a.size - (intOf i).toNat)
  case atStart => exact ⟨0, Nat.zero_le _, rfl, hF, hb⟩
  case round =>
    clear hF hb
    obtain ⟨k, hk, rfl, hF, hb⟩ := hrel
    by_cases hlt : k < a.size
    · obtain ⟨z, hc⟩ := hF.cell hlt
      have hf := hF.free k
      have hltb : k < b.size := by rw [← HAB.out]; exact hlt
      have hva := bit_at HA.out hlt
      have hvb := bit_at HB.out hltb
      have HSA := Lib.hid (fun (x y : Int) hx hy hl => sumL_at (x := x) (y := y) hlt hltb hx hy hl)
      have hx1 : bits .xor .u8 48 48 = 0 := by decide
      have hx2 : bits .xor .u8 48 49 = 1 := by decide
      have hx3 : bits .xor .u8 49 48 = 1 := by decide
      have hx4 : bits .xor .u8 49 49 = 0 := by decide
      have hlt' : (k : Int) < (a.size : Int) := by omega
      have hltb' : (k : Int) < (b.size : Int) := by omega
      rcases hva with h48 | h48 <;> rcases hvb with g48 | g48
      ·
        have hwa : (a[k].toNat : Int) = 48 := by omega
        have hwb : (b[k].toNat : Int) = 48 := by omega
        have hst := hF.step hlt (y := .int .u8 48) (fun hl => by rw [HSA.out 48 48 hwa hwb hl]; rfl)
        have hb2 := hF.below hb (.int .u8 48)
        clear hF hb h48 g48
        go_wp2_with fail
        go_region_with (first | (go_at_call 92; refine (bitOf_c 0 _ (by omega)).mono ?_; rintro e w' ⟨rfl, rfl⟩))
        all_goals
          go_wp2_with fail
          go_roundw
          case rel => exact ⟨k + 1, by omega, by go_num, hst, hb2.drew⟩
          case measure => simp [intOf]; omega
      ·
        have hwa : (a[k].toNat : Int) = 48 := by omega
        have hwb : (b[k].toNat : Int) = 49 := by omega
        have hst := hF.step hlt (y := .int .u8 49) (fun hl => by rw [HSA.out 48 49 hwa hwb hl]; rfl)
        have hb2 := hF.below hb (.int .u8 49)
        clear hF hb h48 g48
        go_wp2_with fail
        go_region_with (first | (go_at_call 92; refine (bitOf_c 1 _ (by omega)).mono ?_; rintro e w' ⟨rfl, rfl⟩))
        all_goals
          go_wp2_with fail
          go_roundw
          case rel => exact ⟨k + 1, by omega, by go_num, hst, hb2.drew⟩
          case measure => simp [intOf]; omega
      ·
        have hwa : (a[k].toNat : Int) = 49 := by omega
        have hwb : (b[k].toNat : Int) = 48 := by omega
        have hst := hF.step hlt (y := .int .u8 49) (fun hl => by rw [HSA.out 49 48 hwa hwb hl]; rfl)
        have hb2 := hF.below hb (.int .u8 49)
        clear hF hb h48 g48
        go_wp2_with fail
        go_region_with (first | (go_at_call 92; refine (bitOf_c 1 _ (by omega)).mono ?_; rintro e w' ⟨rfl, rfl⟩))
        all_goals
          go_wp2_with fail
          go_roundw
          case rel => exact ⟨k + 1, by omega, by go_num, hst, hb2.drew⟩
          case measure => simp [intOf]; omega
      ·
        have hwa : (a[k].toNat : Int) = 49 := by omega
        have hwb : (b[k].toNat : Int) = 49 := by omega
        have hst := hF.step hlt (y := .int .u8 48) (fun hl => by rw [HSA.out 49 49 hwa hwb hl]; rfl)
        have hb2 := hF.below hb (.int .u8 48)
        clear hF hb h48 g48
        go_wp2_with fail
        go_region_with (first | (go_at_call 92; refine (bitOf_c 0 _ (by omega)).mono ?_; rintro e w' ⟨rfl, rfl⟩))
        all_goals
          go_wp2_with fail
          go_roundw
          case rel => exact ⟨k + 1, by omega, by go_num, hst, hb2.drew⟩
          case measure => simp [intOf]; omega
    · obtain rfl : k = a.size := by omega
      obtain ⟨a1, n1, c1, e1, ho⟩ := (hF.done (Nat.le_refl _)).own (by rw [HL.out]; omega)
      cases e1
      have hrd := ho.rd
      go_wp2_with (with_reducible refine wp_text 29 5 9 Try.underlying29 Try.underlying5 Try.underlying9 _ rfl (.tmp 28) rfl rfl hrd ?_)
      go_ret
      exact ⟨by rw [HD.out]; rfl, hb⟩

set_option maxRecDepth 100000 in
set_option maxHeartbeats 1600000 in
theorem l2AddB_c (a b : ByteArray) (w : World) (hz : a.size ≤ 1000) (hab : a.size = b.size) (ha : allS bitC a = true) (hb0 : allS bitC b = true) : Calls Try.prog 70 #[.string a, .string b] w fun e w' => e = .returned (.string (sumT a b)) ∧ Below w.heap.size w w' := by
  have HL := Lib.hid (sumL_len a b)
  have HA := Lib.hid ha
  have HB := Lib.hid hb0
  have HAB := Lib.hid hab
  have HD := Lib.hid (show sumT a b = text (sumL a b) from rfl)
  clear ha hb0 hab
  go_enter Try.func70, Try.ntmps70
  go_wp2_with (at_make; refine wp_makeF 29 5 1 (0 : Int) Try.underlying29 info_u8 rfl (by decide) w rfl _ _ rfl .i64 .i64 a.size rfl rfl (by omega) ?_; intro w1 hown hb)
  have hF := FillF.start hown HL.out (by simp)
  clear hown
  go_loopw [6] (fun i wr => ∃ k : Nat, k ≤ a.size ∧ i = .int .i64 k ∧ FillB wr w.heap.size w.heap.size a.size (sumL a b) (List.replicate a.size 0) k ∧ Below w.heap.size w wr) (fun i _ => a.size - (intOf i).toNat)
  case atStart => exact ⟨0, Nat.zero_le _, rfl, hF, hb⟩
  case round =>
    clear hF hb
    obtain ⟨k, hk, rfl, hF, hb⟩ := hrel
    by_cases hlt : k < a.size
    · obtain ⟨z, hc⟩ := hF.cell hlt
      have hf := hF.free k
      have hltb : k < b.size := by rw [← HAB.out]; exact hlt
      have hva := bit_at HA.out hlt
      have hvb := bit_at HB.out hltb
      have HSA := Lib.hid (fun (x y : Int) hx hy hl => sumL_at (x := x) (y := y) hlt hltb hx hy hl)
      have hx1 : bits .xor .u8 48 0 = 48 := by decide
      have hx2 : bits .xor .u8 48 1 = 49 := by decide
      have hx3 : bits .xor .u8 49 0 = 49 := by decide
      have hx4 : bits .xor .u8 49 1 = 48 := by decide
      have hlt' : (k : Int) < (a.size : Int) := by omega
      have hltb' : (k : Int) < (b.size : Int) := by omega
      rcases hva with h48 | h48 <;> rcases hvb with g48 | g48
      ·
        have hwa : (a[k].toNat : Int) = 48 := by omega
        have hwb : (b[k].toNat : Int) = 48 := by omega
        have hst := hF.step hlt (y := .int .u8 48) (fun hl => by rw [HSA.out 48 48 hwa hwb hl]; rfl)
        have hb2 := hF.below hb (.int .u8 48)
        clear hF hb h48 g48
        go_wp2_with fail
        go_still_tail 13, (by kernel_rfl)
        go_wp2_with fail
        go_roundw
        case rel => exact ⟨k + 1, by omega, by go_num, hst, hb2.drew⟩
        case measure => simp [intOf]; omega
      ·
        have hwa : (a[k].toNat : Int) = 48 := by omega
        have hwb : (b[k].toNat : Int) = 49 := by omega
        have hst := hF.step hlt (y := .int .u8 49) (fun hl => by rw [HSA.out 48 49 hwa hwb hl]; rfl)
        have hb2 := hF.below hb (.int .u8 49)
        clear hF hb h48 g48
        go_wp2_with fail
        go_still_tail 13, (by kernel_rfl)
        go_wp2_with fail
        go_roundw
        case rel => exact ⟨k + 1, by omega, by go_num, hst, hb2.drew⟩
        case measure => simp [intOf]; omega
      ·
        have hwa : (a[k].toNat : Int) = 49 := by omega
        have hwb : (b[k].toNat : Int) = 48 := by omega
        have hst := hF.step hlt (y := .int .u8 49) (fun hl => by rw [HSA.out 49 48 hwa hwb hl]; rfl)
        have hb2 := hF.below hb (.int .u8 49)
        clear hF hb h48 g48
        go_wp2_with fail
        go_still_tail 13, (by kernel_rfl)
        go_wp2_with fail
        go_roundw
        case rel => exact ⟨k + 1, by omega, by go_num, hst, hb2.drew⟩
        case measure => simp [intOf]; omega
      ·
        have hwa : (a[k].toNat : Int) = 49 := by omega
        have hwb : (b[k].toNat : Int) = 49 := by omega
        have hst := hF.step hlt (y := .int .u8 48) (fun hl => by rw [HSA.out 49 49 hwa hwb hl]; rfl)
        have hb2 := hF.below hb (.int .u8 48)
        clear hF hb h48 g48
        go_wp2_with fail
        go_still_tail 13, (by kernel_rfl)
        go_wp2_with fail
        go_roundw
        case rel => exact ⟨k + 1, by omega, by go_num, hst, hb2.drew⟩
        case measure => simp [intOf]; omega
    · obtain rfl : k = a.size := by omega
      obtain ⟨a1, n1, c1, e1, ho⟩ := (hF.done (Nat.le_refl _)).own (by rw [HL.out]; omega)
      cases e1
      have hrd := ho.rd
      go_wp2_with (with_reducible refine wp_text 29 5 9 Try.underlying29 Try.underlying5 Try.underlying9 _ rfl (.tmp 29) rfl rfl hrd ?_)
      go_ret
      exact ⟨by rw [HD.out]; rfl, hb⟩

end Go.Proofs.Ytmoamgmhdeckmaa
