/- The code of a path by the reference (l3Tree). No condition beyond lengths. -/
import Derived.Test.YtadcckjlcmnhbaaTc
namespace Go.Proofs.Ytadcckjlcmnhbaa
open Go.RowKit

def ones (n : Nat) : ByteArray := text (List.replicate n 49)
theorem ones_size (n : Nat) : (ones n).size = n := by unfold ones; rw [text_size, List.length_replicate]
theorem ones_add (a b : Nat) : ones a ++ ones b = ones (a + b) := by unfold ones; rw [text_add, List.replicate_append_replicate]
theorem ones_zero : ones 0 = ⟨#[]⟩ := rfl
theorem ones_one : ones 1 = ⟨#[49]⟩ := rfl
theorem ones_get {n k : Nat} (h : k < (ones n).size) : ((ones n)[k].toNat : Int) = 49 := by
  have hn : k < n := by rw [ones_size] at h; exact h
  rw [← codes_get _ h]
  have e : codes (ones n) = List.replicate n 49 := codes_text (fun x hx => .inr (List.eq_of_mem_replicate hx))
  simp [e]

set_option maxHeartbeats 800000 in
theorem l9Many_c (n : Nat) (w : World) (hn : n ≤ 1000) : Calls Try.prog 45 #[.string ⟨#[49]⟩, .int .i64 n] w fun e w' => e = .returned (.string (ones n)) ∧ w = w' := by
  go_enter Try.func45, Try.ntmps45
  go_wp2
  go_loop [0, 1, 5] (fun s i o => ∃ a b j : Nat, s = .string (ones b) ∧ i = .int .i64 j ∧ o = .string (ones a) ∧ j ≤ n ∧ Hid (a + b * j = n ∧ b ≤ 2 * n + 1)) (fun _ i _ => (intOf i).toNat)
  case atStart => exact ⟨0, 1, n, rfl, rfl, rfl, Nat.le_refl _, Lib.hid ⟨by omega, by omega⟩⟩
  case round =>
    obtain ⟨a, b, j, rfl, rfl, rfl, hj, HI⟩ := hrel
    by_cases h0 : 0 < j
    · have hbj : b ≤ b * j := Nat.le_mul_of_pos_right b h0
      have hb := HI.out.2
      have ha : a ≤ n := by have := HI.out.1; omega
      have hza := ones_size a
      have hzb := ones_size b
      have hs1 : ¬ (ones a).size + (ones b).size > 9223372036854775807 := by omega
      have hs2 : ¬ (ones b).size + (ones b).size > 9223372036854775807 := by omega
      have HZ := Lib.hid (And.intro hza hzb); clear hza hzb
      have HA := Lib.hid (ones_add a b)
      have HB := Lib.hid (ones_add b b)
      have hbn : b ≤ n := by have := HI.out.1; omega
      by_cases hodd : j % 2 = 1
      · have hd : ((j : Int) % 2 == 1) = true := by simp; omega
        have hmul : b * j = b * 2 * (j / 2) + b := by
          have : j = 2 * (j / 2) + 1 := by omega
          conv => lhs; rw [this]
          rw [Nat.mul_add, Nat.mul_one, Nat.mul_assoc]
        have HN := Lib.hid (show a + b + (b + b) * (j / 2) = n ∧ b + b ≤ 2 * n + 1 by
          have h1 := HI.out.1
          rw [show b + b = b * 2 by omega]
          exact ⟨by omega, by omega⟩)
        clear hodd hbj hmul
        go_wp2_with fail
        rw [HA.out, HB.out]
        go_round
        case rel => exact ⟨a + b, b + b, j / 2, rfl, by go_num, rfl, by omega, HN⟩
        case measure => simp [intOf]; omega
      · have hd : ((j : Int) % 2 == 1) = false := by simp; omega
        have hmul : b * j = b * 2 * (j / 2) := by
          have : j = 2 * (j / 2) := by omega
          conv => lhs; rw [this]
          rw [Nat.mul_assoc]
        have HN := Lib.hid (show a + (b + b) * (j / 2) = n ∧ b + b ≤ 2 * n + 1 by
          have h1 := HI.out.1
          rw [show b + b = b * 2 by omega]
          exact ⟨by omega, by omega⟩)
        clear hodd hbj hmul
        go_wp2_with fail
        rw [HB.out]
        go_round
        case rel => exact ⟨a, b + b, j / 2, rfl, by go_num, rfl, by omega, HN⟩
        case measure => simp [intOf]; omega
    · obtain rfl : j = 0 := by omega
      have hr := Lib.hid (show a = n by have := HI.out.1; omega)
      go_wp2_with fail
      go_ret
      exact ⟨ret_s (by rw [hr.out]), rfl⟩

set_option maxRecDepth 100000 in
set_option maxHeartbeats 800000 in
theorem l2Add_c (s : ByteArray) (w : World) (hs : s.size ≤ 1000) (hb : ∀ x ∈ codes s, isBit x) : Calls Try.prog 109 #[.string s, .string (ones s.size)] w fun e w' => e = .returned (.string (invT s)) ∧ Below w.heap.size w w' := by
  have HL := Lib.hid (show (invL (codes s)).length = s.size by rw [invL_len, codes_length])
  have HB := Lib.hid hb; clear hb
  have hoz := ones_size s.size
  have HO := Lib.hid (fun k h => @ones_get s.size k h)
  generalize ones s.size = O at *
  have HOZ := Lib.hid hoz
  clear hoz
  go_enter Try.func109, Try.ntmps109
  go_wp2_with (at_make; refine wp_makeF 22 5 1 (0 : Int) Try.underlying22 info_u8 rfl (by decide) w rfl _ _ rfl .i64 .i64 s.size rfl rfl (by omega) ?_; intro w1 hown hb)
  have hF := FillF.start hown HL.out (by simp)
  clear hown
  go_loopw [6] (fun i wr => ∃ k : Nat, k ≤ s.size ∧ i = .int .i64 k ∧ FillB wr w.heap.size w.heap.size s.size (invL (codes s)) (List.replicate s.size 0) k ∧ Below w.heap.size w wr) (fun i _ => s.size - (intOf i).toNat)
  case atStart => exact ⟨0, Nat.zero_le _, rfl, hF, hb⟩
  case round =>
    clear hF hb
    obtain ⟨k, hk, rfl, hF, hb⟩ := hrel
    by_cases hlt : k < s.size
    · have hF1 := hF
      have hbd := hb
      obtain ⟨z, hc⟩ := hF1.cell hlt
      have hf := hF1.free k
      have hkc : k < (codes s).length := by rw [codes_length]; exact hlt
      have hbit : isBit (s[k].toNat : Int) := by rw [← codes_get s hlt]; exact HB.out _ (List.getElem_mem hkc)
      have hst := hF1.step hlt (y := .int .u8 (97 - (s[k].toNat : Int))) (fun hl => by rw [invL_get hl, codes_get s hlt])
      have hb2 := hF1.below hbd (.int .u8 (97 - (s[k].toNat : Int)))
      have hlO : k < O.size := by rw [HOZ.out]; exact hlt
      have hv : (O[k].toNat : Int) = 49 := HO.out k hlO
      have hx1 : bits .xor .u8 48 1 = 49 := by decide
      have hx2 : bits .xor .u8 49 1 = 48 := by decide
      have hlt' : (k : Int) < (s.size : Int) := by omega
      have hlO' : (k : Int) < (O.size : Int) := by omega
      clear hF hF1 hb hbd
      rcases hbit with h48 | h48
      · rw [h48] at hst hb2
        go_wp2_with fail
        go_still_tail 13, (by kernel_rfl)
        go_wp2_with fail
        go_roundw
        case rel => exact ⟨k + 1, by omega, by go_num, hst, hb2.drew⟩
        case measure => simp [intOf]; omega
      · rw [h48] at hst hb2
        go_wp2_with fail
        go_still_tail 13, (by kernel_rfl)
        go_wp2_with fail
        go_roundw
        case rel => exact ⟨k + 1, by omega, by go_num, hst, hb2.drew⟩
        case measure => simp [intOf]; omega
    · obtain rfl : k = s.size := by omega
      obtain ⟨a1, n1, c1, e1, ho⟩ := (hF.done (Nat.le_refl _)).own (by rw [HL.out]; omega)
      cases e1
      have hrd := ho.rd
      go_wp2_with (with_reducible refine wp_text 22 5 9 Try.underlying22 Try.underlying5 Try.underlying9 _ rfl (.tmp 29) rfl rfl hrd ?_)
      go_ret
      exact ⟨rfl, hb⟩

set_option maxHeartbeats 800000 in
theorem l2Invert_c (s : ByteArray) (w : World) (hs : s.size ≤ 1000) (hb : ∀ x ∈ codes s, isBit x) : Calls Try.prog 78 #[.string s] w fun e w' => e = .returned (.string (invT s)) ∧ Below w.heap.size w w' := by
  have HB := Lib.hid hb; clear hb
  go_enter Try.func78, Try.ntmps78
  go_wp2_with fail
  refine (l9Many_c s.size _ hs).mono ?_; rintro e w1 ⟨rfl, rfl⟩
  go_wp2_with fail
  refine (l2Add_c s _ hs HB.out).mono ?_; rintro e w2 ⟨rfl, hb2⟩
  go_wp2_with fail
  go_ret
  exact ⟨rfl, hb2⟩

set_option maxHeartbeats 800000 in
theorem l3Tree_c (p : ByteArray) (w : World) (hz : p.size ≤ 6) : Calls Try.prog 31 #[.string p] w fun e w' => e = .returned (.string (text (treeL p p.size))) ∧ Below w.heap.size w w' := by
  have HCB := Lib.hid (fun k (c : World) (hk : k ≤ 6) => l2Invert_c (text (treeL p k)) c (by rw [text_size, treeL_len]; have := pow6 hk; omega) (by rw [codes_text (treeL_bit p k)]; exact treeL_bit p k))
  go_enter Try.func31, Try.ntmps31
  go_wp2_with fail
  go_loopw [3, 4] (fun s i wr => ∃ k : Nat, k ≤ p.size ∧ i = .int .i64 k ∧ s = .string (text (treeL p k)) ∧ Below w.heap.size w wr) (fun _ i _ => p.size - (intOf i).toNat)
  case atStart => exact ⟨0, Nat.zero_le _, rfl, by unfold treeL; rfl, Below.refl _ _⟩
  case round =>
    obtain ⟨k, hk, rfl, rfl, hb⟩ := hrel
    obtain ⟨wo, hwo⟩ : ∃ wo : World, wo = wr := ⟨_, rfl⟩
    subst hwo
    by_cases hlt : k < p.size
    · have hkc : k < (codes p).length := by rw [codes_length]; exact hlt
      have HG := Lib.hid (show (codes p).getD k 0 = (p[k].toNat : Int) by rw [← codes_get p hlt]; simp [List.getD, hkc])
      have hzk : (text (treeL p k)).size ≤ 64 := by rw [text_size, treeL_len]; exact pow6 (by omega)
      have hzk2 : (invT (text (treeL p k))).size ≤ 64 := by unfold invT; rw [text_size, invL_len, codes_length]; exact hzk
      have hs1 : ¬ (text (treeL p k)).size + (text (treeL p k)).size > 9223372036854775807 := by omega
      have hs2 : ¬ (text (treeL p k)).size + (invT (text (treeL p k))).size > 9223372036854775807 := by omega
      by_cases h0 : (p[k].toNat : Int) = 48
      · have h0' : ((p[k].toNat : Int) == 48) = true := by simp; omega
        have HX := Lib.hid (treeT_yes (HG.out.trans h0))
        clear h0
        go_wp2_with fail
        rw [HX.out]
        go_roundw
        case rel => exact ⟨k + 1, by omega, by go_num, rfl, hb⟩
        case measure => simp [intOf]; omega
      · have h0' : ((p[k].toNat : Int) == 48) = false := by simp; omega
        have HX := Lib.hid (treeT_no (p := p) (k := k) (by rw [HG.out]; exact h0))
        have hk6 : k ≤ 6 := by omega
        clear h0
        go_wp2_with fail
        refine (HCB.out k _ hk6).mono ?_; rintro e w2 ⟨rfl, hb2⟩
        have hb3 := hb.trans (hb2.mono hb.size)
        go_wp2_with fail
        rw [HX.out]
        go_roundw
        case rel => exact ⟨k + 1, by omega, by go_num, rfl, hb3⟩
        case measure => simp [intOf]; omega
    · obtain rfl : k = p.size := by omega
      go_wp2_with fail
      go_ret
      exact ⟨rfl, hb⟩

end Go.Proofs.Ytadcckjlcmnhbaa
