/- Check bits, binary digits and frames of the program and of the reference. No condition beyond lengths. -/
import Derived.Test.YtadcckjlcmnhbaaKb
namespace Go.Proofs.Ytadcckjlcmnhbaa
open Go.RowKit

set_option maxHeartbeats 800000 in
theorem binaryText8_c (n d : Nat) (w : World) (hd : d ≤ 8) (hn : n < 256) : Calls Try.prog 89 #[.int .i64 n, .int .i64 d] w fun e w' => e = .returned (.string (binT n d)) ∧ Below w.heap.size w w' := by
  have HL := Lib.hid (binL_len n d)
  go_enter Try.func89, Try.ntmps89
  go_wp2_with (at_make; refine wp_makeF 22 5 1 (0 : Int) Try.underlying22 info_u8 rfl (by decide) w rfl _ _ rfl .i64 .i64 d rfl rfl (by omega) ?_; intro w1 hown hb)
  have hF := FillF.start hown HL.out (by simp)
  clear hown
  go_loopw [11] (fun i wr => ∃ k : Nat, k ≤ d ∧ i = .int .i64 k ∧ FillB wr w.heap.size w.heap.size d (binL n d) (List.replicate d 0) k ∧ Below w.heap.size w wr) (fun i _ => d - (intOf i).toNat)
  case atStart => exact ⟨0, Nat.zero_le _, rfl, hF, hb⟩
  case round =>
    clear hF hb
    obtain ⟨k, hk, rfl, hF, hb⟩ := hrel
    by_cases hlt : k < d
    · obtain ⟨z, hc⟩ := hF.cell hlt
      have hf := hF.free k
      have eA : bits .and .i64 ((n : Int) / 2 ^ (d - 1 - k)) 1 = ((bitN n d k : Nat) : Int) := by
        have e1 : (n : Int) / 2 ^ (d - 1 - k) = ((n / 2 ^ (d - 1 - k) : Nat) : Int) := by simp
        rw [e1]
        have h1 : n / 2 ^ (d - 1 - k) ≤ n := Nat.div_le_self _ _
        have h2 := i64_and (n / 2 ^ (d - 1 - k)) 1 (by omega) (by omega)
        rw [show ((1 : Nat) : Int) = 1 from rfl] at h2
        rw [h2, Nat.and_one_is_mod]; rfl
      have hst := hF.step hlt (y := .int .u8 ((48 + bitN n d k : Nat) : Int)) (fun hl => by rw [binL_get hl])
      have hb2 := hF.below hb (.int .u8 ((48 + bitN n d k : Nat) : Int))
      have hb1 := bitN_le n d k
      have EA := Lib.hid eA
      clear eA hF hb
      go_wp2_with fail
      rw [EA.out]
      refine (bitOf_c _ _ hb1).mono ?_; rintro e w' ⟨rfl, rfl⟩
      generalize bitN n d k = B at *
      go_wp2_with fail
      go_roundw
      case rel => exact ⟨k + 1, by omega, by go_num, hst, hb2⟩
      case measure => simp [intOf]; omega
    · obtain rfl : k = d := by omega
      have hd0 := hF.done (Nat.le_refl _)
      obtain ⟨a1, n1, c1, e1, ho⟩ := hd0.own (by rw [HL.out]; omega)
      cases e1
      have hrd := ho.rd
      go_wp2_with (with_reducible refine wp_text 22 5 9 Try.underlying22 Try.underlying5 Try.underlying9 _ rfl (.tmp 26) rfl rfl hrd ?_)
      go_ret
      exact ⟨rfl, hb⟩

set_option maxHeartbeats 1600000 in
theorem l6Binary_c (n d : Nat) (w : World) (hd : d ≤ 8) (hn : n < 256) : Calls Try.prog 134 #[.int .i64 n, .int .i64 d] w fun e w' => e = .returned (.string (binT n d)) ∧ Below w.heap.size w w' := by
  go_enter Try.func134, Try.ntmps134
  go_wp2_with fail
  go_loopw [0, 5, 6] (fun x s i wr => ∃ k : Nat, k ≤ d ∧ i = .int .i64 k ∧ x = .int .i64 ((n / 2 ^ k : Nat) : Int) ∧ s = .string (tailT n d k) ∧ Below w.heap.size w wr) (fun _ _ i _ => d - (intOf i).toNat)
  case atStart => exact ⟨0, Nat.zero_le _, rfl, by simp, by rw [tail_zero], Below.refl _ _⟩
  case round =>
    obtain ⟨k, hk, rfl, rfl, rfl, hb⟩ := hrel
    by_cases hlt : k < d
    · have HT := Lib.hid (tail_succ (n := n) hlt)
      have HD := Lib.hid (show n / 2 ^ (k + 1) = n / 2 ^ k / 2 by rw [Nat.pow_succ, Nat.div_div_eq_div_mul])
      have hts := tail_size n d k hk
      have hq : n / 2 ^ k ≤ n := Nat.div_le_self _ _
      obtain ⟨q, hq2⟩ : ∃ q, q = n / 2 ^ k := ⟨_, rfl⟩
      rw [← hq2] at HT HD hq
      rw [← hq2]
      clear hq2
      obtain ⟨r, hr⟩ : ∃ r, r = q % 2 := ⟨_, rfl⟩
      obtain ⟨g, hg⟩ : ∃ g, g = q / 2 := ⟨_, rfl⟩
      have hr1 : r ≤ 1 := by omega
      have e1 : ((q : Int)).tmod 2 = (r : Int) := by rw [hr]; rfl
      have e2 : ((q : Int)).tdiv 2 = (g : Int) := by rw [hg]; rfl
      have e3 : ((q : Int)) % 2 = (r : Int) := by rw [hr]; rfl
      have e4 : ((q : Int)) / 2 = (g : Int) := by rw [hg]; rfl
      rw [← hr] at HT
      rw [← hg] at HD
      clear hr hg
      have HT2 := Lib.hid (show text [(48 : Int) + (r : Int)] ++ tailT n d k = tailT n d (k + 1) from HT.out)
      have hts1 : (text [(48 : Int) + (r : Int)]).size = 1 := rfl
      go_wp2_with fail
      refine (l9Dec_c r _ (by omega)).mono ?_; rintro e w3 ⟨rfl, hb3⟩
      have hb4 := hb.trans (hb3.mono hb.size)
      clear hb hb3
      go_wp2_with fail
      rw [HT2.out]
      go_roundw
      case rel => exact ⟨k + 1, by omega, by go_num, by rw [HD.out], rfl, hb4⟩
      case measure => simp [intOf]; omega
    · obtain rfl : k = d := by omega
      rw [tail_all]
      go_wp2_with fail
      go_ret
      exact ⟨rfl, hb⟩

theorem sub48 {c : UInt8} (h : c.toNat = 48 ∨ c.toNat = 49) : (c.toNat : Int) - 48 = ((dig c : Nat) : Int) := by unfold dig; omega
theorem dig_le {c : UInt8} (h : c.toNat = 48 ∨ c.toNat = 49) : dig c ≤ 1 := by unfold dig; omega
theorem xor_small {a b : Nat} (ha : a ≤ 1) (hb : b ≤ 1) : bits .xor .i64 (a : Int) (b : Int) = if a = b then 0 else 1 := by
  have h1 : a = 0 ∨ a = 1 := by omega
  have h2 : b = 0 ∨ b = 1 := by omega
  rcases h1 with rfl | rfl <;> rcases h2 with rfl | rfl <;> decide
theorem and_255 {a : Nat} (ha : a < 4611686018427387904) : bits .and .i64 (a : Int) 255 = ((a % 256 : Nat) : Int) := by
  have h2 := i64_and a 255 (by omega) (by omega)
  rw [show ((255 : Nat) : Int) = 255 from rfl] at h2
  rw [h2, show (255 : Nat) = 2 ^ 8 - 1 from rfl, Nat.and_two_pow_sub_one_eq_mod]
theorem xor_7 {a : Nat} (ha : a < 4611686018427387904) : bits .xor .i64 (a : Int) 7 = ((a ^^^ 7 : Nat) : Int) := i64_xor a 7 (by omega) (by omega)

set_option maxHeartbeats 1600000 in
theorem CrcOf_c (s : ByteArray) (w : World) (h : bitsB s = true) : Calls Try.prog 90 #[.string s] w fun e w' => e = .returned (.tuple #[.string (binT (crcN s) 8), .bool true]) ∧ Below w.heap.size w w' := by
  have h6 := bits_le h
  have HA := Lib.hid (bits_all h)
  have HC := Lib.hid (show crcN s = crcK s s.size from rfl)
  have hcl := crcN_lt s
  go_enter Try.func90, Try.ntmps90
  go_wp2_with fail
  refine (isBits_c _ _).mono ?_; rintro e w' ⟨rfl, rfl⟩
  rw [h]
  clear h
  go_wp2_with fail
  go_loop [4, 12] (fun x i => ∃ k : Nat, k ≤ s.size ∧ i = .int .i64 k ∧ x = .int .i64 (crcK s k)) (fun _ i => s.size - (intOf i).toNat)
  case atStart => exact ⟨0, Nat.zero_le _, rfl, rfl⟩
  case round =>
    obtain ⟨k, hk, rfl, rfl⟩ := hrel
    by_cases hlt : k < s.size
    · have hx := crcK_lt s k hk
      have HS := Lib.hid (crcK_succ hlt)
      have hbit := bit_at HA.out hlt
      have hdl := dig_le hbit
      have hsub := sub48 hbit
      have HK := Lib.hid (fun (e : dig s[k] = crcK s k / 128) => crc_keep e)
      have HT := Lib.hid (fun (e : ¬ dig s[k] = crcK s k / 128) => crc_turn hx hdl e)
      obtain ⟨x, hxd⟩ : ∃ x, x = crcK s k := ⟨_, rfl⟩
      rw [← hxd] at HS HK HT hx
      rw [← hxd]
      obtain ⟨d, hd⟩ : ∃ d, d = dig s[k] := ⟨_, rfl⟩
      rw [← hd] at HK HT hdl hsub
      clear hxd hd hbit
      have hq1 : x / 128 ≤ 1 := by omega
      have ha := Lib.hid (show bits .and .i64 ((x : Int) * 2) 255 = ((x * 2 % 256 : Nat) : Int) from and_255 (a := x * 2) (by omega))
      have hX7 := Lib.hid (xor_7 (a := x * 2 % 256) (by omega))
      have hXS : bits .xor .i64 (d : Int) ((x : Int) / 128) = if d = x / 128 then 0 else 1 := xor_small hdl hq1
      by_cases he : d = x / 128
      · have hb : (bits .xor .i64 (d : Int) ((x : Int) / 128) == 1) = false := by rw [hXS, if_pos he]; rfl
        have HN := Lib.hid (HK.out he)
        clear he hXS hq1
        go_wp2_with fail
        go_round
        case rel => exact ⟨k + 1, by omega, by go_num, by rw [ha.out, HS.out, HN.out]⟩
        case measure => simp [intOf]; omega
      · have hb : (bits .xor .i64 (d : Int) ((x : Int) / 128) == 1) = true := by rw [hXS, if_neg he]; rfl
        have HN := Lib.hid (HT.out he)
        clear he hXS hq1
        go_wp2_with fail
        go_round
        case rel => exact ⟨k + 1, by omega, by go_num, by rw [ha.out, hX7.out, HS.out, HN.out]⟩
        case measure => simp [intOf]; omega
    · obtain rfl : k = s.size := by omega
      rw [← HC.out]
      go_wp2_with fail
      refine (binaryText8_c (crcN s) 8 _ (by omega) hcl).mono ?_; rintro e w3 ⟨rfl, hb3⟩
      go_wp2_with fail
      go_ret2
      exact ⟨rfl, hb3⟩

set_option maxHeartbeats 1600000 in
theorem l6Crc_c (s : ByteArray) (w : World) (h : bitsB s = true) : Calls Try.prog 135 #[.string s] w fun e w' => e = .returned (.string (binT (crcN s) 8)) ∧ Below w.heap.size w w' := by
  have h6 := bits_le h
  have HA := Lib.hid (bits_all h)
  have HC := Lib.hid (show crcN s = crcK s s.size from rfl)
  have hcl := crcN_lt s
  clear h
  go_enter Try.func135, Try.ntmps135
  go_wp2_with fail
  go_loop [3, 4] (fun x i => ∃ k : Nat, k ≤ s.size ∧ i = .int .i64 k ∧ x = .int .i64 (crcK s k)) (fun _ i => s.size - (intOf i).toNat)
  case atStart => exact ⟨0, Nat.zero_le _, rfl, rfl⟩
  case round =>
    obtain ⟨k, hk, rfl, rfl⟩ := hrel
    by_cases hlt : k < s.size
    · have hx := crcK_lt s k hk
      have HS := Lib.hid (crcK_succ hlt)
      have hbit := bit_at HA.out hlt
      have hdl := dig_le hbit
      have hsub := sub48 hbit
      have HK := Lib.hid (fun (e : dig s[k] = crcK s k / 128) => crc_keep e)
      have HT := Lib.hid (fun (e : ¬ dig s[k] = crcK s k / 128) => crc_turn hx hdl e)
      obtain ⟨x, hxd⟩ : ∃ x, x = crcK s k := ⟨_, rfl⟩
      rw [← hxd] at HS HK HT hx
      rw [← hxd]
      obtain ⟨d, hd⟩ : ∃ d, d = dig s[k] := ⟨_, rfl⟩
      rw [← hd] at HK HT hdl hsub
      clear hxd hd hbit
      obtain ⟨q, hq⟩ : ∃ q, q = x / 128 := ⟨_, rfl⟩
      obtain ⟨y, hy⟩ : ∃ y, y = x * 2 % 256 := ⟨_, rfl⟩
      have hq1 : q ≤ 1 := by omega
      have e1 : (x : Int).tdiv 128 = (q : Int) := by rw [hq]; rfl
      have e2 : (x : Int) / 128 = (q : Int) := by rw [hq]; rfl
      have e3 : ((x : Int) * 2).tmod 256 = (y : Int) := by rw [hy]; rfl
      have e4 : ((x : Int) * 2) % 256 = (y : Int) := by rw [hy]; rfl
      rw [← hq, ← hy] at HT HK
      have hy2 : y < 256 := by omega
      clear hq hy
      have hX7 := Lib.hid (xor_7 (a := y) (by omega))
      have hXS : bits .xor .i64 (q : Int) (d : Int) = if q = d then 0 else 1 := xor_small hq1 hdl
      by_cases he : d = q
      · have hb : (bits .xor .i64 (q : Int) (d : Int) == 1) = false := by rw [hXS, if_pos he.symm]; rfl
        have HN := Lib.hid (HK.out he)
        clear he hXS hq1
        go_wp2_with fail
        go_round
        case rel => exact ⟨k + 1, by omega, by go_num, by rw [HS.out, HN.out]⟩
        case measure => simp [intOf]; omega
      · have hb : (bits .xor .i64 (q : Int) (d : Int) == 1) = true := by rw [hXS, if_neg (fun e => he e.symm)]; rfl
        have HN := Lib.hid (HT.out he)
        clear he hXS hq1
        go_wp2_with fail
        go_round
        case rel => exact ⟨k + 1, by omega, by go_num, by rw [hX7.out, HS.out, HN.out]⟩
        case measure => simp [intOf]; omega
    · obtain rfl : k = s.size := by omega
      rw [← HC.out]
      go_wp2_with fail
      refine (l6Binary_c (crcN s) 8 _ (by omega) hcl).mono ?_; rintro e w3 ⟨rfl, hb3⟩
      go_wp2_with fail
      go_ret
      exact ⟨rfl, hb3⟩

end Go.Proofs.Ytadcckjlcmnhbaa
