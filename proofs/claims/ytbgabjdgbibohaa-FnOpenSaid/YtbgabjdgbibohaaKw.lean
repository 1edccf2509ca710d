/- HammingDecode of the reference; syndromes of both. No condition beyond lengths. -/
import Derived.Test.YtbgabjdgbibohaaKf
import Derived.Test.YtbgabjdgbibohaaKt
namespace Go.Proofs.Ytbgabjdgbibohaa
open Go.RowKit

/-- The syndrome of the first k bits. -/
def synK (s : ByteArray) : Nat → Nat
  | 0 => 0
  | k + 1 => if (codes s).getD k 0 = 49 then synK s k ^^^ (k + 1) else synK s k
theorem synK_lt (s : ByteArray) : ∀ k, k ≤ 7 → synK s k < 8
  | 0, _ => by unfold synK; omega
  | k + 1, h => by
    have ih := synK_lt s k (by omega)
    unfold synK
    split
    · exact Nat.xor_lt_two_pow (n := 3) ih (by omega)
    · exact ih
theorem synK_yes {s : ByteArray} {k : Nat} (h : k < s.size) (h1 : s[k].toNat = 49) : synK s (k + 1) = synK s k ^^^ (k + 1) := by
  rw [synK, codes_v h, if_pos (by omega)]
theorem synK_no {s : ByteArray} {k : Nat} (h : k < s.size) (h1 : ¬ s[k].toNat = 49) : synK s (k + 1) = synK s k := by
  rw [synK, codes_v h, if_neg (by omega)]
/-- A block with its wrong bit changed. -/
def fixB (X : ByteArray) : ByteArray := if 0 < synK X 7 then flipT X (synK X 7 - 1) else X
def decB (X : ByteArray) : ByteArray := (fixB X).extract 2 3 ++ (fixB X).extract 4 7
def decT (s : ByteArray) : Nat → ByteArray
  | 0 => ⟨#[]⟩
  | k + 1 => decT s k ++ decB (s.extract (k * 7) (k * 7 + 7))
def decN (s : ByteArray) : Nat → Nat
  | 0 => 0
  | k + 1 => if 0 < synK (s.extract (k * 7) (k * 7 + 7)) 7 then decN s k + 1 else decN s k
def hamR (s : ByteArray) : Option (ByteArray × Nat) := if (bitsB s && (s.size % 7 == 0)) = true then some (decT s (s.size / 7), decN s (s.size / 7)) else none
theorem hamR_no1 {s : ByteArray} (h : bitsB s = false) : hamR s = none := by unfold hamR; rw [h]; rfl
theorem hamR_no2 {s : ByteArray} (h : ¬ s.size % 7 = 0) : hamR s = none := by
  unfold hamR; rw [show (s.size % 7 == 0) = false by rw [beq_eq_false_iff_ne]; exact h, Bool.and_false]; rfl
theorem hamR_yes {s : ByteArray} (h1 : bitsB s = true) (h2 : s.size % 7 = 0) : hamR s = some (decT s (s.size / 7), decN s (s.size / 7)) := by
  unfold hamR; rw [h1, show (s.size % 7 == 0) = true by rw [beq_iff_eq]; exact h2]; rfl
theorem fix_size {X : ByteArray} (h : X.size = 7) : (fixB X).size = 7 := by
  unfold fixB
  have := synK_lt X 7 (Nat.le_refl _)
  split
  · rw [flip_size (by omega), h]
  · exact h
theorem dec_size {X : ByteArray} (h : X.size = 7) : (decB X).size = 4 := by
  unfold decB; rw [ap_size, ex_size (by rw [fix_size h]; omega), ex_size (by rw [fix_size h]; omega)]
theorem decN_le (s : ByteArray) : ∀ k, decN s k ≤ k
  | 0 => Nat.le_refl _
  | k + 1 => by
    have := decN_le s k
    unfold decN; split <;> omega
theorem decT_size {s : ByteArray} : ∀ k, k * 7 ≤ s.size → (decT s k).size = 4 * k
  | 0, _ => rfl
  | k + 1, h => by
    have ih := decT_size (s := s) k (by omega)
    rw [decT, ap_size, ih, dec_size (by rw [ex_size (by omega)]; omega)]; omega

set_option maxHeartbeats 800000 in
theorem syndromeOf_c (s : ByteArray) (w : World) (hz : s.size ≤ 7) : Calls Try.prog 69 #[.string s] w fun e w' => e = .returned (.int .i64 (synK s s.size : Nat)) ∧ w = w' := by
  go_enter Try.func69, Try.ntmps69
  go_wp2_with fail
  go_loop [3, 7] (fun n i => ∃ k : Nat, k ≤ s.size ∧ i = .int .i64 k ∧ n = .int .i64 (synK s k : Nat)) (fun _ i => s.size - (intOf i).toNat)
  case atStart => exact ⟨0, Nat.zero_le _, rfl, rfl⟩
  case round =>
    obtain ⟨k, hk, rfl, rfl⟩ := hrel
    have hlt8 := synK_lt s k (by omega)
    by_cases hlt : k < s.size
    · by_cases h1 : s[k].toNat = 49
      · have HS := Lib.hid (synK_yes hlt h1)
        have hv : ((s[k].toNat : Int) == 49) = true := by rw [beq_iff_eq]; omega
        generalize synK s k = n at *
        have HX := Lib.hid (show bits .xor .i64 (n : Int) ((k : Int) + 1) = ((n ^^^ (k + 1) : Nat) : Int) from i64_xor n (k + 1) (by omega) (by omega))
        clear h1
        go_wp2_with fail
        go_round
        case rel => exact ⟨k + 1, by omega, by go_num, by rw [HX.out, HS.out]⟩
        case measure => simp [intOf]; omega
      · have HS := Lib.hid (synK_no hlt h1)
        have hv : ((s[k].toNat : Int) == 49) = false := by rw [beq_eq_false_iff_ne]; omega
        generalize synK s k = n at *
        clear h1
        go_wp2_with fail
        go_round
        case rel => exact ⟨k + 1, by omega, by go_num, by rw [HS.out]⟩
        case measure => simp [intOf]; omega
    · obtain rfl : k = s.size := by omega
      go_wp2_with fail
      go_ret
      exact ⟨rfl, rfl⟩

set_option maxHeartbeats 800000 in
theorem l6Syndrome_c (s : ByteArray) (w : World) (hz : s.size ≤ 7) : Calls Try.prog 74 #[.string s] w fun e w' => e = .returned (.int .i64 (synK s s.size : Nat)) ∧ w = w' := by
  go_enter Try.func74, Try.ntmps74
  go_wp2_with fail
  go_loop [3, 4] (fun n i => ∃ k : Nat, k ≤ s.size ∧ i = .int .i64 k ∧ n = .int .i64 (synK s k : Nat)) (fun _ i => s.size - (intOf i).toNat)
  case atStart => exact ⟨0, Nat.zero_le _, rfl, rfl⟩
  case round =>
    obtain ⟨k, hk, rfl, rfl⟩ := hrel
    have hlt8 := synK_lt s k (by omega)
    by_cases hlt : k < s.size
    · by_cases h1 : s[k].toNat = 49
      · have HS := Lib.hid (synK_yes hlt h1)
        have hv : ((s[k].toNat : Int) == 49) = true := by rw [beq_iff_eq]; omega
        generalize synK s k = n at *
        have HX := Lib.hid (show bits .xor .i64 (n : Int) ((k : Int) + 1) = ((n ^^^ (k + 1) : Nat) : Int) from i64_xor n (k + 1) (by omega) (by omega))
        clear h1
        go_wp2_with fail
        go_round
        case rel => exact ⟨k + 1, by omega, by go_num, by rw [HX.out, HS.out]⟩
        case measure => simp [intOf]; omega
      · have HS := Lib.hid (synK_no hlt h1)
        have hv : ((s[k].toNat : Int) == 49) = false := by rw [beq_eq_false_iff_ne]; omega
        generalize synK s k = n at *
        clear h1
        go_wp2_with fail
        go_round
        case rel => exact ⟨k + 1, by omega, by go_num, by rw [HS.out]⟩
        case measure => simp [intOf]; omega
    · obtain rfl : k = s.size := by omega
      go_wp2_with fail
      go_ret
      exact ⟨rfl, rfl⟩

theorem dec_step (s : ByteArray) (k : Nat) {Y : ByteArray} (hY : Y = fixB (s.extract (k * 7) (k * 7 + 7))) (hz : Y.size = 7) : decT s k ++ Y.extract 2 3 ++ Y.extract 4 Y.size = decT s (k + 1) := by
  rw [hz, decT]
  unfold decB
  rw [← hY]
  apply b_ext
  simp only [ap_list, List.append_assoc]

set_option maxRecDepth 100000 in
set_option maxHeartbeats 1600000 in
theorem sHammingDecode_c (s : ByteArray) (w : World) (hs : s.size ≤ 1099511627776) : Calls Try.prog 41 #[.string s] w (RetPF w (hamR s)) := by
  by_cases h1 : bitsB s = true
  · have h6 := bits_le h1
    obtain ⟨m, hm⟩ : ∃ m, m = s.size % 7 := ⟨_, rfl⟩
    have e1 : (s.size : Int).tmod 7 = (m : Int) := by rw [hm]; rfl
    have e2 : (s.size : Int) % 7 = (m : Int) := by rw [hm]; rfl
    by_cases h2 : m = 0
    · have hr := Lib.hid (hamR_yes h1 (by omega))
      obtain ⟨M, hM⟩ : ∃ M, M = s.size / 7 := ⟨_, rfl⟩
      rw [← hM] at hr
      have hM7 : M * 7 = s.size := by omega
      have HM := Lib.hid hM7
      have HA := Lib.hid (bits_all h1)
      have e3 : (s.size : Int).tmod 7 = 0 := by rw [e1, h2]; rfl
      have e4 : (s.size : Int) % 7 = 0 := by rw [e2, h2]; rfl
      clear hm hM hM7 e1 e2 h2
      go_enter Try.func41, Try.ntmps41
      go_wp2_with fail
      refine (l1Bits_c _ _ hs).mono ?_; rintro e w' ⟨rfl, rfl⟩
      rw [h1]
      clear h1
      go_wp2_with fail
      clear e3 e4
      go_loopw [5, 6, 7] (fun o n i wr => ∃ k P : Nat, k ≤ M ∧ Hid (P = k * 7) ∧ i = .int .i64 P ∧ o = .string (decT s k) ∧ n = .int .i64 (decN s k : Nat) ∧ Below w.heap.size w wr) (fun _ _ i _ => s.size - (intOf i).toNat)
      case atStart => exact ⟨0, 0, Nat.zero_le _, Lib.hid rfl, rfl, rfl, rfl, Below.refl _ _⟩
      case round =>
        obtain ⟨k, P, hk, HP, rfl, rfl, rfl, hb⟩ := hrel
        have hdn := decN_le s k
        have hP := HP.out
        have hMM := HM.out
        by_cases hlt : k < M
        · have hPs : P + 7 ≤ s.size := by omega
          have hdz := decT_size (s := s) k (by omega)
          obtain ⟨Q, hQ⟩ : ∃ Q, Q = P + 7 := ⟨_, rfl⟩
          have hQI : (P : Int) + 7 = (Q : Int) := by rw [hQ]; rfl
          have HPQ := Lib.hid (show Q = (k + 1) * 7 by omega)
          obtain ⟨X, hX⟩ : ∃ X, X = s.extract P Q := ⟨_, rfl⟩
          have hXz : X.size = 7 := by rw [hX, ex_size (by omega)]; omega
          have hXB : allS bitC X = true := by rw [hX]; exact allS_ex P Q HA.out
          have hX2 : X = s.extract (k * 7) (k * 7 + 7) := by rw [hX, hQ, hP]
          have HX := Lib.hid hX
          have HXB := Lib.hid hXB
          have hsy := synK_lt X 7 (Nat.le_refl _)
          have hPQ : P ≤ Q := by omega
          have hQs : Q ≤ s.size := by omega
          have hzb := hb.size
          have hk6 : k ≤ 600 := by omega
          by_cases hy : 0 < synK X 7
          · have HN := Lib.hid (show decN s (k + 1) = decN s k + 1 by rw [decN, ← hX2, if_pos hy])
            have HY := Lib.hid (show fixB X = flipT X (synK X 7 - 1) by unfold fixB; rw [if_pos hy])
            have hYz := fix_size hXz
            have HT := Lib.hid (dec_step s k (Y := fixB X) (by rw [hX2]) hYz)
            rw [HY.out] at hYz HT
            obtain ⟨p, hp⟩ : ∃ p, p = synK X 7 := ⟨_, rfl⟩
            rw [← hp] at hy hsy hYz HT
            have Hp := Lib.hid hp
            clear hP hMM hQ hX hXB hX2 hp HY
            go_wp2_with fail
            rw [← HX.out]
            refine (l6Syndrome_c X _ (by omega)).mono ?_; rintro e w' ⟨rfl, rfl⟩
            rw [hXz, ← Hp.out]
            obtain ⟨q, rfl⟩ : ∃ q, p = q + 1 := ⟨p - 1, by omega⟩
            rw [Nat.add_sub_cancel] at hYz HT
            have hqI : ((q + 1 : Nat) : Int) - 1 = (q : Int) := by omega
            go_wp2_with fail
            refine (l6Flip_c X q _ (by omega) (by omega) HXB.out).mono ?_; rintro e w2 ⟨rfl, hb2⟩
            have hb3 := hb.trans (hb2.mono hzb)
            generalize flipT X q = Y at *
            have hc1 : (decT s k ++ Y.extract 2 3).size = 4 * k + 1 := by rw [ap_size, hdz, ex_size (by omega)]
            have hc2 : (Y.extract 2 3).size = 1 := by rw [ex_size (by omega)]
            have hc3 : (Y.extract 4 7).size = 3 := by rw [ex_size (by omega)]
            have hd1 : ¬ (decT s k).size + (Y.extract 2 3).size > 9223372036854775807 := by omega
            have hd2 : ¬ (decT s k ++ Y.extract 2 3).size + (Y.extract 4 7).size > 9223372036854775807 := by omega
            have hi3 : (3 : Int) ≤ (Y.size : Int) := by omega
            have hi4 : (4 : Int) ≤ (Y.size : Int) := by omega
            have hHT := HT.out
            rw [hYz] at hHT
            have HT2 := Lib.hid hHT
            clear hHT
            clear hb hb2
            go_wp2_with fail
            go_quiet (fail)
            go_wp2_with fail
            go_roundw
            case rel => exact ⟨k + 1, Q, by omega, HPQ, rfl, by rw [HT2.out], by rw [HN.out]; go_num, hb3.trans ((Qw.drewN _ _).below _)⟩
            case measure => simp [intOf]; omega
          · have HN := Lib.hid (show decN s (k + 1) = decN s k by rw [decN, ← hX2, if_neg hy])
            have HY := Lib.hid (show fixB X = X by unfold fixB; rw [if_neg hy])
            have hYz := fix_size hXz
            have HT := Lib.hid (dec_step s k (Y := fixB X) (by rw [hX2]) hYz)
            rw [HY.out] at HT
            have hsy0 : synK X 7 = 0 := by omega
            have Hp := Lib.hid hsy0
            have hHT := HT.out
            rw [hXz] at hHT
            have HT2 := Lib.hid hHT
            clear hP hMM hQ hXB hX2 HY hsy0 hHT hYz hy hsy
            go_wp2_with fail
            rw [← HX.out]
            clear hX
            refine (l6Syndrome_c X _ (by omega)).mono ?_; rintro e w' ⟨rfl, rfl⟩
            rw [hXz, Hp.out]
            have hc1 : (decT s k ++ X.extract 2 3).size = 4 * k + 1 := by rw [ap_size, hdz, ex_size (by omega)]
            have hc2 : (X.extract 2 3).size = 1 := by rw [ex_size (by omega)]
            have hc3 : (X.extract 4 7).size = 3 := by rw [ex_size (by omega)]
            have hd1 : ¬ (decT s k).size + (X.extract 2 3).size > 9223372036854775807 := by omega
            have hd2 : ¬ (decT s k ++ X.extract 2 3).size + (X.extract 4 7).size > 9223372036854775807 := by omega
            have hi3 : (3 : Int) ≤ (X.size : Int) := by omega
            have hi4 : (4 : Int) ≤ (X.size : Int) := by omega
            go_wp2_with fail
            go_quiet (fail)
            go_wp2_with fail
            go_roundw
            case rel => exact ⟨k + 1, Q, by omega, HPQ, rfl, by rw [HT2.out], by rw [HN.out], hb.trans ((Qw.drewN _ _).below _)⟩
            case measure => simp [intOf]; omega
        · obtain rfl : k = M := by omega
          have hnl : ¬ (P : Int) < (s.size : Int) := by omega
          clear hP hMM
          go_wp2_with fail
          go_ret3
          exact retPF_some hr.out rfl hb
    · have hr := Lib.hid (hamR_no2 (s := s) (by omega))
      have hm0 : ((m : Int) == 0) = false := by rw [beq_eq_false_iff_ne]; omega
      clear hm h2
      go_enter Try.func41, Try.ntmps41
      go_wp2_with fail
      refine (l1Bits_c _ _ hs).mono ?_; rintro e w' ⟨rfl, rfl⟩
      rw [h1]
      go_wp2_with fail
      go_ret3
      exact retPF_none hr.out (Below.refl _ _)
  · have h1' : bitsB s = false := by simpa using h1
    have hr := Lib.hid (hamR_no1 h1')
    clear h1
    go_enter Try.func41, Try.ntmps41
    go_wp2_with fail
    refine (l1Bits_c _ _ hs).mono ?_; rintro e w' ⟨rfl, rfl⟩
    rw [h1']
    go_wp2_with fail
    go_ret3
    exact retPF_none hr.out (Below.refl _ _)

theorem codes_ap (a b : ByteArray) : codes (a ++ b) = codes a ++ codes b := by unfold codes; rw [ap_list, List.map_append]
theorem codes_ex (s : ByteArray) (a b : Nat) : codes (s.extract a b) = ((codes s).drop a).take (b - a) := by unfold codes; rw [ex_list, List.map_take, List.map_drop]
/-- The block with bit q changed. -/
theorem codes_flip {X : ByteArray} {q : Nat} (hq : q < X.size) (hb : allS bitC X = true) : codes (flipT X q) = (codes X).set q (97 - (codes X)[q]'(by rw [codes_length]; exact hq)) := by
  have hl : q < (codes X).length := by rw [codes_length]; exact hq
  unfold flipT
  rw [codes_ap, codes_ap, codes_inv (allS_ex q (q + 1) hb), codes_ex, codes_ex, codes_ex, List.set_eq_take_append_cons_drop, if_pos hl]
  rw [List.drop_zero, Nat.sub_zero, Nat.add_sub_cancel_left, List.drop_eq_getElem_cons hl]
  rw [List.take_of_length_le (l := (codes X).drop (q + 1)) (by rw [List.length_drop, codes_length]; exact Nat.le_refl _)]
  simp [invL]
  have hl2 : q < ((codes X).map fun x => 97 - x).length := by rw [List.length_map]; exact hl
  rw [List.drop_eq_getElem_cons hl2, List.getElem_map]; rfl
/-- The four data bits of a block. -/
theorem codes_dec {Y : ByteArray} (hz : Y.size = 7) (h2 : 2 < (codes Y).length) (h4 : 4 < (codes Y).length) (h5 : 5 < (codes Y).length) (h6 : 6 < (codes Y).length) :
    codes (Y.extract 2 3 ++ Y.extract 4 7) = [(codes Y)[2], (codes Y)[4], (codes Y)[5], (codes Y)[6]] := by
  have hl : (codes Y).length = 7 := by rw [codes_length]; exact hz
  rw [codes_ap, codes_ex, codes_ex]
  generalize codes Y = L at *
  match L, hl with
  | [a, b, c, d, e, f, g], _ => rfl

end Go.Proofs.Ytbgabjdgbibohaa
