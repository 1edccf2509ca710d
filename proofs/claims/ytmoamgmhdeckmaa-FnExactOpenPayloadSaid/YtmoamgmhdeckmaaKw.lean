/- HammingDecode of the reference. No condition beyond lengths. -/
import Derived.Test.YtmoamgmhdeckmaaKv
namespace Go.Proofs.Ytmoamgmhdeckmaa
open Go.RowKit

theorem dec_step (s : ByteArray) (k : Nat) {Y : ByteArray} (hY : Y = fixB (s.extract (k * 7) (k * 7 + 7))) (hz : Y.size = 7) : decT s k ++ Y.extract 2 3 ++ Y.extract 4 Y.size = decT s (k + 1) := by
  rw [hz, decT]
  unfold decB
  rw [← hY]
  apply b_ext
  simp only [ap_list, List.append_assoc]

set_option maxRecDepth 100000 in
set_option maxHeartbeats 1600000 in
theorem sHammingDecode_c (s : ByteArray) (w : World) (hs : s.size ≤ 1099511627776) : Calls Try.prog 31 #[.string s] w (RetPF w (hamR s)) := by
  by_cases h1 : bitsB s = true
  · have h6 := bits_le h1
    obtain ⟨m, hm⟩ : ∃ m, m = s.size % 7 := ⟨_, rfl⟩
    have e1 : (s.size : Int).tmod 7 = (m : Int) := by rw [hm]; rfl
    have e2 : (s.size : Int) % 7 = (m : Int) := by rw [hm]; rfl
    by_cases h2 : m = 0
    · have hr := Lib.hid (hamR_yes h1 (by omega))
      obtain ⟨M, hM⟩ : ∃ M, M = s.size / 7 := ⟨_, rfl⟩
      rw [← hM] at hr
      have hM7 : M * 7 = s.size := by omega
      have HM := Lib.hid hM7
      have HA := Lib.hid (bits_all h1)
      have e3 : (s.size : Int).tmod 7 = 0 := by rw [e1, h2]; rfl
      have e4 : (s.size : Int) % 7 = 0 := by rw [e2, h2]; rfl
      clear hm hM hM7 e1 e2 h2
      go_enter Try.func31, Try.ntmps31
      go_wp2_with fail
      refine (l1Bits_c _ _ hs).mono ?_; rintro e w' ⟨rfl, rfl⟩
      rw [h1]
      clear h1
      go_wp2_with fail
      clear e3 e4
      go_loopw [5, 6, 7] (fun o n i wr => ∃ k P : Nat, k ≤ M ∧ Hid (P = k * 7) ∧ i = .int .i64 P ∧ o = .string (decT s k) ∧ n = .int .i64 (decN s k : Nat) ∧ Below w.heap.size w wr) (fun _ _ i _ => s.size - (intOf i).toNat)
      case atStart => exact ⟨0, 0, Nat.zero_le _, Lib.hid rfl, rfl, rfl, rfl, Below.refl _ _⟩
      case round =>
        obtain ⟨k, P, hk, HP, rfl, rfl, rfl, hb⟩ := hrel
        have hdn := decN_le s k
        have hP := HP.out
        have hMM := HM.out
        by_cases hlt : k < M
        · have hPs : P + 7 ≤ s.size := by omega
          have hdz := decT_size (s := s) k (by omega)
          obtain ⟨Q, hQ⟩ : ∃ Q, Q = P + 7 := ⟨_, rfl⟩
          have hQI : (P : Int) + 7 = (Q : Int) := by rw [hQ]; rfl
          have HPQ := Lib.hid (show Q = (k + 1) * 7 by omega)
          obtain ⟨X, hX⟩ : ∃ X, X = s.extract P Q := ⟨_, rfl⟩
          have hXz : X.size = 7 := by rw [hX, ex_size (by omega)]; omega
          have hXB : allS bitC X = true := by rw [hX]; exact allS_ex P Q HA.out
          have hX2 : X = s.extract (k * 7) (k * 7 + 7) := by rw [hX, hQ, hP]
          have HX := Lib.hid hX
          have HXB := Lib.hid hXB
          have hsy := synK_lt X 7 (Nat.le_refl _)
          have hPQ : P ≤ Q := by omega
          have hQs : Q ≤ s.size := by omega
          have hzb := hb.size
          have hk6 : k ≤ 600 := by omega
          by_cases hy : 0 < synK X 7
          · have HN := Lib.hid (show decN s (k + 1) = decN s k + 1 by rw [decN, ← hX2, if_pos hy])
            have HY := Lib.hid (show fixB X = flipT X (synK X 7 - 1) by unfold fixB; rw [if_pos hy])
            have hYz := fix_size hXz
            have HT := Lib.hid (dec_step s k (Y := fixB X) (by rw [hX2]) hYz)
            rw [HY.out] at hYz HT
            obtain ⟨p, hp⟩ : ∃ p, p = synK X 7 := ⟨_, rfl⟩
            rw [← hp] at hy hsy hYz HT
            have Hp := Lib.hid hp
            clear hP hMM hQ hX hXB hX2 hp HY
            go_wp2_with fail
            rw [← HX.out]
            refine (l6Syndrome_c X _ (by omega)).mono ?_; rintro e w' ⟨rfl, rfl⟩
            rw [hXz, ← Hp.out]
            obtain ⟨q, rfl⟩ : ∃ q, p = q + 1 := ⟨p - 1, by omega⟩
            rw [Nat.add_sub_cancel] at hYz HT
            have hqI : ((q + 1 : Nat) : Int) - 1 = (q : Int) := by omega
            go_wp2_with fail
            refine (l6Flip_c X q _ (by omega) (by omega) HXB.out).mono ?_; rintro e w2 ⟨rfl, hb2⟩
            have hb3 := hb.trans (hb2.mono hzb)
            generalize flipT X q = Y at *
            have hc1 : (decT s k ++ Y.extract 2 3).size = 4 * k + 1 := by rw [ap_size, hdz, ex_size (by omega)]
            have hc2 : (Y.extract 2 3).size = 1 := by rw [ex_size (by omega)]
            have hc3 : (Y.extract 4 7).size = 3 := by rw [ex_size (by omega)]
            have hd1 : ¬ (decT s k).size + (Y.extract 2 3).size > 9223372036854775807 := by omega
            have hd2 : ¬ (decT s k ++ Y.extract 2 3).size + (Y.extract 4 7).size > 9223372036854775807 := by omega
            have hi3 : (3 : Int) ≤ (Y.size : Int) := by omega
            have hi4 : (4 : Int) ≤ (Y.size : Int) := by omega
            have hHT := HT.out
            rw [hYz] at hHT
            have HT2 := Lib.hid hHT
            clear hHT
            clear hb hb2
            go_wp2_with fail
            go_quiet (fail)
            go_wp2_with fail
            go_roundw
            case rel => exact ⟨k + 1, Q, by omega, HPQ, rfl, by rw [HT2.out], by rw [HN.out]; go_num, hb3.trans ((Qw.drewN _ _).below _)⟩
            case measure => simp [intOf]; omega
          · have HN := Lib.hid (show decN s (k + 1) = decN s k by rw [decN, ← hX2, if_neg hy])
            have HY := Lib.hid (show fixB X = X by unfold fixB; rw [if_neg hy])
            have hYz := fix_size hXz
            have HT := Lib.hid (dec_step s k (Y := fixB X) (by rw [hX2]) hYz)
            rw [HY.out] at HT
            have hsy0 : synK X 7 = 0 := by omega
            have Hp := Lib.hid hsy0
            have hHT := HT.out
            rw [hXz] at hHT
            have HT2 := Lib.hid hHT
            clear hP hMM hQ hXB hX2 HY hsy0 hHT hYz hy hsy
            go_wp2_with fail
            rw [← HX.out]
            clear hX
            refine (l6Syndrome_c X _ (by omega)).mono ?_; rintro e w' ⟨rfl, rfl⟩
            rw [hXz, Hp.out]
            have hc1 : (decT s k ++ X.extract 2 3).size = 4 * k + 1 := by rw [ap_size, hdz, ex_size (by omega)]
            have hc2 : (X.extract 2 3).size = 1 := by rw [ex_size (by omega)]
            have hc3 : (X.extract 4 7).size = 3 := by rw [ex_size (by omega)]
            have hd1 : ¬ (decT s k).size + (X.extract 2 3).size > 9223372036854775807 := by omega
            have hd2 : ¬ (decT s k ++ X.extract 2 3).size + (X.extract 4 7).size > 9223372036854775807 := by omega
            have hi3 : (3 : Int) ≤ (X.size : Int) := by omega
            have hi4 : (4 : Int) ≤ (X.size : Int) := by omega
            go_wp2_with fail
            go_quiet (fail)
            go_wp2_with fail
            go_roundw
            case rel => exact ⟨k + 1, Q, by omega, HPQ, rfl, by rw [HT2.out], by rw [HN.out], hb.trans ((Qw.drewN _ _).below _)⟩
            case measure => simp [intOf]; omega
        · obtain rfl : k = M := by omega
          have hnl : ¬ (P : Int) < (s.size : Int) := by omega
          clear hP hMM
          go_wp2_with fail
          go_ret3
          exact retPF_some hr.out rfl hb
    · have hr := Lib.hid (hamR_no2 (s := s) (by omega))
      have hm0 : ((m : Int) == 0) = false := by rw [beq_eq_false_iff_ne]; omega
      clear hm h2
      go_enter Try.func31, Try.ntmps31
      go_wp2_with fail
      refine (l1Bits_c _ _ hs).mono ?_; rintro e w' ⟨rfl, rfl⟩
      rw [h1]
      go_wp2_with fail
      go_ret3
      exact retPF_none hr.out (Below.refl _ _)
  · have h1' : bitsB s = false := by simpa using h1
    have hr := Lib.hid (hamR_no1 h1')
    clear h1
    go_enter Try.func31, Try.ntmps31
    go_wp2_with fail
    refine (l1Bits_c _ _ hs).mono ?_; rintro e w' ⟨rfl, rfl⟩
    rw [h1']
    go_wp2_with fail
    go_ret3
    exact retPF_none hr.out (Below.refl _ _)

end Go.Proofs.Ytmoamgmhdeckmaa
