/- MajorityBits of the reference; RepeatBits of the program and of the reference. No condition beyond lengths. -/
import Derived.Test.YtaoahgngpjoekaaKm
namespace Go.Proofs.Ytaoahgngpjoekaa
open Go.RowKit

set_option maxRecDepth 100000 in
set_option maxHeartbeats 1600000 in
theorem sMajorityBits_c (s : ByteArray) (n : Int) (w : World) (hs : s.size ≤ 1099511627776) : Calls Try.prog 30 #[.string s, .int .i64 n] w (RetTB w (majR s n)) := by
  by_cases h1 : bitsB s = true
  · by_cases h2 : oddB n = true
    · obtain ⟨N, rfl, hN1, hN9, _⟩ := oddB_is h2
      have h6 := bits_le h1
      have e0 : (s.size : Int).tmod (N : Int) = ((s.size % N : Nat) : Int) := rfl
      have hne : ((N : Int) == 0) = false := by rw [beq_eq_false_iff_ne]; omega
      by_cases h3 : s.size % N = 0
      · have hr := Lib.hid (majR_yes h1 h2 h3)
        obtain ⟨M, hM⟩ : ∃ M, M = s.size / N := ⟨_, rfl⟩
        have hMN : M * N = s.size := by rw [hM]; exact Nat.div_mul_cancel (Nat.dvd_of_mod_eq_zero h3)
        have e3 : (s.size : Int).tmod (N : Int) = 0 := by rw [e0, h3]; rfl
        have e4 : (s.size : Int) % (N : Int) = 0 := by rw [show (s.size : Int) % (N : Int) = ((s.size % N : Nat) : Int) from rfl, h3]; rfl
        have HLL := Lib.hid (show (majL s N).length = M by rw [majL_len, hM])
        have HMN := Lib.hid hMN
        have HA := Lib.hid (bits_all h1)
        clear hM h3 e0 hMN
        go_enter Try.func30, Try.ntmps30
        go_wp2_with fail
        refine (l1Bits_c _ _ hs).mono ?_; rintro e w' ⟨rfl, rfl⟩
        rw [h1]
        go_wp2_with fail
        refine (l6Odd_c _ _).mono ?_; rintro e w' ⟨rfl, rfl⟩
        rw [h2]
        clear h1 h2
        go_wp2_with fail
        clear e3 e4
        go_loop [6, 7] (fun o i => ∃ k P : Nat, k ≤ M ∧ Hid (P = k * N) ∧ i = .int .i64 P ∧ o = .string (text ((majL s N).take k))) (fun _ i => s.size - (intOf i).toNat)
        case atStart => exact ⟨0, 0, Nat.zero_le _, Lib.hid (by rw [Nat.zero_mul]), rfl, rfl⟩
        case round =>
          obtain ⟨k, P, hk, HP, rfl, rfl⟩ := hrel
          have hP := HP.out
          have hz : (text ((majL s N).take k)).size ≤ 600 := by rw [text_size, List.length_take, HLL.out]; have := Nat.le_mul_of_pos_right M hN1; have := HMN.out; omega
          by_cases hlt : k < M
          · obtain ⟨Q, hQ⟩ : ∃ Q, Q = P + N := ⟨_, rfl⟩
            have hQM : Q ≤ s.size := by
              rw [hQ, hP, ← HMN.out, ← Nat.succ_mul]; exact Nat.mul_le_mul_right N hlt
            have hPs : P < s.size := by omega
            have hPQ : P ≤ Q := by omega
            have HPN := Lib.hid (show Q = (k + 1) * N by rw [hQ, hP, Nat.succ_mul])
            have hPQI : (P : Int) + (N : Int) = (Q : Int) := by rw [hQ]; rfl
            have hw2 := wr_nat hPQI (by omega)
            obtain ⟨c, hc⟩ : ∃ c, c = cntO s (k * N) N := ⟨_, rfl⟩
            have hcN : c ≤ N := by rw [hc]; exact cntO_le _ _ _
            have hXz : (s.extract P Q).size = N := by rw [ex_size (by omega)]; omega
            have HXB := Lib.hid (allS_ex P Q HA.out)
            have HC := Lib.hid (show cntO (s.extract P Q) 0 (s.extract P Q).size = c by rw [hXz, hQ, cntO_sub, hc, hP])
            have hkL : k < (majL s N).length := by rw [HLL.out]; exact hlt
            have hG : (majL s N)[k] = if N < 2 * c then 49 else 48 := by rw [majL_get hkL, hc]; unfold majB; simp
            have HX := Lib.hid hXz
            clear hP hQ hc hXz
            by_cases hm : N < 2 * c
            · have HT := Lib.hid (text_snoc hkL 49 (by rw [hG, if_pos hm]; rfl))
              have hpos : (0 : Int) < 2 * (c : Int) - (N : Int) := by omega
              clear hG
              go_wp2_with fail
              refine (l2Balance_c (s.extract P Q) _ HXB.out (by rw [HX.out]; omega)).mono ?_; rintro e w' ⟨rfl, rfl⟩
              rw [HC.out, HX.out]
              go_wp2_with fail
              rw [HT.out]
              go_round
              case rel => exact ⟨k + 1, Q, by omega, HPN, by rw [← hPQI], rfl⟩
              case measure => simp [intOf]; omega
            · have HT := Lib.hid (text_snoc hkL 48 (by rw [hG, if_neg hm]; rfl))
              have hpos : ¬ (0 : Int) < 2 * (c : Int) - (N : Int) := by omega
              clear hG
              go_wp2_with fail
              refine (l2Balance_c (s.extract P Q) _ HXB.out (by rw [HX.out]; omega)).mono ?_; rintro e w' ⟨rfl, rfl⟩
              rw [HC.out, HX.out]
              go_wp2_with fail
              rw [HT.out]
              go_round
              case rel => exact ⟨k + 1, Q, by omega, HPN, by rw [← hPQI], rfl⟩
              case measure => simp [intOf]; omega
          · obtain rfl : k = M := by omega
            have hPs : P = s.size := by rw [hP, HMN.out]
            have hnl : ¬ (P : Int) < (s.size : Int) := by omega
            clear hPs hP
            rw [List.take_of_length_le (by rw [HLL.out]; exact Nat.le_refl _)]
            go_wp2_with fail
            go_ret2
            exact retTB_some hr.out (Below.refl _ _)
      · have hr := Lib.hid (majR_no3 h3)
        obtain ⟨m, hm⟩ : ∃ m, m = s.size % N := ⟨_, rfl⟩
        have e3 : (s.size : Int).tmod (N : Int) = (m : Int) := by rw [e0, hm]
        have e4 : (s.size : Int) % (N : Int) = (m : Int) := by rw [hm]; rfl
        have hm0 : ((m : Int) == 0) = false := by rw [beq_eq_false_iff_ne]; omega
        clear e0 h3 hm
        go_enter Try.func30, Try.ntmps30
        go_wp2_with fail
        refine (l1Bits_c _ _ hs).mono ?_; rintro e w' ⟨rfl, rfl⟩
        rw [h1]
        go_wp2_with fail
        refine (l6Odd_c _ _).mono ?_; rintro e w' ⟨rfl, rfl⟩
        rw [h2]
        go_wp2_with fail
        go_ret2
        exact retTB_none hr.out (Below.refl _ _)
    · have h2' : oddB n = false := by simpa using h2
      have hr := Lib.hid (majR_no2 (s := s) h2')
      clear h2
      go_enter Try.func30, Try.ntmps30
      go_wp2_with fail
      refine (l1Bits_c _ _ hs).mono ?_; rintro e w' ⟨rfl, rfl⟩
      rw [h1]
      go_wp2_with fail
      refine (l6Odd_c _ _).mono ?_; rintro e w' ⟨rfl, rfl⟩
      rw [h2']
      go_wp2_with fail
      go_ret2
      exact retTB_none hr.out (Below.refl _ _)
  · have h1' : bitsB s = false := by simpa using h1
    have hr := Lib.hid (majR_no1 (n := n) h1')
    clear h1
    go_enter Try.func30, Try.ntmps30
    go_wp2_with fail
    refine (l1Bits_c _ _ hs).mono ?_; rintro e w' ⟨rfl, rfl⟩
    rw [h1']
    go_wp2_with fail
    go_ret2
    exact retTB_none hr.out (Below.refl _ _)

end Go.Proofs.Ytaoahgngpjoekaa
