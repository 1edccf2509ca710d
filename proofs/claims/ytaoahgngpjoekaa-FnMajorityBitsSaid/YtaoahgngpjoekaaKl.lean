/- RepeatBits and MajorityBits of the program and of the reference. No condition beyond lengths. -/
import Derived.Test.YtaoahgngpjoekaaKj
import Derived.Test.YtaoahgngpjoekaaShelf
namespace Go.Proofs.Ytaoahgngpjoekaa
open Go.RowKit

set_option maxHeartbeats 400000 in
theorem repetitionsValid_c (n : Int) (w : World) : Calls Try.prog 85 #[.int .i64 n] w fun e w' => e = .returned (.bool (oddB n)) ∧ w = w' := by
  by_cases h1 : 1 ≤ n
  · by_cases h2 : n ≤ 9
    · have hr := Lib.hid (show oddB n = (n % 2 == 1) by unfold oddB; rw [inB_true h1 h2]; rfl)
      have e1 : n.tmod 2 = n % 2 := by rw [Int.tmod_eq_emod_of_nonneg (by omega)]
      go_enter Try.func85, Try.ntmps85
      go_wp2_with fail
      go_ret
      exact ⟨ret_b hr.out.symm, rfl⟩
    · have hr := Lib.hid (show oddB n = false by unfold oddB inB; rw [decide_eq_false h2]; simp)
      go_enter Try.func85, Try.ntmps85
      go_wp2_with fail
      go_ret
      exact ⟨ret_b hr.out.symm, rfl⟩
  · have hr := Lib.hid (show oddB n = false by unfold oddB inB; rw [decide_eq_false h1]; simp)
    go_enter Try.func85, Try.ntmps85
    go_wp2_with fail
    go_ret
    exact ⟨ret_b hr.out.symm, rfl⟩

set_option maxHeartbeats 400000 in
theorem l6Odd_c (n : Int) (w : World) : Calls Try.prog 87 #[.int .i64 n] w fun e w' => e = .returned (.bool (oddB n)) ∧ w = w' := by
  by_cases h : inB n 1 9 = true
  · have hr := Lib.hid (show oddB n = (n % 2 == 1) by unfold oddB; rw [h]; rfl)
    have h1 : 1 ≤ n := by unfold inB at h; simp only [Bool.and_eq_true, decide_eq_true_eq] at h; exact h.1
    have e1 : n.tmod 2 = n % 2 := by rw [Int.tmod_eq_emod_of_nonneg (by omega)]
    go_enter Try.func87, Try.ntmps87
    go_wp2_with fail
    refine (l1In_c _ _ _ _).mono ?_; rintro e w' ⟨rfl, rfl⟩
    rw [h]
    go_wp2_with fail
    go_ret
    exact ⟨ret_b hr.out.symm, rfl⟩
  · have h' : inB n 1 9 = false := by simpa using h
    have hr := Lib.hid (show oddB n = false by unfold oddB; rw [h']; rfl)
    go_enter Try.func87, Try.ntmps87
    go_wp2_with fail
    refine (l1In_c _ _ _ _).mono ?_; rintro e w' ⟨rfl, rfl⟩
    rw [h']
    go_wp2_with fail
    go_ret
    exact ⟨ret_b hr.out.symm, rfl⟩

set_option maxHeartbeats 800000 in
theorem l2Balance_c (s : ByteArray) (w : World) (h : allS bitC s = true) (hz : s.size ≤ 600) : Calls Try.prog 88 #[.string s] w fun e w' => e = .returned (.int .i64 (2 * (cntO s 0 s.size : Int) - s.size)) ∧ w = w' := by
  have HA := Lib.hid h
  clear h
  go_enter Try.func88, Try.ntmps88
  go_wp2_with fail
  go_loop [3, 4] (fun n i => ∃ k : Nat, k ≤ s.size ∧ i = .int .i64 k ∧ n = .int .i64 (2 * (cntO s 0 k : Int) - k)) (fun _ i => s.size - (intOf i).toNat)
  case atStart => exact ⟨0, Nat.zero_le _, rfl, by rw [cntO_zero]; rfl⟩
  case round =>
    obtain ⟨k, hk, rfl, rfl⟩ := hrel
    have hle := cntO_le s 0 k
    by_cases hlt : k < s.size
    · have hbit := bit_at HA.out hlt
      by_cases h1 : s[k].toNat = 49
      · have HS := Lib.hid (cntO_yes (s := s) (a := 0) (k := k) (by omega) (by simpa using h1))
        have hv : (s[k].toNat : Int) = 49 := by omega
        generalize cntO s 0 k = c at *
        clear h1 hbit
        go_wp2_with fail
        go_round
        case rel => exact ⟨k + 1, by omega, by go_num, by rw [HS.out]; go_num⟩
        case measure => simp [intOf]; omega
      · have HS := Lib.hid (cntO_no (s := s) (a := 0) (k := k) (by omega) (by simpa using h1))
        have hv : (s[k].toNat : Int) = 48 := by omega
        generalize cntO s 0 k = c at *
        clear h1 hbit
        go_wp2_with fail
        go_round
        case rel => exact ⟨k + 1, by omega, by go_num, by rw [HS.out]; go_num⟩
        case measure => simp [intOf]; omega
    · obtain rfl : k = s.size := by omega
      go_wp2_with fail
      go_ret
      exact ⟨rfl, rfl⟩

set_option maxHeartbeats 800000 in
theorem l9ManyC_c (c : Int) (n : Nat) (w : World) (hn : n ≤ 1000) : Calls Try.prog 109 #[.string (manyT c 1), .int .i64 n] w fun e w' => e = .returned (.string (manyT c n)) ∧ w = w' := by
  go_enter Try.func109, Try.ntmps109
  go_wp2
  go_loop [0, 1, 5] (fun s i o => ∃ a b j : Nat, s = .string (manyT c b) ∧ i = .int .i64 j ∧ o = .string (manyT c a) ∧ j ≤ n ∧ Hid (a + b * j = n ∧ b ≤ 2 * n + 1)) (fun _ i _ => (intOf i).toNat)
  case atStart => exact ⟨0, 1, n, rfl, rfl, rfl, Nat.le_refl _, Lib.hid ⟨by omega, by omega⟩⟩
  case round =>
    obtain ⟨a, b, j, rfl, rfl, rfl, hj, HI⟩ := hrel
    by_cases h0 : 0 < j
    · have hbj : b ≤ b * j := Nat.le_mul_of_pos_right b h0
      have hb := HI.out.2
      have ha : a ≤ n := by have := HI.out.1; omega
      have hza := manyT_size c a
      have hzb := manyT_size c b
      have hs1 : ¬ (manyT c a).size + (manyT c b).size > 9223372036854775807 := by omega
      have hs2 : ¬ (manyT c b).size + (manyT c b).size > 9223372036854775807 := by omega
      have HZ := Lib.hid (And.intro hza hzb); clear hza hzb
      have HA := Lib.hid (manyT_add c a b)
      have HB := Lib.hid (manyT_add c b b)
      have hbn : b ≤ n := by have := HI.out.1; omega
      by_cases hodd : j % 2 = 1
      · have hd : ((j : Int) % 2 == 1) = true := by simp; omega
        have hmul : b * j = b * 2 * (j / 2) + b := by
          have : j = 2 * (j / 2) + 1 := by omega
          conv => lhs; rw [this]
          rw [Nat.mul_add, Nat.mul_one, Nat.mul_assoc]
        have HN := Lib.hid (show a + b + (b + b) * (j / 2) = n ∧ b + b ≤ 2 * n + 1 by
          have h1 := HI.out.1
          rw [show b + b = b * 2 by omega]
          exact ⟨by omega, by omega⟩)
        clear hodd hbj hmul
        go_wp2_with fail
        rw [HA.out, HB.out]
        go_round
        case rel => exact ⟨a + b, b + b, j / 2, rfl, by go_num, rfl, by omega, HN⟩
        case measure => simp [intOf]; omega
      · have hd : ((j : Int) % 2 == 1) = false := by simp; omega
        have hmul : b * j = b * 2 * (j / 2) := by
          have : j = 2 * (j / 2) := by omega
          conv => lhs; rw [this]
          rw [Nat.mul_assoc]
        have HN := Lib.hid (show a + (b + b) * (j / 2) = n ∧ b + b ≤ 2 * n + 1 by
          have h1 := HI.out.1
          rw [show b + b = b * 2 by omega]
          exact ⟨by omega, by omega⟩)
        clear hodd hbj hmul
        go_wp2_with fail
        rw [HB.out]
        go_round
        case rel => exact ⟨a, b + b, j / 2, rfl, by go_num, rfl, by omega, HN⟩
        case measure => simp [intOf]; omega
    · obtain rfl : j = 0 := by omega
      have HE := Lib.hid (show a = n by have := HI.out.1; omega)
      go_wp2_with fail
      go_ret
      exact ⟨ret_s (by rw [HE.out]), rfl⟩

end Go.Proofs.Ytaoahgngpjoekaa
