/- RepeatBits and MajorityBits of the program and of the reference. No condition beyond lengths. -/
import Derived.Test.YtadcckjlcmnhbaaKj
import Derived.Test.YtadcckjlcmnhbaaShelf
namespace Go.Proofs.Ytadcckjlcmnhbaa
open Go.RowKit




set_option maxHeartbeats 800000 in
theorem l9ManyC_c (c : Int) (n : Nat) (w : World) (hn : n ≤ 1000) : Calls Try.prog 45 #[.string (manyT c 1), .int .i64 n] w fun e w' => e = .returned (.string (manyT c n)) ∧ w = w' := by
  go_enter Try.func45, Try.ntmps45
  go_wp2
  go_loop [0, 1, 5] (fun s i o => ∃ a b j : Nat, s = .string (manyT c b) ∧ i = .int .i64 j ∧ o = .string (manyT c a) ∧ j ≤ n ∧ Hid (a + b * j = n ∧ b ≤ 2 * n + 1)) (fun _ i _ => (intOf i).toNat)
  case atStart => exact ⟨0, 1, n, rfl, rfl, rfl, Nat.le_refl _, Lib.hid ⟨by omega, by omega⟩⟩
  case round =>
    obtain ⟨a, b, j, rfl, rfl, rfl, hj, HI⟩ := hrel
    by_cases h0 : 0 < j
    · have hbj : b ≤ b * j := Nat.le_mul_of_pos_right b h0
      have hb := HI.out.2
      have ha : a ≤ n := by have := HI.out.1; omega
      have hza := manyT_size c a
      have hzb := manyT_size c b
      have hs1 : ¬ (manyT c a).size + (manyT c b).size > 9223372036854775807 := by omega
      have hs2 : ¬ (manyT c b).size + (manyT c b).size > 9223372036854775807 := by omega
      have HZ := Lib.hid (And.intro hza hzb); clear hza hzb
      have HA := Lib.hid (manyT_add c a b)
      have HB := Lib.hid (manyT_add c b b)
      have hbn : b ≤ n := by have := HI.out.1; omega
      by_cases hodd : j % 2 = 1
      · have hd : ((j : Int) % 2 == 1) = true := by simp; omega
        have hmul : b * j = b * 2 * (j / 2) + b := by
          have : j = 2 * (j / 2) + 1 := by omega
          conv => lhs; rw [this]
          rw [Nat.mul_add, Nat.mul_one, Nat.mul_assoc]
        have HN := Lib.hid (show a + b + (b + b) * (j / 2) = n ∧ b + b ≤ 2 * n + 1 by
          have h1 := HI.out.1
          rw [show b + b = b * 2 by omega]
          exact ⟨by omega, by omega⟩)
        clear hodd hbj hmul
        go_wp2_with fail
        rw [HA.out, HB.out]
        go_round
        case rel => exact ⟨a + b, b + b, j / 2, rfl, by go_num, rfl, by omega, HN⟩
        case measure => simp [intOf]; omega
      · have hd : ((j : Int) % 2 == 1) = false := by simp; omega
        have hmul : b * j = b * 2 * (j / 2) := by
          have : j = 2 * (j / 2) := by omega
          conv => lhs; rw [this]
          rw [Nat.mul_assoc]
        have HN := Lib.hid (show a + (b + b) * (j / 2) = n ∧ b + b ≤ 2 * n + 1 by
          have h1 := HI.out.1
          rw [show b + b = b * 2 by omega]
          exact ⟨by omega, by omega⟩)
        clear hodd hbj hmul
        go_wp2_with fail
        rw [HB.out]
        go_round
        case rel => exact ⟨a, b + b, j / 2, rfl, by go_num, rfl, by omega, HN⟩
        case measure => simp [intOf]; omega
    · obtain rfl : j = 0 := by omega
      have HE := Lib.hid (show a = n by have := HI.out.1; omega)
      go_wp2_with fail
      go_ret
      exact ⟨ret_s (by rw [HE.out]), rfl⟩

end Go.Proofs.Ytadcckjlcmnhbaa
