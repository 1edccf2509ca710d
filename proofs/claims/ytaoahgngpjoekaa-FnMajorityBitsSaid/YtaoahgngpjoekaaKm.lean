/- MajorityBits of the program and of the reference. No condition beyond lengths. -/
import Derived.Test.YtaoahgngpjoekaaKl
import Derived.Test.YtaoahgngpjoekaaTb
namespace Go.Proofs.Ytaoahgngpjoekaa
open Go.RowKit

theorem set_take {r L : List Int} {k : Nat} (hk : k < L.length) (h : r.length = L.length) : (L.take k ++ r.drop k).set k L[k] = L.take (k + 1) ++ r.drop (k + 1) := by
  have h1 : (L.take k).length = k := by rw [List.length_take]; omega
  rw [List.set_append_right _ _ (by omega), h1, Nat.sub_self, List.drop_eq_getElem_cons (show k < r.length by omega), List.set_cons_zero, List.take_succ_eq_append_getElem hk, List.append_assoc]
  rfl
theorem wr_nat {q : Nat} {x : Int} (h : x = (q : Int)) (hq : q ≤ 100000) : IntKind.i64.wrap x = (q : Int) := by rw [h]; exact IntWalk.i64_in _ (by omega)
theorem wr64_nat {q : Nat} {x : Int} (h : x = (q : Int)) (hq : q ≤ 100000) : wrap64 x = (q : Int) := by rw [h]; exact IntWalk.wrap64_in _ (by omega)
theorem cntO_sub (s : ByteArray) (a k : Nat) : cntO (s.extract a (a + k)) 0 k = cntO s a k := by
  unfold cntO; rw [ex_list, Nat.add_sub_cancel_left, List.drop_zero, List.take_take, Nat.min_self]
theorem text_snoc {L : List Int} {k : Nat} (h : k < L.length) (c : UInt8) (hc : UInt8.ofNat (L[k]).toNat = c) : text (L.take k) ++ ⟨#[c]⟩ = text (L.take (k + 1)) := by
  rw [List.take_succ_eq_append_getElem h, ← text_add]
  congr 1
  show _ = (⟨([UInt8.ofNat (L[k]).toNat]).toArray⟩ : ByteArray)
  rw [hc]

set_option maxRecDepth 100000 in
set_option maxHeartbeats 1600000 in
theorem MajorityBits_c (s : ByteArray) (n : Int) (w : World) : Calls Try.prog 29 #[.string s, .int .i64 n] w (RetTB w (majR s n)) := by
  by_cases h1 : bitsB s = true
  · by_cases h2 : oddB n = true
    · obtain ⟨N, rfl, hN1, hN9, _⟩ := oddB_is h2
      have h6 := bits_le h1
      have e0 : (s.size : Int).tmod (N : Int) = ((s.size % N : Nat) : Int) := rfl
      have hne : ((N : Int) == 0) = false := by rw [beq_eq_false_iff_ne]; omega
      by_cases h3 : s.size % N = 0
      · have hr := Lib.hid (majR_yes h1 h2 h3)
        obtain ⟨M, hM⟩ : ∃ M, M = s.size / N := ⟨_, rfl⟩
        have hMN : M * N = s.size := by rw [hM]; exact Nat.div_mul_cancel (Nat.dvd_of_mod_eq_zero h3)
        have hM6 : M ≤ 600 := by rw [hM]; exact Nat.le_trans (Nat.div_le_self _ _) h6
        have e1 : (s.size : Int).tdiv (N : Int) = (M : Int) := by rw [hM]; rfl
        have e2 : (s.size : Int) / (N : Int) = (M : Int) := by rw [hM]; rfl
        have e3 : (s.size : Int).tmod (N : Int) = 0 := by rw [e0, h3]; rfl
        have e4 : (s.size : Int) % (N : Int) = 0 := by rw [show (s.size : Int) % (N : Int) = ((s.size % N : Nat) : Int) from rfl, h3]; rfl
        have HLL := Lib.hid (show (majL s N).length = M by rw [majL_len, hM])
        have HMN := Lib.hid hMN
        clear hM h3 e0
        go_enter Try.func29, Try.ntmps29
        go_wp2_with fail
        refine (isBits_c _ _).mono ?_; rintro e w' ⟨rfl, rfl⟩
        rw [h1]
        go_wp2_with fail
        refine (repetitionsValid_c _ _).mono ?_; rintro e w' ⟨rfl, rfl⟩
        rw [h2]
        clear h1 h2
        go_wp2_with (at_make; refine wp_makeF 22 5 1 (0 : Int) Try.underlying22 info_u8 rfl (by decide) w rfl _ _ rfl .i64 .i64 M rfl rfl (by omega) ?_; intro w1 hown hb)
        have hrow := RowF.of (show OwnVB w1 w.heap.size (.slice (some ⟨w.heap.size, 0, none⟩) M M) (List.replicate M (0 : Int)) by simp only [OwnVB, OwnVF, List.length_replicate]; exact hown)
        clear hown e1 e2 e3 e4
        go_loopw [31] (fun i wr => ∃ k : Nat, k ≤ M ∧ i = .int .i64 k ∧ RowB wr w.heap.size w.heap.size ((majL s N).take k ++ (List.replicate M (0 : Int)).drop k) ∧ Below w.heap.size w wr) (fun i _ => M - (intOf i).toNat)
        case atStart => exact ⟨0, Nat.zero_le _, rfl, by simpa using hrow, hb⟩
        case round =>
          clear hrow hb
          obtain ⟨k, hk, rfl, hrow, hb⟩ := hrel
          by_cases hlt : k < M
          · obtain ⟨P, hP⟩ : ∃ P, P = k * N := ⟨_, rfl⟩
            obtain ⟨Q, hQ⟩ : ∃ Q, Q = P + N := ⟨_, rfl⟩
            have hQM : Q ≤ s.size := by
              rw [hQ, hP, ← HMN.out, ← Nat.succ_mul]; exact Nat.mul_le_mul_right N hlt
            have hPQ : P ≤ Q := by omega
            have hPI : (k : Int) * (N : Int) = (P : Int) := by rw [hP, Int.natCast_mul]
            have hQI : ((k : Int) + 1) * (N : Int) = (Q : Int) := by rw [hQ, hP, Int.add_mul, Int.one_mul, Int.natCast_add, Int.natCast_mul]
            have hQ6 : Q ≤ 100000 := by omega
            have hP6 : P ≤ 100000 := by omega
            have w1 := wr_nat hPI hP6
            have w2 := wr_nat hQI hQ6
            have w3 := wr64_nat hPI hP6
            have w4 := wr64_nat hQI hQ6
            obtain ⟨c, hc⟩ : ∃ c, c = cntO s (k * N) N := ⟨_, rfl⟩
            have hcN : c ≤ N := by rw [hc]; exact cntO_le _ _ _
            have HC := Lib.hid (show Lib.countByte (s.extract P Q).data.toList 49 = (c : Int) by
              rw [hc, hQ, hP, ← cntO_ex]; unfold Lib.countByte; rfl)
            have hkL : k < (majL s N).length := by rw [HLL.out]; exact hlt
            have HG := Lib.hid (show (majL s N)[k] = if N < 2 * c then 49 else 48 by rw [majL_get hkL, hc]; unfold majB; simp)
            have hRL : (List.replicate M (0 : Int)).length = (majL s N).length := by rw [List.length_replicate, HLL.out]
            have HST := Lib.hid (set_take hkL hRL)
            have hML : ((majL s N).take k ++ (List.replicate M (0 : Int)).drop k).length = M := by rw [List.length_append, List.length_take, List.length_drop, HLL.out, List.length_replicate]; omega
            generalize ((majL s N).take k ++ (List.replicate M (0 : Int)).drop k) = R at *
            have hkR : k < R.length := by omega
            have hc1 := hrow.cell hkR
            have hf1 := hrow.free hkR
            have hrow2 := hrow.set (i := k) 48
            have hb2 := hrow.belowSet hb k (.int .u8 48)
            have hkR2 : k < (R.set k 48).length := by rw [List.length_set]; exact hkR
            clear hP hQ hPI hQI hc hRL
            by_cases hm : (N : Int) < 2 * (c : Int)
            · have hc2 := hrow2.cell hkR2
              have hf2 := hrow2.free hkR2
              have hrow3 := hrow2.set (i := k) 49
              have hb3 := hrow2.belowSet hb2 k (.int .u8 49)
              rw [List.set_set, show R.set k 49 = R.set k (majL s N)[k] by rw [HG.out, if_pos (by omega)], HST.out] at hrow3
              go_wp2_with fail
              refine (Try.strings_Count_one (s.extract P Q) 49 _).mono ?_; rintro e w' ⟨rfl, rfl⟩
              rw [HC.out]
              clear w1 w2 w3 w4
              go_wp2_with fail
              go_roundw
              case rel => exact ⟨k + 1, by omega, by go_num, hrow3, hb3⟩
              case measure => simp [intOf]; omega
            · rw [show R.set k 48 = R.set k (majL s N)[k] by rw [HG.out, if_neg (by omega)], HST.out] at hrow2
              go_wp2_with fail
              refine (Try.strings_Count_one (s.extract P Q) 49 _).mono ?_; rintro e w' ⟨rfl, rfl⟩
              rw [HC.out]
              clear w1 w2 w3 w4
              go_wp2_with fail
              go_roundw
              case rel => exact ⟨k + 1, by omega, by go_num, hrow2, hb2⟩
              case measure => simp [intOf]; omega
          · obtain rfl : k = M := by omega
            rw [List.take_of_length_le (by rw [HLL.out]; exact Nat.le_refl _), List.drop_of_length_le (by rw [List.length_replicate]; exact Nat.le_refl _), List.append_nil] at hrow
            have hrd := hrow.rd (n := k) HLL.out.symm (by omega)
            go_wp2_with (with_reducible refine wp_text 22 5 9 Try.underlying22 Try.underlying5 Try.underlying9 _ rfl (.tmp 55) rfl rfl hrd ?_)
            go_ret2
            exact retTB_some hr.out hb
      · have hr := Lib.hid (majR_no3 h3)
        obtain ⟨m, hm⟩ : ∃ m, m = s.size % N := ⟨_, rfl⟩
        have e3 : (s.size : Int).tmod (N : Int) = (m : Int) := by rw [e0, hm]
        have e4 : (s.size : Int) % (N : Int) = (m : Int) := by rw [hm]; rfl
        have hm0 : ((m : Int) == 0) = false := by rw [beq_eq_false_iff_ne]; omega
        clear e0 h3 hm
        go_enter Try.func29, Try.ntmps29
        go_wp2_with fail
        refine (isBits_c _ _).mono ?_; rintro e w' ⟨rfl, rfl⟩
        rw [h1]
        go_wp2_with fail
        refine (repetitionsValid_c _ _).mono ?_; rintro e w' ⟨rfl, rfl⟩
        rw [h2]
        go_wp2_with fail
        go_ret2
        exact retTB_none hr.out (Below.refl _ _)
    · have h2' : oddB n = false := by simpa using h2
      have hr := Lib.hid (majR_no2 (s := s) h2')
      clear h2
      go_enter Try.func29, Try.ntmps29
      go_wp2_with fail
      refine (isBits_c _ _).mono ?_; rintro e w' ⟨rfl, rfl⟩
      rw [h1]
      go_wp2_with fail
      refine (repetitionsValid_c _ _).mono ?_; rintro e w' ⟨rfl, rfl⟩
      rw [h2']
      go_wp2_with fail
      go_ret2
      exact retTB_none hr.out (Below.refl _ _)
  · have h1' : bitsB s = false := by simpa using h1
    have hr := Lib.hid (majR_no1 (n := n) h1')
    clear h1
    go_enter Try.func29, Try.ntmps29
    go_wp2_with fail
    refine (isBits_c _ _).mono ?_; rintro e w' ⟨rfl, rfl⟩
    rw [h1']
    go_wp2_with fail
    go_ret2
    exact retTB_none hr.out (Below.refl _ _)

end Go.Proofs.Ytaoahgngpjoekaa
