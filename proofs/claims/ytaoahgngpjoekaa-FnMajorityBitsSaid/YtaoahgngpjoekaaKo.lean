/- RepeatBits of the program and of the reference. No condition beyond lengths. -/
import Derived.Test.YtaoahgngpjoekaaKm
namespace Go.Proofs.Ytaoahgngpjoekaa
open Go.RowKit

def bitsR (t : ByteArray) : Option ByteArray := if bitsB t = true then some t else none
set_option maxHeartbeats 400000 in
theorem bitsOrNone_c (t : ByteArray) (w : World) : Calls Try.prog 89 #[.string t] w (RetTB w (bitsR t)) := by
  by_cases h : bitsB t = true
  · have hr := Lib.hid (show bitsR t = some t from if_pos h)
    go_enter Try.func89, Try.ntmps89
    go_wp2_with fail
    refine (isBits_c _ _).mono ?_; rintro e w' ⟨rfl, rfl⟩
    rw [h]
    go_wp2_with fail
    go_ret2
    exact retTB_some hr.out (Below.refl _ _)
  · have h' : bitsB t = false := by simpa using h
    have hr := Lib.hid (show bitsR t = none from if_neg h)
    clear h
    go_enter Try.func89, Try.ntmps89
    go_wp2_with fail
    refine (isBits_c _ _).mono ?_; rintro e w' ⟨rfl, rfl⟩
    rw [h']
    go_wp2_with fail
    go_ret2
    exact retTB_none hr.out (Below.refl _ _)
theorem bits_rep {s : ByteArray} {N : Nat} (h1 : bitsB s = true) (h2 : oddB N = true) : bitsR (repT s N) = repR s N := by
  by_cases h3 : s.size * N ≤ 600
  · rw [repR_yes h1 h2 h3]
    have hz : (repT s N).size ≤ 600 := by rw [repT_size]; exact h3
    have ha : allS bitC (repT s N) = true := allS_bitL (repL_bit N (bits_all h1))
    exact if_pos (bits_mk hz ha)
  · rw [repR_no3 h3]
    refine if_neg fun h => h3 ?_
    have := bits_le h
    rwa [repT_size] at this

set_option maxRecDepth 100000 in
set_option maxHeartbeats 1600000 in
theorem RepeatBits_c (s : ByteArray) (n : Int) (w : World) : Calls Try.prog 31 #[.string s, .int .i64 n] w (RetTB w (repR s n)) := by
  by_cases h1 : bitsB s = true
  · by_cases h2 : oddB n = true
    · obtain ⟨N, rfl, hN1, hN9, _⟩ := oddB_is h2
      have h6 := bits_le h1
      have hne : ((N : Int) == 0) = false := by rw [beq_eq_false_iff_ne]; omega
      have HBR := Lib.hid (bits_rep h1 h2)
      obtain ⟨M, hM⟩ : ∃ M, M = s.size * N := ⟨_, rfl⟩
      have hM6 : M ≤ 5400 := by rw [hM]; exact Nat.le_trans (Nat.mul_le_mul h6 hN9) (by decide)
      have hMI : (s.size : Int) * (N : Int) = (M : Int) := by rw [hM, Int.natCast_mul]
      have hw1 := wr_nat hMI (by omega)
      have hw2 := wr64_nat hMI (by omega)
      have HLL := Lib.hid (show (repL s N).length = M by rw [repL_len, hM])
      have HM := Lib.hid hM
      clear hM hMI
      go_enter Try.func31, Try.ntmps31
      go_wp2_with fail
      refine (isBits_c _ _).mono ?_; rintro e w' ⟨rfl, rfl⟩
      rw [h1]
      go_wp2_with fail
      refine (repetitionsValid_c _ _).mono ?_; rintro e w' ⟨rfl, rfl⟩
      rw [h2]
      clear h1 h2
      go_wp2_with (at_make; refine wp_makeF 22 5 1 (0 : Int) Try.underlying22 info_u8 rfl (by decide) w rfl _ _ rfl .i64 .i64 M rfl rfl (by omega) ?_; intro w1 hown hb)
      have hF := FillF.start hown HLL.out (by simp)
      clear hown hw1 hw2
      go_loopw [23] (fun i wr => ∃ k : Nat, k ≤ M ∧ i = .int .i64 k ∧ FillB wr w.heap.size w.heap.size M (repL s N) (List.replicate M 0) k ∧ Below w.heap.size w wr) (fun i _ => M - (intOf i).toNat)
      case atStart => exact ⟨0, Nat.zero_le _, rfl, hF, hb⟩
      case round =>
        clear hF hb
        obtain ⟨k, hk, rfl, hF, hb⟩ := hrel
        by_cases hlt : k < M
        · obtain ⟨g, hg⟩ : ∃ g, g = k / N := ⟨_, rfl⟩
          have hgs : g < s.size := by rw [hg]; exact Nat.div_lt_of_lt_mul (by rw [Nat.mul_comm, ← HM.out]; exact hlt)
          obtain ⟨z, hc⟩ := hF.cell hlt
          have hf := hF.free k
          have hst := hF.step hlt (y := .int .u8 (s[g].toNat : Int)) (fun hl => by
            rw [repL_get hl, ← hg, List.getD_eq_getElem?_getD, List.getElem?_eq_getElem (by rw [codes_length]; exact hgs), Option.getD_some, codes_get s hgs])
          have hb2 := hF.below hb (.int .u8 (s[g].toNat : Int))
          have e1 : (k : Int).tdiv (N : Int) = (g : Int) := by rw [hg]; rfl
          have e2 : (k : Int) / (N : Int) = (g : Int) := by rw [hg]; rfl
          clear hg hF hb
          go_wp2_with fail
          go_roundw
          case rel => exact ⟨k + 1, by omega, by go_num, hst, hb2⟩
          case measure => simp [intOf]; omega
        · obtain rfl : k = M := by omega
          have hd0 := hF.done (Nat.le_refl _)
          obtain ⟨a1, n1, c1, e1, ho⟩ := hd0.own (by rw [HLL.out]; omega)
          cases e1
          have hrd := ho.rd
          go_wp2_with (with_reducible refine wp_text 22 5 9 Try.underlying22 Try.underlying5 Try.underlying9 _ rfl (.tmp 35) rfl rfl hrd ?_)
          have HRT := Lib.hid (show text (repL s N) = repT s N from rfl)
          rw [HRT.out]
          refine (bitsOrNone_c (repT s N) _).mono ?_; rintro e w5 ⟨rfl, hb5⟩
          rw [HBR.out]
          have hb6 := hb.trans (hb5.mono hb.size)
          generalize repR s (N : Int) = r at *
          go_wp2_with fail
          go_ret2
          exact ⟨rfl, hb6⟩
    · have h2' : oddB n = false := by simpa using h2
      have hr := Lib.hid (repR_no2 (s := s) h2')
      clear h2
      go_enter Try.func31, Try.ntmps31
      go_wp2_with fail
      refine (isBits_c _ _).mono ?_; rintro e w' ⟨rfl, rfl⟩
      rw [h1]
      go_wp2_with fail
      refine (repetitionsValid_c _ _).mono ?_; rintro e w' ⟨rfl, rfl⟩
      rw [h2']
      go_wp2_with fail
      go_ret2
      exact retTB_none hr.out (Below.refl _ _)
  · have h1' : bitsB s = false := by simpa using h1
    have hr := Lib.hid (repR_no1 (n := n) h1')
    clear h1
    go_enter Try.func31, Try.ntmps31
    go_wp2_with fail
    refine (isBits_c _ _).mono ?_; rintro e w' ⟨rfl, rfl⟩
    rw [h1']
    go_wp2_with fail
    go_ret2
    exact retTB_none hr.out (Below.refl _ _)

set_option maxRecDepth 100000 in
set_option maxHeartbeats 1600000 in
theorem sRepeatBits_c (s : ByteArray) (n : Int) (w : World) (hs : s.size ≤ 1099511627776) : Calls Try.prog 82 #[.string s, .int .i64 n] w (RetTB w (repR s n)) := by
  by_cases h1 : bitsB s = true
  · by_cases h2 : oddB n = true
    · obtain ⟨N, rfl, hN1, hN9, _⟩ := oddB_is h2
      have h6 := bits_le h1
      obtain ⟨M, hM⟩ : ∃ M, M = s.size * N := ⟨_, rfl⟩
      have hM6 : M ≤ 5400 := by rw [hM]; exact Nat.le_trans (Nat.mul_le_mul h6 hN9) (by decide)
      have hMI : (s.size : Int) * (N : Int) = (M : Int) := by rw [hM, Int.natCast_mul]
      have hw1 := wr_nat hMI (by omega)
      have hw2 := wr64_nat hMI (by omega)
      by_cases h3 : M ≤ 600
      · have hr := Lib.hid (repR_yes h1 h2 (by rw [← hM]; exact h3))
        have HLL := Lib.hid (show (repL s N).length = M by rw [repL_len, hM])
        have HM := Lib.hid hM
        have h3' : ¬ (600 : Int) < (M : Int) := by omega
        clear hM hMI
        go_enter Try.func82, Try.ntmps82
        go_wp2_with fail
        refine (l1Bits_c _ _ hs).mono ?_; rintro e w' ⟨rfl, rfl⟩
        rw [h1]
        go_wp2_with fail
        refine (l6Odd_c _ _).mono ?_; rintro e w' ⟨rfl, rfl⟩
        rw [h2]
        clear h1 h2
        go_wp2_with fail
        clear hw1 hw2
        go_loop [6, 7] (fun o i => ∃ k : Nat, k ≤ s.size ∧ i = .int .i64 k ∧ o = .string (text ((repL s N).take (k * N)))) (fun _ i => s.size - (intOf i).toNat)
        case atStart => exact ⟨0, Nat.zero_le _, rfl, by rw [Nat.zero_mul]; rfl⟩
        case round =>
          obtain ⟨k, hk, rfl, rfl⟩ := hrel
          have hz : (text ((repL s N).take (k * N))).size ≤ 600 := by rw [text_size, List.length_take, HLL.out]; omega
          by_cases hlt : k < s.size
          · have HO := Lib.hid (manyT_one hlt)
            have HT := Lib.hid (show text ((repL s N).take (k * N)) ++ manyT ((codes s).getD k 0) N = text ((repL s N).take ((k + 1) * N)) by unfold manyT; rw [text_add, repL_snoc hlt])
            have hmz := manyT_size ((codes s).getD k 0) N
            generalize (codes s).getD k 0 = c at *
            go_wp2_with fail
            rw [HO.out]
            refine (l9ManyC_c c N _ (by omega)).mono ?_; rintro e w' ⟨rfl, rfl⟩
            go_wp2_with fail
            rw [HT.out]
            go_round
            case rel => exact ⟨k + 1, by omega, by go_num, rfl⟩
            case measure => simp [intOf]; omega
          · obtain rfl : k = s.size := by omega
            rw [List.take_of_length_le (by rw [HLL.out, HM.out]; exact Nat.le_refl _)]
            go_wp2_with fail
            go_ret2
            exact retTB_some hr.out (Below.refl _ _)
      · have hr := Lib.hid (repR_no3 (s := s) (N := N) (by rw [← hM]; exact h3))
        have h3' : (600 : Int) < (M : Int) := by omega
        clear hM hMI
        go_enter Try.func82, Try.ntmps82
        go_wp2_with fail
        refine (l1Bits_c _ _ hs).mono ?_; rintro e w' ⟨rfl, rfl⟩
        rw [h1]
        go_wp2_with fail
        refine (l6Odd_c _ _).mono ?_; rintro e w' ⟨rfl, rfl⟩
        rw [h2]
        go_wp2_with fail
        go_ret2
        exact retTB_none hr.out (Below.refl _ _)
    · have h2' : oddB n = false := by simpa using h2
      have hr := Lib.hid (repR_no2 (s := s) h2')
      clear h2
      go_enter Try.func82, Try.ntmps82
      go_wp2_with fail
      refine (l1Bits_c _ _ hs).mono ?_; rintro e w' ⟨rfl, rfl⟩
      rw [h1]
      go_wp2_with fail
      refine (l6Odd_c _ _).mono ?_; rintro e w' ⟨rfl, rfl⟩
      rw [h2']
      go_wp2_with fail
      go_ret2
      exact retTB_none hr.out (Below.refl _ _)
  · have h1' : bitsB s = false := by simpa using h1
    have hr := Lib.hid (repR_no1 (n := n) h1')
    clear h1
    go_enter Try.func82, Try.ntmps82
    go_wp2_with fail
    refine (l1Bits_c _ _ hs).mono ?_; rintro e w' ⟨rfl, rfl⟩
    rw [h1']
    go_wp2_with fail
    go_ret2
    exact retTB_none hr.out (Below.refl _ _)

end Go.Proofs.Ytaoahgngpjoekaa
