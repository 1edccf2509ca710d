/- DeinterleaveBits of the reference. No condition beyond lengths. -/
import Derived.Test.YtmoamgmhdeckmaaKt
namespace Go.Proofs.Ytmoamgmhdeckmaa
open Go.RowKit

set_option maxRecDepth 100000 in
set_option maxHeartbeats 1600000 in
theorem sDeinterleaveBits_c (s : ByteArray) (n : Int) (w : World) (hs : s.size ≤ 1099511627776) : Calls Try.prog 30 #[.string s, .int .i64 n] w (RetTB w (deiR s n)) := by
  by_cases h0 : rowsB s n = true
  · have h00 := h0
    unfold rowsB at h00
    rw [Bool.and_eq_true, Bool.and_eq_true, beq_iff_eq] at h00
    obtain ⟨⟨h1, h2⟩, h3⟩ := h00
    obtain ⟨R, rfl, hR1, hR4⟩ := inB_40 h2
    have h3 : s.size % R = 0 := h3
    have h6 := bits_le h1
    have hne : ((R : Int) == 0) = false := by rw [beq_eq_false_iff_ne]; omega
    have hr := Lib.hid (deiR_yes h1 h2 h3)
    obtain ⟨C, hC⟩ : ∃ C, C = s.size / R := ⟨_, rfl⟩
    have hCR : C * R = s.size := by rw [hC]; exact Nat.div_mul_cancel (Nat.dvd_of_mod_eq_zero h3)
    have hC6 : C ≤ 600 := by rw [hC]; exact Nat.le_trans (Nat.div_le_self _ _) h6
    have hC1 : C ≤ 100000 := by omega
    have e1 : (s.size : Int).tdiv (R : Int) = (C : Int) := by rw [hC]; rfl
    have e2 : (s.size : Int) / (R : Int) = (C : Int) := by rw [hC]; rfl
    have HCR := Lib.hid hCR
    have HDT := Lib.hid (show text (deiF s R C s.size) = deiT s R by rw [hC]; rfl)
    clear hC h1 h2 h3 hCR
    go_enter Try.func30, Try.ntmps30
    go_wp2_with (at_make; refine wp_makeF 29 5 1 (0 : Int) Try.underlying29 info_u8 rfl (by decide) w rfl _ _ rfl .i64 .i64 s.size rfl rfl (by omega) ?_; intro w1 hown hb)
    have hrow := RowF.of (show OwnVB w1 w.heap.size (.slice (some ⟨w.heap.size, 0, none⟩) s.size s.size) (List.replicate s.size (0 : Int)) by simp only [OwnVB, OwnVF, List.length_replicate]; exact hown)
    clear hown
    go_wp2_with fail
    refine (l6Rows_c s (R : Int) _ hs).mono ?_; rintro e w' ⟨rfl, rfl⟩
    rw [h0]
    clear h0
    go_wp2_with fail
    go_loopw [7] (fun i wr => ∃ k : Nat, k ≤ s.size ∧ i = .int .i64 k ∧ RowB wr w.heap.size w.heap.size (deiF s R C k) ∧ Below w.heap.size w wr) (fun i _ => s.size - (intOf i).toNat)
    case atStart => exact ⟨0, Nat.zero_le _, rfl, hrow, hb⟩
    case round =>
      clear hrow hb
      obtain ⟨k, hk, rfl, hrow, hb⟩ := hrel
      have hdl := deiF_len s R C k
      by_cases hlt : k < s.size
      · obtain ⟨m, hm⟩ : ∃ m, m = k % R := ⟨_, rfl⟩
        obtain ⟨q, hq⟩ : ∃ q, q = k / R := ⟨_, rfl⟩
        obtain ⟨P, hP⟩ : ∃ P, P = m * C := ⟨_, rfl⟩
        obtain ⟨I, hI⟩ : ∃ I, I = P + q := ⟨_, rfl⟩
        have hII : deiI R C k = I := by rw [hI, hP, hm, hq]; rfl
        have hIs : I < s.size := by rw [← hII, ← HCR.out]; exact deiI_lt (by omega) (by rw [HCR.out]; exact hlt)
        have a1 : (k : Int).tmod (R : Int) = (m : Int) := by rw [hm]; rfl
        have a2 : (k : Int) % (R : Int) = (m : Int) := by rw [hm]; rfl
        have a3 : (k : Int).tdiv (R : Int) = (q : Int) := by rw [hq]; rfl
        have a4 : (k : Int) / (R : Int) = (q : Int) := by rw [hq]; rfl
        have hPI : (m : Int) * (C : Int) = (P : Int) := by rw [hP, Int.natCast_mul]
        have hIQ : (P : Int) + (q : Int) = (I : Int) := by rw [hI]; rfl
        have hP6 : P ≤ 100000 := by omega
        have hI6 : I ≤ 100000 := by omega
        have hIs2 : (I : Int) < (s.size : Int) := by omega
        have hk2 : (k : Int) < (s.size : Int) := by omega
        have b1 := wr_nat hPI hP6
        have b2 := wr_nat hIQ hI6
        have hq6 : q ≤ 100000 := by omega
        have b5 : IntKind.i64.wrap (q : Int) = (q : Int) := wr_nat rfl hq6
        have b6 : IntKind.i64.wrap (C : Int) = (C : Int) := wr_nat rfl hC1
        have HS := Lib.hid (show (deiF s R C k).set I (s[k].toNat : Int) = deiF s R C (k + 1) by rw [deiF, hII, codes_v hlt])
        have hIl : I < (deiF s R C k).length := by rw [hdl]; exact hIs
        have hc1 := hrow.cell hIl
        have hf1 := hrow.free hIl
        have hrow2 := hrow.set (i := I) (s[k].toNat : Int)
        have hb2 := hrow.belowSet hb I (.int .u8 (s[k].toNat : Int))
        rw [HS.out] at hrow2
        have hR0 : ¬ (R : Int) = 0 := by omega
        have hR00 : ¬ R = 0 := by omega
        clear hm hq hP hI hII hPI hIQ hrow hb
        go_wp2_with fail
        go_still_tail 17, (by kernel_rfl)
        go_wp2_with fail
        clear a1 a2 a3 a4 b1 b2 b5 b6
        go_roundw
        case rel => exact ⟨k + 1, by omega, by go_num, hrow2, hb2.drew⟩
        case measure => simp [intOf]; omega
      · obtain rfl : k = s.size := by omega
        have hrd := hrow.rd (n := s.size) hdl.symm (by omega)
        go_wp2_with (with_reducible refine wp_text 29 5 9 Try.underlying29 Try.underlying5 Try.underlying9 _ rfl (.tmp 38) rfl rfl hrd ?_)
        go_ret2
        exact retTB_some (by rw [hr.out]; exact congrArg some HDT.out.symm) hb
  · have h0' : rowsB s n = false := by simpa using h0
    have hr := Lib.hid (show deiR s n = none from if_neg h0)
    clear h0
    go_enter Try.func30, Try.ntmps30
    go_wp2_with (at_make; refine wp_makeF 29 5 1 (0 : Int) Try.underlying29 info_u8 rfl (by decide) w rfl _ _ rfl .i64 .i64 s.size rfl rfl (by omega) ?_; intro w1 hown hb)
    go_wp2_with fail
    refine (l6Rows_c s n _ hs).mono ?_; rintro e w' ⟨rfl, rfl⟩
    rw [h0']
    go_wp2_with fail
    go_ret2
    exact retTB_none hr.out hb

end Go.Proofs.Ytmoamgmhdeckmaa
