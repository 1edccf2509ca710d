/- DeinterleaveBits of the program and of the reference. No condition beyond lengths. -/
import Derived.Test.YtadcckjlcmnhbaaKm
namespace Go.Proofs.Ytadcckjlcmnhbaa
open Go.RowKit

/-- Where bit k goes, with R rows of C bits. -/
def deiI (R C k : Nat) : Nat := k % R * C + k / R
/-- The row after k bits were put in their places. -/
def deiF (s : ByteArray) (R C : Nat) : Nat → List Int
  | 0 => List.replicate s.size 0
  | k + 1 => (deiF s R C k).set (deiI R C k) ((codes s).getD k 0)
theorem deiF_len (s : ByteArray) (R C : Nat) : ∀ k, (deiF s R C k).length = s.size
  | 0 => by rw [deiF, List.length_replicate]
  | k + 1 => by rw [deiF, List.length_set]; exact deiF_len s R C k
theorem deiI_lt {R C k : Nat} (hR : 0 < R) (h : k < C * R) : deiI R C k < C * R := by
  unfold deiI
  have h1 : k / R < C := Nat.div_lt_of_lt_mul (by rw [Nat.mul_comm]; exact h)
  have h2 : k % R + 1 ≤ R := Nat.mod_lt _ hR
  have h3 := Nat.mul_le_mul_right C h2
  rw [Nat.add_mul, Nat.one_mul, Nat.mul_comm R C] at h3
  omega
def deiT (s : ByteArray) (R : Nat) : ByteArray := text (deiF s R (s.size / R) s.size)
def deiR (s : ByteArray) (n : Int) : Option ByteArray := if (bitsB s && inB n 1 40 && (s.size % n.toNat == 0)) = true then some (deiT s n.toNat) else none
theorem deiR_no1 {s : ByteArray} {n : Int} (h : bitsB s = false) : deiR s n = none := by unfold deiR; rw [h]; rfl
theorem deiR_no2 {s : ByteArray} {n : Int} (h : inB n 1 40 = false) : deiR s n = none := by unfold deiR; rw [h, Bool.and_false]; rfl
theorem deiR_no3 {s : ByteArray} {N : Nat} (h : ¬ s.size % N = 0) : deiR s N = none := by
  unfold deiR; rw [show (s.size % (N : Int).toNat == 0) = false by rw [beq_eq_false_iff_ne]; exact h, Bool.and_false]; rfl
theorem deiR_yes {s : ByteArray} {N : Nat} (h1 : bitsB s = true) (h2 : inB N 1 40 = true) (h3 : s.size % N = 0) : deiR s N = some (deiT s N) := by
  unfold deiR; rw [h1, h2, show (s.size % (N : Int).toNat == 0) = true by rw [beq_iff_eq]; exact h3]; rfl
theorem inB_40 {m : Int} (h : inB m 1 40 = true) : ∃ M : Nat, m = (M : Int) ∧ 1 ≤ M ∧ M ≤ 40 := by
  unfold inB at h; simp only [Bool.and_eq_true, decide_eq_true_eq] at h
  exact ⟨m.toNat, by omega, by omega, by omega⟩
theorem codes_v {s : ByteArray} {i : Nat} (h : i < s.size) : (codes s).getD i 0 = (s[i].toNat : Int) := by
  rw [List.getD_eq_getElem?_getD, List.getElem?_eq_getElem (by rw [codes_length]; exact h), Option.getD_some, codes_get s h]

set_option maxHeartbeats 400000 in
theorem rowsValid_c (n : Int) (w : World) : Calls Try.prog 47 #[.int .i64 n] w fun e w' => e = .returned (.bool (inB n 1 40)) ∧ w = w' := by
  by_cases h1 : 1 ≤ n <;> by_cases h2 : n ≤ 40 <;> (
  go_enter Try.func47, Try.ntmps47
  go_wp2
  go_ret
  refine ⟨ret_b ?_, rfl⟩
  simp [inB, h1, h2])

def rowsB (s : ByteArray) (n : Int) : Bool := bitsB s && inB n 1 40 && (s.size % n.toNat == 0)

set_option maxRecDepth 100000 in
set_option maxHeartbeats 1600000 in
theorem DeinterleaveBits_c (s : ByteArray) (n : Int) (w : World) : Calls Try.prog 61 #[.string s, .int .i64 n] w (RetTB w (deiR s n)) := by
  by_cases h1 : bitsB s = true
  · by_cases h2 : inB n 1 40 = true
    · obtain ⟨R, rfl, hR1, hR4⟩ := inB_40 h2
      have h6 := bits_le h1
      have e0 : (s.size : Int).tmod (R : Int) = ((s.size % R : Nat) : Int) := rfl
      have hne : ((R : Int) == 0) = false := by rw [beq_eq_false_iff_ne]; omega
      by_cases h3 : s.size % R = 0
      · have hr := Lib.hid (deiR_yes h1 h2 h3)
        obtain ⟨C, hC⟩ : ∃ C, C = s.size / R := ⟨_, rfl⟩
        have hCR : C * R = s.size := by rw [hC]; exact Nat.div_mul_cancel (Nat.dvd_of_mod_eq_zero h3)
        have hC6 : C ≤ 600 := by rw [hC]; exact Nat.le_trans (Nat.div_le_self _ _) h6
        have e1 : (s.size : Int).tdiv (R : Int) = (C : Int) := by rw [hC]; rfl
        have e2 : (s.size : Int) / (R : Int) = (C : Int) := by rw [hC]; rfl
        have e3 : (s.size : Int).tmod (R : Int) = 0 := by rw [e0, h3]; rfl
        have e4 : (s.size : Int) % (R : Int) = 0 := by rw [show (s.size : Int) % (R : Int) = ((s.size % R : Nat) : Int) from rfl, h3]; rfl
        have HCR := Lib.hid hCR
        have HDT := Lib.hid (show text (deiF s R C s.size) = deiT s R by rw [hC]; rfl)
        clear hC h3 e0 hCR
        go_enter Try.func61, Try.ntmps61
        go_wp2_with fail
        refine (isBits_c _ _).mono ?_; rintro e w' ⟨rfl, rfl⟩
        rw [h1]
        go_wp2_with fail
        refine (rowsValid_c _ _).mono ?_; rintro e w' ⟨rfl, rfl⟩
        rw [h2]
        clear h1 h2
        go_wp2_with (at_make; refine wp_makeF 22 5 1 (0 : Int) Try.underlying22 info_u8 rfl (by decide) w rfl _ _ rfl .i64 .i64 s.size rfl rfl (by omega) ?_; intro w1 hown hb)
        have hrow := RowF.of (show OwnVB w1 w.heap.size (.slice (some ⟨w.heap.size, 0, none⟩) s.size s.size) (List.replicate s.size (0 : Int)) by simp only [OwnVB, OwnVF, List.length_replicate]; exact hown)
        clear hown e1 e2 e3 e4
        go_loopw [33] (fun i wr => ∃ k : Nat, k ≤ s.size ∧ i = .int .i64 k ∧ RowB wr w.heap.size w.heap.size (deiF s R C k) ∧ Below w.heap.size w wr) (fun i _ => s.size - (intOf i).toNat)
        case atStart => exact ⟨0, Nat.zero_le _, rfl, hrow, hb⟩
        case round =>
          clear hrow hb
          obtain ⟨k, hk, rfl, hrow, hb⟩ := hrel
          have hdl := deiF_len s R C k
          by_cases hlt : k < s.size
          · obtain ⟨m, hm⟩ : ∃ m, m = k % R := ⟨_, rfl⟩
            obtain ⟨q, hq⟩ : ∃ q, q = k / R := ⟨_, rfl⟩
            obtain ⟨P, hP⟩ : ∃ P, P = m * C := ⟨_, rfl⟩
            obtain ⟨I, hI⟩ : ∃ I, I = P + q := ⟨_, rfl⟩
            have hII : deiI R C k = I := by rw [hI, hP, hm, hq]; rfl
            have hIs : I < s.size := by rw [← hII, ← HCR.out]; exact deiI_lt (by omega) (by rw [HCR.out]; exact hlt)
            have a1 : (k : Int).tmod (R : Int) = (m : Int) := by rw [hm]; rfl
            have a2 : (k : Int) % (R : Int) = (m : Int) := by rw [hm]; rfl
            have a3 : (k : Int).tdiv (R : Int) = (q : Int) := by rw [hq]; rfl
            have a4 : (k : Int) / (R : Int) = (q : Int) := by rw [hq]; rfl
            have hPI : (m : Int) * (C : Int) = (P : Int) := by rw [hP, Int.natCast_mul]
            have hIQ : (P : Int) + (q : Int) = (I : Int) := by rw [hI]; rfl
            have hP6 : P ≤ 100000 := by omega
            have hI6 : I ≤ 100000 := by omega
            have hIs2 : (I : Int) < (s.size : Int) := by omega
            have hk2 : (k : Int) < (s.size : Int) := by omega
            have b1 := wr_nat hPI hP6
            have b2 := wr_nat hIQ hI6
            have hq6 : q ≤ 100000 := by omega
            have b5 : IntKind.i64.wrap (q : Int) = (q : Int) := wr_nat rfl hq6
            have HS := Lib.hid (show (deiF s R C k).set I (s[k].toNat : Int) = deiF s R C (k + 1) by rw [deiF, hII, codes_v hlt])
            have hIl : I < (deiF s R C k).length := by rw [hdl]; exact hIs
            have hc1 := hrow.cell hIl
            have hf1 := hrow.free hIl
            have hrow2 := hrow.set (i := I) (s[k].toNat : Int)
            have hb2 := hrow.belowSet hb I (.int .u8 (s[k].toNat : Int))
            rw [HS.out] at hrow2
            have hR0 : ¬ (R : Int) = 0 := by omega
            have hR00 : ¬ R = 0 := by omega
            clear hm hq hP hI hII hPI hIQ hrow hb
            go_wp2_with fail
            go_still_tail 14, (by kernel_rfl)
            go_wp2_with fail
            clear a1 a2 a3 a4 b1 b2 b5
            go_roundw
            case rel => exact ⟨k + 1, by omega, by go_num, hrow2, hb2.drew⟩
            case measure => simp [intOf]; omega
          · obtain rfl : k = s.size := by omega
            have hrd := hrow.rd (n := s.size) hdl.symm (by omega)
            go_wp2_with (with_reducible refine wp_text 22 5 9 Try.underlying22 Try.underlying5 Try.underlying9 _ rfl (.tmp 51) rfl rfl hrd ?_)
            go_ret2
            exact retTB_some (by rw [hr.out]; exact congrArg some HDT.out.symm) hb
      · have hr := Lib.hid (deiR_no3 h3)
        obtain ⟨m, hm⟩ : ∃ m, m = s.size % R := ⟨_, rfl⟩
        have e3 : (s.size : Int).tmod (R : Int) = (m : Int) := by rw [e0, hm]
        have e4 : (s.size : Int) % (R : Int) = (m : Int) := by rw [hm]; rfl
        have hm0 : ((m : Int) == 0) = false := by rw [beq_eq_false_iff_ne]; omega
        clear e0 h3 hm
        go_enter Try.func61, Try.ntmps61
        go_wp2_with fail
        refine (isBits_c _ _).mono ?_; rintro e w' ⟨rfl, rfl⟩
        rw [h1]
        go_wp2_with fail
        refine (rowsValid_c _ _).mono ?_; rintro e w' ⟨rfl, rfl⟩
        rw [h2]
        go_wp2_with fail
        go_ret2
        exact retTB_none hr.out (Below.refl _ _)
    · have h2' : inB n 1 40 = false := by simpa using h2
      have hr := Lib.hid (deiR_no2 (s := s) h2')
      clear h2
      go_enter Try.func61, Try.ntmps61
      go_wp2_with fail
      refine (isBits_c _ _).mono ?_; rintro e w' ⟨rfl, rfl⟩
      rw [h1]
      go_wp2_with fail
      refine (rowsValid_c _ _).mono ?_; rintro e w' ⟨rfl, rfl⟩
      rw [h2']
      go_wp2_with fail
      go_ret2
      exact retTB_none hr.out (Below.refl _ _)
  · have h1' : bitsB s = false := by simpa using h1
    have hr := Lib.hid (deiR_no1 (n := n) h1')
    clear h1
    go_enter Try.func61, Try.ntmps61
    go_wp2_with fail
    refine (isBits_c _ _).mono ?_; rintro e w' ⟨rfl, rfl⟩
    rw [h1']
    go_wp2_with fail
    go_ret2
    exact retTB_none hr.out (Below.refl _ _)

end Go.Proofs.Ytadcckjlcmnhbaa
