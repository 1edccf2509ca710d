/- ReceiveUser of the program and of the reference. No condition beyond lengths. -/
import Derived.Test.YtadcckjlcmnhbaaQa
namespace Go.Proofs.Ytadcckjlcmnhbaa
open Go.RowKit

def rcvR (l : List Int) (s : ByteArray) (d m : Int) : Option ByteArray := if (recB l s d && inB m 0 600) = true then some (text (signL (despL l (codes s) d.toNat m.toNat))) else none
theorem rcvR_no {l : List Int} {s : ByteArray} {d m : Int} (h : (recB l s d && inB m 0 600) = false) : rcvR l s d m = none := by simp [rcvR, h]
theorem rcvR_yes {l : List Int} {s : ByteArray} {d m : Nat} (h : (recB l s (d : Int) && inB (m : Int) 0 600) = true) : rcvR l s d m = some (text (signL (despL l (codes s) d m))) := by unfold rcvR; rw [if_pos h]; rfl
theorem recB_parts {l : List Int} {s : ByteArray} {d : Int} (h : recB l s d = true) : sigB l = true ∧ seqB s = true ∧ (0 ≤ d ∧ d ≤ 3000) := by
  unfold recB at h; simp only [Bool.and_eq_true] at h; exact ⟨h.1.1, h.1.2, inB_iff.1 h.2⟩
theorem seqB_size {s : ByteArray} (h : seqB s = true) : 1 ≤ s.size ∧ s.size ≤ 255 := by
  unfold seqB at h; rw [Bool.and_eq_true] at h; have := inB_iff.1 h.2; omega
theorem bits_isBit {s : ByteArray} (h : bitsB s = true) : ∀ x ∈ codes s, isBit x := by
  unfold bitsB allS at h
  rw [Bool.and_eq_true, List.all_eq_true] at h
  intro x hx
  unfold codes at hx
  obtain ⟨c, hc, rfl⟩ := List.mem_map.1 hx
  have := h.2 c hc
  unfold bitC at this
  simp only [Bool.or_eq_true, beq_iff_eq] at this
  exact this
theorem seqB_bit {s : ByteArray} (h : seqB s = true) : ∀ x ∈ codes s, isBit x := by
  unfold seqB at h; rw [Bool.and_eq_true] at h; exact bits_isBit h.1

set_option maxHeartbeats 1600000 in
theorem ReceiveUser_c {ao : Option Addr} {n c : Nat} {l : List Int} {w : World} (s : ByteArray) (d m : Int) (h : Rd w ao n l) :
    Calls Try.prog 34 #[.slice ao n c, .string s, .int .i64 d, .int .i64 m] w (RetTB w (rcvR l s d m)) := by
  by_cases h1 : recB l s d = true
  · obtain ⟨hsg, hsq, hd0, hd1⟩ := recB_parts h1
    obtain ⟨hz0, hz1⟩ := seqB_size hsq
    obtain ⟨D, rfl⟩ := Int.eq_ofNat_of_zero_le hd0
    have HSG := Lib.hid hsg; clear hsg hsq
    by_cases hm0 : 0 ≤ m
    · by_cases hm1 : m ≤ 600
      · obtain ⟨M, rfl⟩ := Int.eq_ofNat_of_zero_le hm0
        have hr := Lib.hid (rcvR_yes (l := l) (s := s) (d := D) (m := M) (by rw [h1, inB_true hm0 hm1]; rfl))
        go_enter Try.func34, Try.ntmps34
        go_wp2_with fail
        refine (receptionValid_c s (D : Int) h).mono ?_; rintro e w' ⟨rfl, rfl⟩
        rw [h1]
        clear h1
        go_wp2_with fail
        refine (correlationsFrom_c s D M h HSG.out (by omega) (by omega) (by omega)).mono ?_; rintro e w2 ⟨a2, n2, c2, rfl, ho, hb⟩
        have hz := hb.size
        have HN2 := Lib.hid ho.1
        have hn2 : n2 ≤ 1000 := by have := HN2.out; rw [despL_len] at this; omega
        go_wp2_with fail
        refine (signsOfSums_c ho.rd (by omega)).mono ?_; rintro e w3 ⟨rfl, hb3⟩
        go_wp2_with fail
        go_ret2
        exact retTB_some hr.out (hb.trans (hb3.mono hz))
      · have hr := Lib.hid (rcvR_no (l := l) (s := s) (d := D) (m := m) (by rw [inB_hi (by omega), Bool.and_false]))
        go_enter Try.func34, Try.ntmps34
        go_wp2_with fail
        refine (receptionValid_c s (D : Int) h).mono ?_; rintro e w' ⟨rfl, rfl⟩
        rw [h1]
        clear h1
        go_wp2_with fail
        go_ret2
        exact retTB_none hr.out (Below.refl _ _)
    · have hr := Lib.hid (rcvR_no (l := l) (s := s) (d := D) (m := m) (by rw [inB_lo (by omega), Bool.and_false]))
      go_enter Try.func34, Try.ntmps34
      go_wp2_with fail
      refine (receptionValid_c s (D : Int) h).mono ?_; rintro e w' ⟨rfl, rfl⟩
      rw [h1]
      clear h1
      go_wp2_with fail
      go_ret2
      exact retTB_none hr.out (Below.refl _ _)
  · have h1' : recB l s d = false := by simpa using h1
    have hr := Lib.hid (rcvR_no (l := l) (s := s) (d := d) (m := m) (by rw [h1', Bool.false_and]))
    go_enter Try.func34, Try.ntmps34
    go_wp2_with fail
    refine (receptionValid_c s d h).mono ?_; rintro e w' ⟨rfl, rfl⟩
    rw [h1']
    clear h1 h1'
    go_wp2_with fail
    go_ret2
    exact retTB_none hr.out (Below.refl _ _)

set_option maxHeartbeats 1600000 in
theorem sReceiveUser_c {ao : Option Addr} {n c : Nat} {l : List Int} {w : World} (s : ByteArray) (d m : Int) (h : Rd w ao n l) (hs : s.size ≤ 1099511627776) :
    Calls Try.prog 67 #[.slice ao n c, .string s, .int .i64 d, .int .i64 m] w (RetTB w (rcvR l s d m)) := by
  by_cases h1 : (recB l s d && inB m 0 600) = true
  · have h1p := h1
    rw [Bool.and_eq_true] at h1p
    obtain ⟨hsg, hsq, hd0, hd1⟩ := recB_parts h1p.1
    obtain ⟨hm0, hm1⟩ := inB_iff.1 h1p.2
    obtain ⟨hz0, hz1⟩ := seqB_size hsq
    obtain ⟨D, rfl⟩ := Int.eq_ofNat_of_zero_le hd0
    obtain ⟨M, rfl⟩ := Int.eq_ofNat_of_zero_le hm0
    have HSG := Lib.hid hsg; have HSQ := Lib.hid (seqB_bit hsq); clear hsg hsq h1p
    have hr := Lib.hid (rcvR_yes h1)
    go_enter Try.func67, Try.ntmps67
    go_wp2_with fail
    refine (l4Listen_c s (D : Int) (M : Int) h hs).mono ?_; rintro e w' ⟨rfl, rfl⟩
    rw [h1]
    clear h1
    go_wp2_with fail
    refine (l4Despread_c s D M h HSG.out (by omega) (by omega) (by omega) HSQ.out).mono ?_; rintro e w2 ⟨a2, n2, c2, rfl, ho, hb⟩
    have hz := hb.size
    have HN2 := Lib.hid ho.1
    have hn2 : n2 ≤ 1000 := by have := HN2.out; rw [despL_len] at this; omega
    go_wp2_with fail
    refine (l4Signs_c ho.rd (by omega)).mono ?_; rintro e w3 ⟨rfl, hb3⟩
    go_wp2_with fail
    go_ret2
    exact retTB_some hr.out (hb.trans (hb3.mono hz))
  · have h1' : (recB l s d && inB m 0 600) = false := by simpa using h1
    have hr := Lib.hid (rcvR_no h1')
    go_enter Try.func67, Try.ntmps67
    go_wp2_with fail
    refine (l4Listen_c s d m h hs).mono ?_; rintro e w' ⟨rfl, rfl⟩
    rw [h1']
    clear h1 h1'
    go_wp2_with fail
    go_ret2
    exact retTB_none hr.out (Below.refl _ _)

end Go.Proofs.Ytadcckjlcmnhbaa
