/- CellReceive of the program and of the reference. No condition beyond lengths. -/
import Derived.Test.YtadcckjlcmnhbaaQb
import Derived.Test.YtadcckjlcmnhbaaRl
namespace Go.Proofs.Ytadcckjlcmnhbaa
open Go.RowKit

/-- The code of a path. -/
def treeT (p : ByteArray) : ByteArray := text (treeL p p.size)
theorem treeT_size {p : ByteArray} (h : p.size ≤ 6) : (treeT p).size ≤ 64 := by
  unfold treeT; rw [text_size, treeL_len]; exact pow6 h
theorem retTB_of {w w' : World} {r r' : Option ByteArray} (hr : r = r') (hb : Below w.heap.size w w') : RetTB w r (.returned (.tuple #[.string (r'.getD ByteArray.empty), .bool r'.isSome])) w' := by
  subst hr; exact ⟨rfl, hb⟩
def crcR (l : List Stn) (s : List Int) (nm : ByteArray) (m : Int) : Option ByteArray :=
  if (cellB l && decide (0 ≤ idxS l nm)) = true then rcvR s (treeT (l.getD (idxS l nm).toNat zstn).ph) 0 m else none
theorem crcR_no1 {l : List Stn} {s : List Int} {nm : ByteArray} {m : Int} (h : cellB l = false) : crcR l s nm m = none := by simp [crcR, h]
theorem crcR_no2 {l : List Stn} {s : List Int} {nm : ByteArray} {m : Int} (h : idxS l nm = -1) : crcR l s nm m = none := by simp [crcR, h]
theorem crcR_yes {l : List Stn} {s : List Int} {nm : ByteArray} {m : Int} {f : Nat} (h : cellB l = true) (hf : f < l.length) (hi : idxS l nm = f) : crcR l s nm m = rcvR s (treeT l[f].ph) 0 m := by
  unfold crcR; rw [hi, h, if_pos (by simp)]; simp only [Int.toNat_natCast]; rw [getD_stn hf]

set_option maxHeartbeats 1600000 in
theorem CellReceive_c {ao bo : Option Addr} {n c nb cb : Nat} {l : List Stn} {s : List Int} {w : World} (nm : ByteArray) (m : Int) (h : RdS w ao n l) (hcap : n ≤ c) (h' : Rd w bo nb s) :
    Calls Try.prog 10 #[.slice ao n c, .slice bo nb cb, .string nm, .int .i64 m] w (RetTB w (crcR l s nm m)) := by
  have hs := h.2.1
  by_cases h1 : cellB l = true
  · rcases idxS_cases l nm with hi | ⟨f, hf, hi⟩
    · have hr := Lib.hid (crcR_no2 (s := s) (m := m) hi)
      go_enter Try.func10, Try.ntmps10
      go_wp2_with fail
      refine (stationIndex_c nm h).mono ?_; rintro e w1 ⟨rfl, hb1⟩
      rw [hi]
      clear hi
      have hA := h.below hb1
      have hz1 := hb1.size
      clear h
      go_wp2_with fail
      refine (CellValid_c hA hcap).mono ?_; rintro e w2 ⟨rfl, hb2⟩
      rw [h1]
      clear h1
      have hbb := hb1.trans (hb2.mono hz1)
      go_wp2_with fail
      go_ret2
      exact retTB_none hr.out hbb
    · have hr := Lib.hid (crcR_yes (s := s) (m := m) h1 hf hi)
      have HP := Lib.hid (show pathB l[f].ph = true by
        have := cellB_st h1 hf
        unfold stB at this; simp only [Bool.and_eq_true] at this; exact this.1.1.2)
      have hfn : f < n := by rw [h.1]; exact hf
      go_enter Try.func10, Try.ntmps10
      go_wp2_with fail
      refine (stationIndex_c nm h).mono ?_; rintro e w1 ⟨rfl, hb1⟩
      rw [hi]
      clear hi
      have hA := h.below hb1
      have hS1 := h'.below hb1
      have hz1 := hb1.size
      clear h h'
      go_wp2_with fail
      refine (CellValid_c hA hcap).mono ?_; rintro e w2 ⟨rfl, hb2⟩
      rw [h1]
      clear h1
      have hbb := hb1.trans (hb2.mono hz1)
      have hB := hA.below hb2
      have hS2 := hS1.below hb2
      have hz2 := hbb.size
      obtain ⟨bk, off, rfl, hl, hc0, hc1, hc2, hc3⟩ := hB.at hfn
      clear hA hS1 hb1 hb2 hB
      go_wp2_with fail
      refine (TreeCode_c _ _ HP.out).mono ?_; rintro e w3 ⟨rfl, hb3⟩
      have hS3 := hS2.below hb3
      have hbc := hbb.trans (hb3.mono hz2)
      have hz3 := hbc.size
      clear hc0 hc1 hc2 hc3 hS2 hbb hb3
      go_wp2_with fail
      refine (ReceiveUser_c (treeT l[f].ph) 0 m hS3).mono ?_; rintro e w4 ⟨rfl, hb4⟩
      go_wp2_with fail
      go_ret2
      exact retTB_of hr.out (hbc.trans (hb4.mono hz3))
  · have h1' : cellB l = false := by simpa using h1
    have hr := Lib.hid (crcR_no1 (s := s) (nm := nm) (m := m) h1')
    go_enter Try.func10, Try.ntmps10
    go_wp2_with fail
    refine (stationIndex_c nm h).mono ?_; rintro e w1 ⟨rfl, hb1⟩
    have hA := h.below hb1
    have hz1 := hb1.size
    clear h h1
    go_wp2_with fail
    refine (CellValid_c hA hcap).mono ?_; rintro e w2 ⟨rfl, hb2⟩
    rw [h1']
    clear h1'
    have hbb := hb1.trans (hb2.mono hz1)
    go_wp2_with fail
    go_ret2
    exact retTB_none hr.out hbb

set_option maxHeartbeats 1600000 in
theorem sCellReceive_c {ao bo : Option Addr} {n c nb cb : Nat} {l : List Stn} {s : List Int} {w : World} (nm : ByteArray) (m : Int) (h : RdS w ao n l) (h' : Rd w bo nb s) (hm2 : ∀ i (h : i < l.length), (l[i]'h).nm.size ≤ 1099511627776 ∧ (l[i]'h).ph.size ≤ 1099511627776) :
    Calls Try.prog 21 #[.slice ao n c, .slice bo nb cb, .string nm, .int .i64 m] w (RetTB w (crcR l s nm m)) := by
  have hs := h.2.1
  have HM := Lib.hid hm2; clear hm2
  by_cases h1 : cellB l = true
  · rcases idxS_cases l nm with hi | ⟨f, hf, hi⟩
    · have hr := Lib.hid (crcR_no2 (s := s) (m := m) hi)
      go_enter Try.func21, Try.ntmps21
      go_wp2_with fail
      refine (l8Index_c nm h).mono ?_; rintro e w' ⟨rfl, rfl⟩
      rw [hi]
      clear hi
      go_wp2_with fail
      refine (sCellValid_c h HM.out).mono ?_; rintro e w2 ⟨rfl, hbb⟩
      rw [h1]
      clear h1
      go_wp2_with fail
      go_ret2
      exact retTB_none hr.out hbb
    · have hr := Lib.hid (crcR_yes (s := s) (m := m) h1 hf hi)
      have HP := Lib.hid (show pathB l[f].ph = true by
        have := cellB_st h1 hf
        unfold stB at this; simp only [Bool.and_eq_true] at this; exact this.1.1.2)
      have hp6 := pathB_size HP.out
      have hts := treeT_size hp6
      have hfn : f < n := by rw [h.1]; exact hf
      go_enter Try.func21, Try.ntmps21
      go_wp2_with fail
      refine (l8Index_c nm h).mono ?_; rintro e w' ⟨rfl, rfl⟩
      rw [hi]
      clear hi
      go_wp2_with fail
      refine (sCellValid_c h HM.out).mono ?_; rintro e w2 ⟨rfl, hbb⟩
      rw [h1]
      clear h1
      have hB := h.below hbb
      have hS2 := h'.below hbb
      clear h h'
      have hz2 := hbb.size
      obtain ⟨bk, off, rfl, hl, hc0, hc1, hc2, hc3⟩ := hB.at hfn
      clear hB
      go_wp2_with fail
      refine (l3Tree_c _ _ hp6).mono ?_; rintro e w3 ⟨rfl, hb3⟩
      have hS3 := hS2.below hb3
      have hbc := hbb.trans (hb3.mono hz2)
      have hz3 := hbc.size
      clear hc0 hc1 hc2 hc3 hS2 hbb hb3
      go_wp2_with fail
      refine (sReceiveUser_c (treeT l[f].ph) 0 m hS3 (by omega)).mono ?_; rintro e w4 ⟨rfl, hb4⟩
      go_wp2_with fail
      go_ret2
      exact retTB_of hr.out (hbc.trans (hb4.mono hz3))
  · have h1' : cellB l = false := by simpa using h1
    have hr := Lib.hid (crcR_no1 (s := s) (nm := nm) (m := m) h1')
    go_enter Try.func21, Try.ntmps21
    go_wp2_with fail
    refine (l8Index_c nm h).mono ?_; rintro e w' ⟨rfl, rfl⟩
    clear h1
    go_wp2_with fail
    refine (sCellValid_c h HM.out).mono ?_; rintro e w2 ⟨rfl, hbb⟩
    rw [h1']
    clear h1'
    go_wp2_with fail
    go_ret2
    exact retTB_none hr.out hbb

end Go.Proofs.Ytadcckjlcmnhbaa
