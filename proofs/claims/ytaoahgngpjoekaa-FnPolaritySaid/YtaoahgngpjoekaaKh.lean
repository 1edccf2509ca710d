/- FixPolarity of the program and of the reference; InvertBits. No condition beyond lengths. -/
import Derived.Test.YtaoahgngpjoekaaKg
import Derived.Test.YtaoahgngpjoekaaRu
namespace Go.Proofs.Ytaoahgngpjoekaa
open Go.RowKit

def invR (s : ByteArray) : Option ByteArray := if seqB s = true then some (invT s) else none
theorem invR_yes {s : ByteArray} (h : seqB s = true) : invR s = some (invT s) := if_pos h
theorem invR_no {s : ByteArray} (h : seqB s = false) : invR s = none := if_neg (by rw [h]; decide)

set_option maxHeartbeats 800000 in
theorem InvertBits_c (s : ByteArray) (w : World) : Calls Try.prog 27 #[.string s] w (RetTB w (invR s)) := by
  by_cases h : seqB s = true
  · have hr := Lib.hid (invR_yes h)
    have hb : bitsB s = true := by unfold seqB at h; rw [Bool.and_eq_true] at h; exact h.1
    have HC := Lib.hid (codes_bits (bits_all hb))
    have h6 := bits_le hb
    clear hb
    go_enter Try.func27, Try.ntmps27
    go_wp2_with fail
    refine (SequenceValid_c _ _).mono ?_; rintro e w' ⟨rfl, rfl⟩
    rw [h]
    go_wp2_with fail
    refine (changedBits_c s _ (by omega) HC.out).mono ?_; rintro e w1 ⟨rfl, hb1⟩
    go_wp2_with fail
    go_ret2
    exact retTB_some hr.out hb1
  · have h' : seqB s = false := by simpa using h
    have hr := Lib.hid (invR_no h')
    clear h
    go_enter Try.func27, Try.ntmps27
    go_wp2_with fail
    refine (SequenceValid_c _ _).mono ?_; rintro e w' ⟨rfl, rfl⟩
    rw [h']
    go_wp2_with fail
    go_ret2
    exact retTB_none hr.out (Below.refl _ _)

set_option maxHeartbeats 800000 in
theorem FixPolarity_c (s : ByteArray) (w : World) : Calls Try.prog 25 #[.string s] w (RetTB w (polR s)) := by
  by_cases h : bitsB s = true
  · have HC := Lib.hid (codes_bits (bits_all h))
    have h6 := bits_le h
    obtain ⟨f, hf⟩ : ∃ f, findR s 0 = f := ⟨_, rfl⟩
    have HF := Lib.hid hf
    by_cases h1 : 0 ≤ f
    · have hr := Lib.hid (pol_1 h (by rw [hf]; exact h1))
      clear hf
      go_enter Try.func25, Try.ntmps25
      go_wp2_with fail
      refine (isBits_c _ _).mono ?_; rintro e w' ⟨rfl, rfl⟩
      rw [h]
      go_wp2_with fail
      refine (FindFrame_c s 0 _).mono ?_; rintro e w1 ⟨rfl, hb1⟩
      rw [HF.out]
      go_wp2_with fail
      go_ret2
      exact retTB_some hr.out hb1
    · obtain ⟨g, hg⟩ : ∃ g, findR (invT s) 0 = g := ⟨_, rfl⟩
      have HG := Lib.hid hg
      by_cases h2 : 0 ≤ g
      · have hr := Lib.hid (pol_2 h (by rw [hf]; exact h1) (by rw [hg]; exact h2))
        clear hf hg
        go_enter Try.func25, Try.ntmps25
        go_wp2_with fail
        refine (isBits_c _ _).mono ?_; rintro e w' ⟨rfl, rfl⟩
        rw [h]
        go_wp2_with fail
        refine (FindFrame_c s 0 _).mono ?_; rintro e w1 ⟨rfl, hb1⟩
        rw [HF.out]
        go_wp2_with fail
        refine (changedBits_c s _ (by omega) HC.out).mono ?_; rintro e w2 ⟨rfl, hb2⟩
        have hbA := hb1.trans (hb2.mono hb1.size)
        go_wp2_with fail
        refine (FindFrame_c (invT s) 0 _).mono ?_; rintro e w3 ⟨rfl, hb3⟩
        rw [HG.out]
        go_wp2_with fail
        go_ret2
        exact retTB_some hr.out (hbA.trans (hb3.mono hbA.size))
      · have hr := Lib.hid (pol_3 h (by rw [hf]; exact h1) (by rw [hg]; exact h2))
        clear hf hg
        go_enter Try.func25, Try.ntmps25
        go_wp2_with fail
        refine (isBits_c _ _).mono ?_; rintro e w' ⟨rfl, rfl⟩
        rw [h]
        go_wp2_with fail
        refine (FindFrame_c s 0 _).mono ?_; rintro e w1 ⟨rfl, hb1⟩
        rw [HF.out]
        go_wp2_with fail
        refine (changedBits_c s _ (by omega) HC.out).mono ?_; rintro e w2 ⟨rfl, hb2⟩
        have hbA := hb1.trans (hb2.mono hb1.size)
        go_wp2_with fail
        refine (FindFrame_c (invT s) 0 _).mono ?_; rintro e w3 ⟨rfl, hb3⟩
        rw [HG.out]
        go_wp2_with fail
        go_ret2
        exact retTB_none hr.out (hbA.trans (hb3.mono hbA.size))
  · have h' : bitsB s = false := by simpa using h
    have hr := Lib.hid (pol_no h')
    clear h
    go_enter Try.func25, Try.ntmps25
    go_wp2_with fail
    refine (isBits_c _ _).mono ?_; rintro e w' ⟨rfl, rfl⟩
    rw [h']
    go_wp2_with fail
    go_ret2
    exact retTB_none hr.out (Below.refl _ _)

set_option maxHeartbeats 800000 in
theorem sFixPolarity_c (s : ByteArray) (w : World) (hs : s.size ≤ 1099511627776) : Calls Try.prog 26 #[.string s] w (RetTB w (polR s)) := by
  by_cases h : bitsB s = true
  · have HC := Lib.hid (codes_bits (bits_all h))
    have h6 := bits_le h
    obtain ⟨f, hf⟩ : ∃ f, findR s 0 = f := ⟨_, rfl⟩
    have HF := Lib.hid hf
    by_cases h1 : 0 ≤ f
    · have hr := Lib.hid (pol_1 h (by rw [hf]; exact h1))
      clear hf h
      go_enter Try.func26, Try.ntmps26
      go_wp2_with fail
      refine (sFindFrame_c s 0 _ hs).mono ?_; rintro e w1 ⟨rfl, hb1⟩
      rw [HF.out]
      go_wp2_with fail
      go_ret2
      exact retTB_some hr.out hb1
    · obtain ⟨g, hg⟩ : ∃ g, findR (invT s) 0 = g := ⟨_, rfl⟩
      have HG := Lib.hid hg
      have hiz := inv_size s
      by_cases h2 : g < 0
      · have hr := Lib.hid (pol_3 h (by rw [hf]; exact h1) (by rw [hg]; omega))
        clear hf hg
        go_enter Try.func26, Try.ntmps26
        go_wp2_with fail
        refine (sFindFrame_c s 0 _ hs).mono ?_; rintro e w1 ⟨rfl, hb1⟩
        rw [HF.out]
        go_wp2_with fail
        refine (l1Bits_c _ _ hs).mono ?_; rintro e w' ⟨rfl, rfl⟩
        rw [h]
        go_wp2_with fail
        refine (l2Invert_c s _ (by omega) HC.out).mono ?_; rintro e w2 ⟨rfl, hb2⟩
        have hbA := hb1.trans (hb2.mono hb1.size)
        go_wp2_with fail
        refine (sFindFrame_c (invT s) 0 _ (by omega)).mono ?_; rintro e w3 ⟨rfl, hb3⟩
        rw [HG.out]
        go_wp2_with fail
        go_ret2
        exact retTB_none hr.out (hbA.trans (hb3.mono hbA.size))
      · have hr := Lib.hid (pol_2 h (by rw [hf]; exact h1) (by rw [hg]; omega))
        clear hf hg
        go_enter Try.func26, Try.ntmps26
        go_wp2_with fail
        refine (sFindFrame_c s 0 _ hs).mono ?_; rintro e w1 ⟨rfl, hb1⟩
        rw [HF.out]
        go_wp2_with fail
        refine (l1Bits_c _ _ hs).mono ?_; rintro e w' ⟨rfl, rfl⟩
        rw [h]
        go_wp2_with fail
        refine (l2Invert_c s _ (by omega) HC.out).mono ?_; rintro e w2 ⟨rfl, hb2⟩
        have hbA := hb1.trans (hb2.mono hb1.size)
        go_wp2_with fail
        refine (sFindFrame_c (invT s) 0 _ (by omega)).mono ?_; rintro e w3 ⟨rfl, hb3⟩
        rw [HG.out]
        have hbB := hbA.trans (hb3.mono hbA.size)
        go_wp2_with fail
        refine (l2Invert_c s _ (by omega) HC.out).mono ?_; rintro e w4 ⟨rfl, hb4⟩
        go_wp2_with fail
        go_ret2
        exact retTB_some hr.out (hbB.trans (hb4.mono hbB.size))
  · have h' : bitsB s = false := by simpa using h
    have hr := Lib.hid (pol_no h')
    have HF := Lib.hid (find_no1 (a := 0) h')
    clear h
    go_enter Try.func26, Try.ntmps26
    go_wp2_with fail
    refine (sFindFrame_c s 0 _ hs).mono ?_; rintro e w1 ⟨rfl, hb1⟩
    rw [HF.out]
    go_wp2_with fail
    refine (l1Bits_c _ _ hs).mono ?_; rintro e w' ⟨rfl, rfl⟩
    rw [h']
    go_wp2_with fail
    go_ret2
    exact retTB_none hr.out hb1

end Go.Proofs.Ytaoahgngpjoekaa
