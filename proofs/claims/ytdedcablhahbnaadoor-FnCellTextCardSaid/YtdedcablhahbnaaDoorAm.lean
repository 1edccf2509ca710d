/- AdmitStation of the reference: the ways. No condition beyond lengths. -/
import Derived.Test.YtdedcablhahbnaaDoorAz
namespace Go.Proofs.YtdedcablhahbnaaDoor
open Go.RowKit

set_option maxRecDepth 100000 in
set_option maxHeartbeats 1600000 in
theorem sadmit_5 {ao : Option Addr} {n c : Nat} {l : List Stn} {w : World} (nm : ByteArray) (d loss : Int) (h : RdS w ao n l) (_hcz : ao = none → c = 0) (hnm : nm.size ≤ 1099511627776) (hm2 : ∀ i (h : i < l.length), (l[i]'h).nm.size ≤ 1099511627776 ∧ (l[i]'h).ph.size ≤ 1099511627776) (h1 : cellB l = true) (h2 : n < 8) (h3 : nameB nm = true) (h4 : idxS l nm = -1) (h5' : inB loss 1 20 = false) :
    Calls Tryd.prog 45 #[.slice ao n c, .string nm, .int .i64 d, .int .i64 loss] w (RetSB w (admR l nm d loss)) := by
  have hs := h.2.1
  have HM := Lib.hid hm2; clear hm2
  have hr := Lib.hid (admR_5 (l := l) (nm := nm) (d := d) h5')
  have H4 := Lib.hid h4; clear h4
  go_enter Tryd.func45, Tryd.ntmps45
  go_wp2_with fail
  refine (sCellValid_c h HM.out).mono ?_; rintro e w1 ⟨rfl, hb1⟩
  rw [h1]
  clear h1
  go_wp2_with fail
  refine (l8Name_c _ _ hnm).mono ?_; rintro e w' ⟨rfl, rfl⟩
  rw [h3]
  clear h3
  go_wp2_with fail
  refine (l8Index_c nm (h.below hb1)).mono ?_; rintro e w' ⟨rfl, rfl⟩
  rw [H4.out]
  go_wp2_with fail
  refine (l1In_c _ _ _ _).mono ?_; rintro e w' ⟨rfl, rfl⟩
  rw [h5']
  clear h5'
  go_wp2_with fail
  go_ret2
  exact retSB_mk (OwnVS.mono (OwnVS.made0 w1 (Nat.le_refl _)) hb1.size) (by simp) (by rw [hr.out]; rfl) (by rw [hr.out]; rfl) (hb1.alloc hb1.size _)
set_option maxRecDepth 100000 in
set_option maxHeartbeats 1600000 in
theorem sadmit_2 {ao : Option Addr} {n c : Nat} {l : List Stn} {w : World} (nm : ByteArray) (d loss : Int) (h : RdS w ao n l) (_hcz : ao = none → c = 0) (hnm : nm.size ≤ 1099511627776) (hm2 : ∀ i (h : i < l.length), (l[i]'h).nm.size ≤ 1099511627776 ∧ (l[i]'h).ph.size ≤ 1099511627776) (h1 : cellB l = true) (h2 : ¬ n < 8) (h3 : nameB nm = true) (h4 : idxS l nm = -1) :
    Calls Tryd.prog 45 #[.slice ao n c, .string nm, .int .i64 d, .int .i64 loss] w (RetSB w (admR l nm d loss)) := by
  have hs := h.2.1
  have HM := Lib.hid hm2; clear hm2
  have hn := h.1
  have hr := Lib.hid (admR_2 (l := l) (nm := nm) (d := d) (loss := loss) (by omega))
  have h88 := cellB_8 h1
  have h8e : n = 8 := by omega
  subst h8e
  clear hn h88 h2
  have H4 := Lib.hid h4; clear h4
  go_enter Tryd.func45, Tryd.ntmps45
  go_wp2_with fail
  refine (sCellValid_c h HM.out).mono ?_; rintro e w1 ⟨rfl, hb1⟩
  rw [h1]
  clear h1
  go_wp2_with fail
  refine (l8Name_c _ _ hnm).mono ?_; rintro e w' ⟨rfl, rfl⟩
  rw [h3]
  clear h3
  go_wp2_with fail
  refine (l8Index_c nm (h.below hb1)).mono ?_; rintro e w' ⟨rfl, rfl⟩
  rw [H4.out]
  go_wp2_with fail
  go_ret2
  exact retSB_mk (OwnVS.mono (OwnVS.made0 w1 (Nat.le_refl _)) hb1.size) (by simp) (by rw [hr.out]; rfl) (by rw [hr.out]; rfl) (hb1.alloc hb1.size _)
set_option maxRecDepth 100000 in
set_option maxHeartbeats 1600000 in
theorem sadmit_4 {ao : Option Addr} {n c : Nat} {l : List Stn} {w : World} (nm : ByteArray) (d loss : Int) (h : RdS w ao n l) (_hcz : ao = none → c = 0) (hnm : nm.size ≤ 1099511627776) (hm2 : ∀ i (h : i < l.length), (l[i]'h).nm.size ≤ 1099511627776 ∧ (l[i]'h).ph.size ≤ 1099511627776) (h1 : cellB l = true) (h3 : nameB nm = true) {f : Nat} (h4 : idxS l nm = f) :
    Calls Tryd.prog 45 #[.slice ao n c, .string nm, .int .i64 d, .int .i64 loss] w (RetSB w (admR l nm d loss)) := by
  have hs := h.2.1
  have HM := Lib.hid hm2; clear hm2
  have hr := Lib.hid (admR_4 (d := d) (loss := loss) h4)
  have H4 := Lib.hid h4; clear h4
  go_enter Tryd.func45, Tryd.ntmps45
  go_wp2_with fail
  refine (sCellValid_c h HM.out).mono ?_; rintro e w1 ⟨rfl, hb1⟩
  rw [h1]
  clear h1
  go_wp2_with fail
  refine (l8Name_c _ _ hnm).mono ?_; rintro e w' ⟨rfl, rfl⟩
  rw [h3]
  clear h3
  go_wp2_with fail
  refine (l8Index_c nm (h.below hb1)).mono ?_; rintro e w' ⟨rfl, rfl⟩
  rw [H4.out]
  go_wp2_with fail
  go_ret2
  exact retSB_mk (OwnVS.mono (OwnVS.made0 w1 (Nat.le_refl _)) hb1.size) (by simp) (by rw [hr.out]; rfl) (by rw [hr.out]; rfl) (hb1.alloc hb1.size _)
set_option maxRecDepth 100000 in
set_option maxHeartbeats 1600000 in
theorem sadmit_3 {ao : Option Addr} {n c : Nat} {l : List Stn} {w : World} (nm : ByteArray) (d loss : Int) (h : RdS w ao n l) (_hcz : ao = none → c = 0) (hnm : nm.size ≤ 1099511627776) (hm2 : ∀ i (h : i < l.length), (l[i]'h).nm.size ≤ 1099511627776 ∧ (l[i]'h).ph.size ≤ 1099511627776) (h1 : cellB l = true) (h3' : nameB nm = false) :
    Calls Tryd.prog 45 #[.slice ao n c, .string nm, .int .i64 d, .int .i64 loss] w (RetSB w (admR l nm d loss)) := by
  have hs := h.2.1
  have HM := Lib.hid hm2; clear hm2
  have hr := Lib.hid (admR_3 (l := l) (d := d) (loss := loss) h3')
  go_enter Tryd.func45, Tryd.ntmps45
  go_wp2_with fail
  refine (sCellValid_c h HM.out).mono ?_; rintro e w1 ⟨rfl, hb1⟩
  rw [h1]
  clear h1
  go_wp2_with fail
  refine (l8Name_c _ _ hnm).mono ?_; rintro e w' ⟨rfl, rfl⟩
  rw [h3']
  clear h3'
  go_wp2_with fail
  go_ret2
  exact retSB_mk (OwnVS.mono (OwnVS.made0 w1 (Nat.le_refl _)) hb1.size) (by simp) (by rw [hr.out]; rfl) (by rw [hr.out]; rfl) (hb1.alloc hb1.size _)
set_option maxRecDepth 100000 in
set_option maxHeartbeats 1600000 in
theorem sadmit_1 {ao : Option Addr} {n c : Nat} {l : List Stn} {w : World} (nm : ByteArray) (d loss : Int) (h : RdS w ao n l) (_hcz : ao = none → c = 0) (_hnm : nm.size ≤ 1099511627776) (hm2 : ∀ i (h : i < l.length), (l[i]'h).nm.size ≤ 1099511627776 ∧ (l[i]'h).ph.size ≤ 1099511627776) (h1' : cellB l = false) :
    Calls Tryd.prog 45 #[.slice ao n c, .string nm, .int .i64 d, .int .i64 loss] w (RetSB w (admR l nm d loss)) := by
  have hs := h.2.1
  have HM := Lib.hid hm2; clear hm2
  have hr := Lib.hid (admR_1 (nm := nm) (d := d) (loss := loss) h1')
  go_enter Tryd.func45, Tryd.ntmps45
  go_wp2_with fail
  refine (sCellValid_c h HM.out).mono ?_; rintro e w1 ⟨rfl, hb1⟩
  rw [h1']
  clear h1'
  go_wp2_with fail
  go_ret2
  exact retSB_mk (OwnVS.mono (OwnVS.made0 w1 (Nat.le_refl _)) hb1.size) (by simp) (by rw [hr.out]; rfl) (by rw [hr.out]; rfl) (hb1.alloc hb1.size _)
theorem sAdmitStation_c {ao : Option Addr} {n c : Nat} {l : List Stn} {w : World} (nm : ByteArray) (d loss : Int) (h : RdS w ao n l) (hcz : ao = none → c = 0) (hnm : nm.size ≤ 1099511627776) (hm2 : ∀ i (h : i < l.length), (l[i]'h).nm.size ≤ 1099511627776 ∧ (l[i]'h).ph.size ≤ 1099511627776) :
    Calls Tryd.prog 45 #[.slice ao n c, .string nm, .int .i64 d, .int .i64 loss] w (RetSB w (admR l nm d loss)) := by
  by_cases h1 : cellB l = true
  · by_cases h3 : nameB nm = true
    · rcases idxS_cases l nm with h4 | ⟨f, hf, h4⟩
      · by_cases h2 : n < 8
        · by_cases h5 : inB loss 1 20 = true
          · exact sadmit_y nm d loss h hcz hnm hm2 h1 h2 h3 h4 h5
          · exact sadmit_5 nm d loss h hcz hnm hm2 h1 h2 h3 h4 (by simpa using h5)
        · exact sadmit_2 nm d loss h hcz hnm hm2 h1 h2 h3 h4
      · exact sadmit_4 nm d loss h hcz hnm hm2 h1 h3 h4
    · exact sadmit_3 nm d loss h hcz hnm hm2 h1 (by simpa using h3)
  · exact sadmit_1 nm d loss h hcz hnm hm2 (by simpa using h1)

end Go.Proofs.YtdedcablhahbnaaDoor
