/- AdmitStation of the program: the ways. No condition beyond lengths. -/
import Derived.Test.YtklbdkbaldkkpaaAy
namespace Go.Proofs.Ytklbdkbaldkkpaa
open Go.RowKit

set_option maxRecDepth 100000 in
set_option maxHeartbeats 1600000 in
theorem admit_5 {ao : Option Addr} {n c : Nat} {l : List Stn} {w : World} (nm : ByteArray) (d loss : Int) (h : RdS w ao n l) (hc : n ≤ c) (h1 : cellB l = true) (h2 : n < 8) (h3 : nameB nm = true) (h4 : idxS l nm = -1) (h5' : inB loss 1 20 = false) :
    Calls Try.prog 35 #[.slice ao n c, .string nm, .int .i64 d, .int .i64 loss] w (RetSB w (admR l nm d loss)) := by
  have hs := h.2.1
  have hr := Lib.hid (admR_5 (l := l) (nm := nm) (d := d) h5')
  have H4 := Lib.hid h4; clear h4
  go_enter Try.func35, Try.ntmps35
  go_wp2_with fail
  refine (CellValid_c h hc).mono ?_; rintro e w1 ⟨rfl, hb1⟩
  rw [h1]
  clear h1
  go_wp2_with fail
  refine (nameValid_c _ _).mono ?_; rintro e w' ⟨rfl, rfl⟩
  rw [h3]
  clear h3
  go_wp2_with fail
  refine (stationIndex_c nm (h.below hb1)).mono ?_; rintro e w2 ⟨rfl, hb2⟩
  rw [H4.out]
  go_wp2_with fail
  refine (lossValid_c _ _).mono ?_; rintro e w' ⟨rfl, rfl⟩
  rw [h5']
  clear h5'
  go_wp2_with fail
  go_ret2
  exact retSB_nil hr.out (hb1.trans (hb2.mono hb1.size))
set_option maxRecDepth 100000 in
set_option maxHeartbeats 1600000 in
theorem admit_4 {ao : Option Addr} {n c : Nat} {l : List Stn} {w : World} (nm : ByteArray) (d loss : Int) (h : RdS w ao n l) (hc : n ≤ c) (h1 : cellB l = true) (h2 : n < 8) (h3 : nameB nm = true) {f : Nat} (h4 : idxS l nm = f) :
    Calls Try.prog 35 #[.slice ao n c, .string nm, .int .i64 d, .int .i64 loss] w (RetSB w (admR l nm d loss)) := by
  have hs := h.2.1
  have hr := Lib.hid (admR_4 (d := d) (loss := loss) h4)
  have H4 := Lib.hid h4; clear h4
  go_enter Try.func35, Try.ntmps35
  go_wp2_with fail
  refine (CellValid_c h hc).mono ?_; rintro e w1 ⟨rfl, hb1⟩
  rw [h1]
  clear h1
  go_wp2_with fail
  refine (nameValid_c _ _).mono ?_; rintro e w' ⟨rfl, rfl⟩
  rw [h3]
  clear h3
  go_wp2_with fail
  refine (stationIndex_c nm (h.below hb1)).mono ?_; rintro e w2 ⟨rfl, hb2⟩
  rw [H4.out]
  go_wp2_with fail
  go_ret2
  exact retSB_nil hr.out (hb1.trans (hb2.mono hb1.size))
set_option maxRecDepth 100000 in
set_option maxHeartbeats 1600000 in
theorem admit_3 {ao : Option Addr} {n c : Nat} {l : List Stn} {w : World} (nm : ByteArray) (d loss : Int) (h : RdS w ao n l) (hc : n ≤ c) (h1 : cellB l = true) (h2 : n < 8) (h3' : nameB nm = false) :
    Calls Try.prog 35 #[.slice ao n c, .string nm, .int .i64 d, .int .i64 loss] w (RetSB w (admR l nm d loss)) := by
  have hs := h.2.1
  have hr := Lib.hid (admR_3 (l := l) (d := d) (loss := loss) h3')
  go_enter Try.func35, Try.ntmps35
  go_wp2_with fail
  refine (CellValid_c h hc).mono ?_; rintro e w1 ⟨rfl, hb1⟩
  rw [h1]
  clear h1
  go_wp2_with fail
  refine (nameValid_c _ _).mono ?_; rintro e w' ⟨rfl, rfl⟩
  rw [h3']
  clear h3'
  go_wp2_with fail
  go_ret2
  exact retSB_nil hr.out hb1
set_option maxRecDepth 100000 in
set_option maxHeartbeats 1600000 in
theorem admit_2 {ao : Option Addr} {n c : Nat} {l : List Stn} {w : World} (nm : ByteArray) (d loss : Int) (h : RdS w ao n l) (hc : n ≤ c) (h1 : cellB l = true) (h2 : ¬ n < 8) :
    Calls Try.prog 35 #[.slice ao n c, .string nm, .int .i64 d, .int .i64 loss] w (RetSB w (admR l nm d loss)) := by
  have hs := h.2.1
  have hn := h.1
  have hr := Lib.hid (admR_2 (l := l) (nm := nm) (d := d) (loss := loss) (by omega))
  have hge : (8 : Int) ≤ (n : Int) := by omega
  clear hn
  go_enter Try.func35, Try.ntmps35
  go_wp2_with fail
  refine (CellValid_c h hc).mono ?_; rintro e w1 ⟨rfl, hb1⟩
  rw [h1]
  clear h1
  go_wp2_with fail
  go_ret2
  exact retSB_nil hr.out hb1
set_option maxRecDepth 100000 in
set_option maxHeartbeats 1600000 in
theorem admit_1 {ao : Option Addr} {n c : Nat} {l : List Stn} {w : World} (nm : ByteArray) (d loss : Int) (h : RdS w ao n l) (hc : n ≤ c) (h1' : cellB l = false) :
    Calls Try.prog 35 #[.slice ao n c, .string nm, .int .i64 d, .int .i64 loss] w (RetSB w (admR l nm d loss)) := by
  have hs := h.2.1
  have hr := Lib.hid (admR_1 (nm := nm) (d := d) (loss := loss) h1')
  go_enter Try.func35, Try.ntmps35
  go_wp2_with fail
  refine (CellValid_c h hc).mono ?_; rintro e w1 ⟨rfl, hb1⟩
  rw [h1']
  clear h1'
  go_wp2_with fail
  go_ret2
  exact retSB_nil hr.out hb1
theorem AdmitStation_c {ao : Option Addr} {n c : Nat} {l : List Stn} {w : World} (nm : ByteArray) (d loss : Int) (h : RdS w ao n l) (hc : n ≤ c) :
    Calls Try.prog 35 #[.slice ao n c, .string nm, .int .i64 d, .int .i64 loss] w (RetSB w (admR l nm d loss)) := by
  by_cases h1 : cellB l = true
  · by_cases h2 : n < 8
    · by_cases h3 : nameB nm = true
      · rcases idxS_cases l nm with h4 | ⟨f, hf, h4⟩
        · by_cases h5 : inB loss 1 20 = true
          · exact admit_y nm d loss h hc h1 h2 h3 h4 h5
          · exact admit_5 nm d loss h hc h1 h2 h3 h4 (by simpa using h5)
        · exact admit_4 nm d loss h hc h1 h2 h3 h4
      · exact admit_3 nm d loss h hc h1 h2 (by simpa using h3)
    · exact admit_2 nm d loss h hc h1 h2
  · exact admit_1 nm d loss h hc (by simpa using h1)

end Go.Proofs.Ytklbdkbaldkkpaa
