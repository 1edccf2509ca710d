/- ScrambleBits of the program and of the reference. No condition beyond lengths. -/
import Derived.Test.YtmoamgmhdeckmaaKr
import Derived.Test.YtmoamgmhdeckmaaTb
namespace Go.Proofs.Ytmoamgmhdeckmaa
open Go.RowKit

def scrT (b : ByteArray) (S T X : Nat) : ByteArray := sumT b (text (runL S T X b.size))
def scrR (b : ByteArray) (s t x : Int) : Option ByteArray := if (bitsB b && regB s t x) = true then some (scrT b s.toNat t.toNat x.toNat) else none
theorem scrR_no1 {b : ByteArray} {s t x : Int} (h : bitsB b = false) : scrR b s t x = none := by unfold scrR; rw [h]; rfl
theorem scrR_no2 {b : ByteArray} {s t x : Int} (h : regB s t x = false) : scrR b s t x = none := by unfold scrR; rw [h, Bool.and_false]; rfl
theorem scrR_yes {b : ByteArray} {S T X : Nat} (h1 : bitsB b = true) (h2 : regB S T X = true) : scrR b S T X = some (scrT b S T X) := by unfold scrR; rw [h1, h2]; rfl
theorem run_bits (S T X n : Nat) : allS bitC (text (runL S T X n)) = true := by
  unfold allS text
  rw [List.all_eq_true]
  intro c hc
  simp only [List.mem_map] at hc
  obtain ⟨x, hx, rfl⟩ := hc
  rcases runL_bit S T X n x hx with rfl | rfl <;> rfl
theorem scr_bits (b : ByteArray) (S T X : Nat) : allS bitC (scrT b S T X) = true := by
  unfold allS scrT sumT text
  rw [List.all_eq_true]
  intro c hc
  simp only [List.mem_map] at hc
  obtain ⟨x, hx, rfl⟩ := hc
  rcases sumL_bit _ _ x hx with rfl | rfl <;> rfl
theorem scr_size (b : ByteArray) (S T X : Nat) : (scrT b S T X).size = b.size := by unfold scrT sumT; rw [text_size, sumL_len]

set_option maxHeartbeats 1600000 in
theorem ScrambleBits_c (b : ByteArray) (s t x : Int) (w : World) : Calls Try.prog 33 #[.string b, .agg #[.int .i64 s, .int .i64 t, .int .i64 x]] w (RetTB w (scrR b s t x)) := by
  have hR0 := regAt_one w s t x
  have hB0 : Below w.heap.size w (w.alloc (.cells #[.int .i64 s, .int .i64 t, .int .i64 x] 26)) := (Below.refl _ _).alloc (Nat.le_refl _) _
  have HZ := Lib.hid (show (w.alloc (.cells #[.int .i64 s, .int .i64 t, .int .i64 x] 26)).heap.size = w.heap.size + 1 by simp)
  have c0 := hR0.c0
  have c1 := hR0.c1
  have c2 := hR0.c2
  by_cases h1 : bitsB b = true
  · by_cases h2 : regB s t x = true
    · obtain ⟨S, T, X, rfl, rfl, rfl, hS, hT, hX⟩ := regB_nat h2
      have hr := Lib.hid (scrR_yes h1 h2)
      have h6 := bits_le h1
      have HA := Lib.hid (bits_all h1)
      have HB := Lib.hid (run_bits S T X b.size)
      have HD := Lib.hid (show scrT b S T X = sumT b (text (runL S T X b.size)) from rfl)
      have hrz : (text (runL S T X b.size)).size = b.size := by rw [text_size, runL_len]
      have HRZ := Lib.hid hrz
      have HTX := Lib.hid (And.intro hT.2 hX)
      have HRG := Lib.hid h2
      clear hT hX hrz
      go_enter Try.func33, Try.ntmps33
      go_wp2_with fail
      refine (isBits_c _ _).mono ?_; rintro e w' ⟨rfl, rfl⟩
      rw [h1]
      go_wp2_with fail
      refine (RegisterValid_c _ _ _ _).mono ?_; rintro e w1 ⟨rfl, hb1⟩
      rw [h2]
      have hR1 := hR0.below hb1 (by rw [HZ.out]; omega)
      have hB1 := hB0.trans (hb1.mono (by rw [HZ.out]; omega))
      have d0 := hR1.c0
      have d1 := hR1.c1
      have d2 := hR1.c2
      clear hR0 hB0 hb1 c0 c1 c2 h1 h2
      go_wp2_with fail
      refine (RunRegister_c S T X b.size _ HRG.out hS HTX.out.1 HTX.out.2 h6).mono ?_; rintro e w2 ⟨rfl, hb2⟩
      have hB2 := hB1.trans (hb2.mono hB1.size)
      clear hR1 hB1 hb2 d0 d1 d2
      generalize text (runL S T X b.size) = r at *
      go_wp2_with fail
      refine (sumOfBits_c b r _ (by omega) HRZ.out.symm HA.out HB.out).mono ?_; rintro e w3 ⟨rfl, hb3⟩
      go_wp2_with fail
      go_ret2
      exact retTB_some (by rw [hr.out, HD.out]) (hB2.trans (hb3.mono hB2.size))
    · have h2' : regB s t x = false := by simpa using h2
      have hr := Lib.hid (scrR_no2 (b := b) h2')
      clear h2
      go_enter Try.func33, Try.ntmps33
      go_wp2_with fail
      refine (isBits_c _ _).mono ?_; rintro e w' ⟨rfl, rfl⟩
      rw [h1]
      go_wp2_with fail
      refine (RegisterValid_c _ _ _ _).mono ?_; rintro e w1 ⟨rfl, hb1⟩
      rw [h2']
      have hB1 := hB0.trans (hb1.mono (by rw [HZ.out]; omega))
      go_wp2_with fail
      go_ret2
      exact retTB_none hr.out hB1
  · have h1' : bitsB b = false := by simpa using h1
    have hr := Lib.hid (scrR_no1 (s := s) (t := t) (x := x) h1')
    clear h1
    go_enter Try.func33, Try.ntmps33
    go_wp2_with fail
    refine (isBits_c _ _).mono ?_; rintro e w' ⟨rfl, rfl⟩
    rw [h1']
    go_wp2_with fail
    go_ret2
    exact retTB_none hr.out hB0

set_option maxHeartbeats 1600000 in
theorem sScrambleBits_c (b : ByteArray) (s t x : Int) (w : World) (hs : b.size ≤ 1099511627776) : Calls Try.prog 29 #[.string b, .agg #[.int .i64 s, .int .i64 t, .int .i64 x]] w (RetTB w (scrR b s t x)) := by
  have hR0 := regAt_one w s t x
  have hB0 : Below w.heap.size w (w.alloc (.cells #[.int .i64 s, .int .i64 t, .int .i64 x] 26)) := (Below.refl _ _).alloc (Nat.le_refl _) _
  have HZ := Lib.hid (show (w.alloc (.cells #[.int .i64 s, .int .i64 t, .int .i64 x] 26)).heap.size = w.heap.size + 1 by simp)
  have c0 := hR0.c0
  have c1 := hR0.c1
  have c2 := hR0.c2
  by_cases h1 : bitsB b = true
  · by_cases h2 : regB s t x = true
    · obtain ⟨S, T, X, rfl, rfl, rfl, hS, hT, hX⟩ := regB_nat h2
      have hr := Lib.hid (scrR_yes h1 h2)
      have h6 := bits_le h1
      have HA := Lib.hid (bits_all h1)
      have HB := Lib.hid (run_bits S T X b.size)
      have HD := Lib.hid (show scrT b S T X = sumT b (text (runL S T X b.size)) from rfl)
      have hrz : (text (runL S T X b.size)).size = b.size := by rw [text_size, runL_len]
      have HRZ := Lib.hid hrz
      have HTX := Lib.hid (And.intro hT.2 hX)
      clear hT hX hrz
      go_enter Try.func29, Try.ntmps29
      go_wp2_with fail
      refine (l1Bits_c _ _ hs).mono ?_; rintro e w' ⟨rfl, rfl⟩
      rw [h1]
      go_wp2_with fail
      refine (sRegisterValid_c _ _ _ _).mono ?_; rintro e w1 ⟨rfl, hb1⟩
      rw [h2]
      have hR1 := hR0.below hb1 (by rw [HZ.out]; omega)
      have hB1 := hB0.trans (hb1.mono (by rw [HZ.out]; omega))
      have d0 := hR1.c0
      have d1 := hR1.c1
      have d2 := hR1.c2
      clear hR0 hB0 hb1 c0 c1 c2 h1 h2
      go_wp2_with fail
      refine (l1Run_c S T X b.size _ hS HTX.out.1 HTX.out.2 h6).mono ?_; rintro e w2 ⟨rfl, hb2⟩
      have hB2 := hB1.trans (hb2.mono hB1.size)
      clear hR1 hB1 hb2 d0 d1 d2
      generalize text (runL S T X b.size) = r at *
      go_wp2_with fail
      refine (l2AddB_c b r _ (by omega) HRZ.out.symm HA.out HB.out).mono ?_; rintro e w3 ⟨rfl, hb3⟩
      go_wp2_with fail
      go_ret2
      exact retTB_some (by rw [hr.out, HD.out]) (hB2.trans (hb3.mono hB2.size))
    · have h2' : regB s t x = false := by simpa using h2
      have hr := Lib.hid (scrR_no2 (b := b) h2')
      clear h2
      go_enter Try.func29, Try.ntmps29
      go_wp2_with fail
      refine (l1Bits_c _ _ hs).mono ?_; rintro e w' ⟨rfl, rfl⟩
      rw [h1]
      go_wp2_with fail
      refine (sRegisterValid_c _ _ _ _).mono ?_; rintro e w1 ⟨rfl, hb1⟩
      rw [h2']
      have hB1 := hB0.trans (hb1.mono (by rw [HZ.out]; omega))
      go_wp2_with fail
      go_ret2
      exact retTB_none hr.out hB1
  · have h1' : bitsB b = false := by simpa using h1
    have hr := Lib.hid (scrR_no1 (s := s) (t := t) (x := x) h1')
    clear h1
    go_enter Try.func29, Try.ntmps29
    go_wp2_with fail
    refine (l1Bits_c _ _ hs).mono ?_; rintro e w' ⟨rfl, rfl⟩
    rw [h1']
    go_wp2_with fail
    go_ret2
    exact retTB_none hr.out hB0

end Go.Proofs.Ytmoamgmhdeckmaa
