/- ProtectPayload of the program and of the reference. No condition beyond lengths. -/
import Derived.Test.YtadcckjlcmnhbaaOa
import Derived.Test.YtadcckjlcmnhbaaOb
import Derived.Test.YtadcckjlcmnhbaaShelf
import Derived.Deep.RegionHeld3
namespace Go.Proofs.Ytadcckjlcmnhbaa
open Go.RowKit

set_option maxRecDepth 100000 in
set_option maxHeartbeats 1600000 in
theorem ProtectPayload_c (p : ByteArray) (n s t x : Int) (w : World) : Calls Try.prog 16 #[.string p, .int .i64 n, .agg #[.int .i64 s, .int .i64 t, .int .i64 x]] w (RetTB w (prR p n s t x)) := by
  have hR0 := regAt_one w s t x
  have hB0 : Below w.heap.size w (w.alloc (.cells #[.int .i64 s, .int .i64 t, .int .i64 x] 42)) := (Below.refl _ _).alloc (Nat.le_refl _) _
  have HZ := Lib.hid (show (w.alloc (.cells #[.int .i64 s, .int .i64 t, .int .i64 x] 42)).heap.size = w.heap.size + 1 by simp)
  have c0 := hR0.c0
  have c1 := hR0.c1
  have c2 := hR0.c2
  by_cases h1 : payB p = true
  · by_cases h2 : inB n 1 40 = true
    · by_cases h3 : regB s t x = true
      · obtain ⟨N, rfl, hN1, hN4⟩ := inB_40 h2
        have hP := prot_all h1 hN1 hN4
        have HPR := Lib.hid (prR_some h1 h2 h3 hP)
        have hFz := frame_size p
        have hp1 := (payB_is h1).1
        have hF9 : (frameT p).size ≤ 123 := by omega
        have HMD := Lib.hid (pad_emod (L := (frameT p).size) (n := 4 * N) (by omega))
        have hz0 := padN_lt (L := (frameT p).size) (n := 4 * N) (by omega)
        have HPT := Lib.hid (show padT (frameT p) (4 * N) = frameT p ++ manyT 48 (padN (frameT p).size (4 * N)) from rfl)
        go_enter Try.func16, Try.ntmps16
        go_wp2_with fail
        refine (FrameOf_c p _).mono ?_; rintro e w1 ⟨rfl, hb1⟩
        rw [frameR_yes h1]
        simp only [Option.getD_some, Option.isSome_some]
        have hR1 := hR0.below hb1 (by rw [HZ.out]; omega)
        have hB1 := hB0.trans (hb1.mono (by rw [HZ.out]; omega))
        clear hR0 hB0 hb1 c0 c1 c2
        have c0 := hR1.c0
        have c1 := hR1.c1
        have c2 := hR1.c2
        go_wp2_with fail
        refine (rowsValid_c _ _).mono ?_; rintro e w' ⟨rfl, rfl⟩
        rw [h2]
        go_wp2_with fail
        refine (RegisterValid_c _ _ _ _).mono ?_; rintro e w2 ⟨rfl, hb2⟩
        rw [h3]
        have hR2 := hR1.below hb2 hR1.lt
        have hB2 := hB1.trans (hb2.mono hB1.size)
        clear hR1 hB1 hb2 c0 c1 c2
        have c0 := hR2.c0
        have c1 := hR2.c1
        have c2 := hR2.c2
        have HI2 := Lib.hid h2
        clear h1 h2 h3 hFz
        have hB := Lib.hid hP.out
        have hE := Lib.hid hP.enc
        have hM := Lib.hid (mod_of hP.rows)
        have hT := hP.top
        have hT0 := hP.pos
        have hL := hP.le
        have hBZ := Lib.hid hP.bits
        clear hP
        obtain ⟨Z, hZ⟩ : ∃ Z, Z = padT (frameT p) (4 * N) := ⟨_, rfl⟩
        rw [← hZ] at hB hE hM hT hT0 hL hBZ HPR HPT
        have HZ2 := Lib.hid hZ
        clear hZ
        generalize frameT p = F at *
        obtain ⟨K, hK⟩ : ∃ K, K = 4 * N := ⟨_, rfl⟩
        have hKI : 4 * (N : Int) = (K : Int) := by rw [hK]; rfl
        have hK9 : K ≤ 160 := by omega
        have hK0 : 0 < K := by omega
        have hNK : 4 * (N : Nat) = K := hK.symm
        rw [← hK] at HMD hz0 HPT HZ2
        clear hK hNK
        have kw1 := wr_nat hKI (by omega)
        have kw2 := wr64_nat hKI (by omega)
        obtain ⟨z, hz⟩ : ∃ z, z = padN F.size K := ⟨_, rfl⟩
        rw [← hz] at HMD hz0 HPT
        clear hz
        go_wp2_with fail
        refine (modulo_c (-(F.size : Int)) K _ (by omega) (by omega)).mono ?_; rintro e w' ⟨rfl, rfl⟩
        rw [HMD.out]
        clear hKI kw1 kw2
        go_wp2_with fail
        refine (Try.strings_Repeat (⟨#[48]⟩ : ByteArray) z _ (by omega) (by show 1 * z ≤ _; omega)).mono ?_; rintro e w3 ⟨rfl, hb3⟩
        rw [rep_many]
        have hR3 := hR2.below hb3 hR2.lt
        have hB3 := hB2.trans (hb3.mono hB2.size)
        clear hR2 hB2 hb3 c0 c1 c2
        have c0 := hR3.c0
        have c1 := hR3.c1
        have c2 := hR3.c2
        have hmz := manyT_size 48 z
        generalize manyT 48 z = Y at *
        have hcat : ¬ F.size + Y.size > 9223372036854775807 := by omega
        go_wp2_with fail
        rw [← HPT.out]
        refine (HammingEncode_c Z _).mono ?_; rintro e w4 ⟨rfl, hb4⟩
        rw [hE.out]
        simp only [Option.getD_some, Option.isSome_some]
        have hR4 := hR3.below hb4 hR3.lt
        have hB4 := hB3.trans (hb4.mono hB3.size)
        clear hR3 hB3 hb4 c0 c1 c2
        have c0 := hR4.c0
        have c1 := hR4.c1
        have c2 := hR4.c2
        generalize encT Z = B at *
        go_wp2_with fail
        refine (InterleaveBits_c B N _ hB.out HI2.out hM.out).mono ?_; rintro e w5 ⟨rfl, hb5⟩
        simp only [Option.getD_some, Option.isSome_some]
        have hR5 := hR4.below hb5 hR4.lt
        have hB5 := hB4.trans (hb5.mono hB4.size)
        clear hR4 hB4 hb5 c0 c1 c2
        have c0 := hR5.c0
        have c1 := hR5.c1
        have c2 := hR5.c2
        go_wp2_with fail
        refine (ScrambleBits_c (wvT B N) s t x _).mono ?_; rintro e w6 ⟨rfl, hb6⟩
        rw [HPR.out]
        have hB6 := hB5.trans (hb6.mono hB5.size)
        generalize prR p (N : Int) s t x = r at *
        go_wp2_with fail
        go_ret2
        exact ⟨rfl, hB6⟩
      · have h3' : regB s t x = false := by simpa using h3
        have hr := Lib.hid (prR_no3 (p := p) (n := n) h3')
        clear h3
        go_enter Try.func16, Try.ntmps16
        go_wp2_with fail
        refine (FrameOf_c p _).mono ?_; rintro e w1 ⟨rfl, hb1⟩
        rw [frameR_yes h1]
        simp only [Option.getD_some, Option.isSome_some]
        have hR1 := hR0.below hb1 (by rw [HZ.out]; omega)
        have hB1 := hB0.trans (hb1.mono (by rw [HZ.out]; omega))
        clear hR0 hB0 hb1 c0 c1 c2
        have c0 := hR1.c0
        have c1 := hR1.c1
        have c2 := hR1.c2
        go_wp2_with fail
        refine (rowsValid_c _ _).mono ?_; rintro e w' ⟨rfl, rfl⟩
        rw [h2]
        go_wp2_with fail
        refine (RegisterValid_c _ _ _ _).mono ?_; rintro e w2 ⟨rfl, hb2⟩
        rw [h3']
        have hR2 := hR1.below hb2 hR1.lt
        have hB2 := hB1.trans (hb2.mono hB1.size)
        clear hR1 hB1 hb2 c0 c1 c2
        have c0 := hR2.c0
        have c1 := hR2.c1
        have c2 := hR2.c2
        go_wp2_with fail
        go_ret2
        exact retTB_none hr.out hB2
    · have h2' : inB n 1 40 = false := by simpa using h2
      have hr := Lib.hid (prR_no2 (p := p) (s := s) (t := t) (x := x) h2')
      clear h2
      go_enter Try.func16, Try.ntmps16
      go_wp2_with fail
      refine (FrameOf_c p _).mono ?_; rintro e w1 ⟨rfl, hb1⟩
      rw [frameR_yes h1]
      simp only [Option.getD_some, Option.isSome_some]
      have hR1 := hR0.below hb1 (by rw [HZ.out]; omega)
      have hB1 := hB0.trans (hb1.mono (by rw [HZ.out]; omega))
      clear hR0 hB0 hb1 c0 c1 c2
      have c0 := hR1.c0
      have c1 := hR1.c1
      have c2 := hR1.c2
      go_wp2_with fail
      refine (rowsValid_c _ _).mono ?_; rintro e w' ⟨rfl, rfl⟩
      rw [h2']
      go_wp2_with fail
      go_ret2
      exact retTB_none hr.out hB1
  · have h1' : payB p = false := by simpa using h1
    have hr := Lib.hid (prR_no1 (n := n) (s := s) (t := t) (x := x) h1')
    clear h1
    go_enter Try.func16, Try.ntmps16
    go_wp2_with fail
    refine (FrameOf_c p _).mono ?_; rintro e w1 ⟨rfl, hb1⟩
    rw [frameR_no h1']
    simp only [Option.getD_none, Option.isSome_none]
    have hR1 := hR0.below hb1 (by rw [HZ.out]; omega)
    have hB1 := hB0.trans (hb1.mono (by rw [HZ.out]; omega))
    clear hR0 hB0 hb1 c0 c1 c2
    have c0 := hR1.c0
    have c1 := hR1.c1
    have c2 := hR1.c2
    go_wp2_with fail
    go_ret2
    exact retTB_none hr.out hB1

set_option maxRecDepth 100000 in
set_option maxHeartbeats 1600000 in
theorem sProtectPayload_c (p : ByteArray) (n s t x : Int) (w : World) (hs : p.size ≤ 1099511627776) : Calls Try.prog 17 #[.string p, .int .i64 n, .agg #[.int .i64 s, .int .i64 t, .int .i64 x]] w (RetTB w (prR p n s t x)) := by
  have hR0 := regAt_one w s t x
  have hB0 : Below w.heap.size w (w.alloc (.cells #[.int .i64 s, .int .i64 t, .int .i64 x] 42)) := (Below.refl _ _).alloc (Nat.le_refl _) _
  have HZ := Lib.hid (show (w.alloc (.cells #[.int .i64 s, .int .i64 t, .int .i64 x] 42)).heap.size = w.heap.size + 1 by simp)
  have c0 := hR0.c0
  have c1 := hR0.c1
  have c2 := hR0.c2
  by_cases h1 : payB p = true
  · by_cases h2 : inB n 1 40 = true
    · by_cases h3 : regB s t x = true
      · obtain ⟨N, rfl, hN1, hN4⟩ := inB_40 h2
        have hP := prot_all h1 hN1 hN4
        have HPR := Lib.hid (prR_some h1 h2 h3 hP)
        have hFz := frame_size p
        have hp1 := (payB_is h1).1
        have hF9 : (frameT p).size ≤ 123 := by omega
        have HMD := Lib.hid (pad_emod (L := (frameT p).size) (n := 4 * N) (by omega))
        have hz0 := padN_lt (L := (frameT p).size) (n := 4 * N) (by omega)
        have HPT := Lib.hid (show padT (frameT p) (4 * N) = frameT p ++ manyT 48 (padN (frameT p).size (4 * N)) from rfl)
        go_enter Try.func17, Try.ntmps17
        go_wp2_with fail
        refine (sFrameOf_c p _ hs).mono ?_; rintro e w1 ⟨rfl, hb1⟩
        rw [frameR_yes h1]
        simp only [Option.getD_some, Option.isSome_some]
        have hR1 := hR0.below hb1 (by rw [HZ.out]; omega)
        have hB1 := hB0.trans (hb1.mono (by rw [HZ.out]; omega))
        clear hR0 hB0 hb1 c0 c1 c2
        have c0 := hR1.c0
        have c1 := hR1.c1
        have c2 := hR1.c2
        go_wp2_with fail
        refine (l1In_c _ _ _ _).mono ?_; rintro e w' ⟨rfl, rfl⟩
        rw [h2]
        go_wp2_with fail
        refine (sRegisterValid_c _ _ _ _).mono ?_; rintro e w2 ⟨rfl, hb2⟩
        rw [h3]
        have hR2 := hR1.below hb2 hR1.lt
        have hB2 := hB1.trans (hb2.mono hB1.size)
        clear hR1 hB1 hb2 c0 c1 c2
        have c0 := hR2.c0
        have c1 := hR2.c1
        have c2 := hR2.c2
        clear h1 h2 h3 hFz
        have hB := Lib.hid hP.out
        have hE := Lib.hid hP.enc
        have hM := Lib.hid (mod_of hP.rows)
        have hT := hP.top
        have hT0 := hP.pos
        have hL := hP.le
        have hBZ := Lib.hid hP.bits
        clear hP
        obtain ⟨Z, hZ⟩ : ∃ Z, Z = padT (frameT p) (4 * N) := ⟨_, rfl⟩
        rw [← hZ] at hB hE hM hT hT0 hL hBZ HPR HPT
        have HZ2 := Lib.hid hZ
        clear hZ
        generalize frameT p = F at *
        obtain ⟨K, hK⟩ : ∃ K, K = 4 * N := ⟨_, rfl⟩
        have hKI : 4 * (N : Int) = (K : Int) := by rw [hK]; rfl
        have hK9 : K ≤ 160 := by omega
        have hK0 : 0 < K := by omega
        have hNK : 4 * (N : Nat) = K := hK.symm
        rw [← hK] at HMD hz0 HPT HZ2
        clear hK hNK
        have kw1 := wr_nat hKI (by omega)
        have kw2 := wr64_nat hKI (by omega)
        obtain ⟨z, hz⟩ : ∃ z, z = padN F.size K := ⟨_, rfl⟩
        rw [← hz] at HMD hz0 HPT
        clear hz
        go_wp2_with fail
        refine (l6Padded_c F K _ hK0 (by omega) (by omega)).mono ?_; rintro e w' ⟨rfl, rfl⟩
        rw [← HZ2.out]
        clear hKI kw1 kw2
        go_wp2_with fail
        refine (sHammingEncode_c Z _ (by omega)).mono ?_; rintro e w4 ⟨rfl, hb4⟩
        rw [hE.out]
        simp only [Option.getD_some, Option.isSome_some]
        have hR4 := hR2.below hb4 hR2.lt
        have hB4 := hB2.trans (hb4.mono hB2.size)
        clear hR2 hB2 hb4 c0 c1 c2
        have c0 := hR4.c0
        have c1 := hR4.c1
        have c2 := hR4.c2
        generalize encT Z = B at *
        have hne : ¬ B.toList = [] := by
          intro h
          rw [Lib.toList_data] at h
          have h9 := congrArg List.length h
          rw [sz_list] at h9
          rw [h9] at hT0
          exact absurd hT0 (by decide)
        have hne2 : B.toList.isEmpty = false := by simpa using hne
        have HCR := Lib.hid (Nat.div_mul_cancel (Nat.dvd_of_mod_eq_zero hM.out))
        have HWV := Lib.hid (show text (wvL B N (B.size / N)) = wvT B N from rfl)
        go_wp2_with fail
        have hwz : (wvT B N).size ≤ 600 := by rw [wv_size]; exact hT
        have hR4d : RegAt w4.drew w.heap.size s t x := hR4
        have hB4d := hB4.drew
        have C0 : w4.drew.cell? ⟨w.heap.size, 0, none⟩ = some (.int .i64 s) ∧ w4.drew.cell? ⟨w.heap.size, 1, none⟩ = some (.int .i64 t) ∧ w4.drew.cell? ⟨w.heap.size, 2, none⟩ = some (.int .i64 x) := ⟨hR4d.c0, hR4d.c1, hR4d.c2⟩
        clear c0 c1 c2 hR4 hB4
        go_region_held3 (fun w' => w'.cell? ⟨w.heap.size, 0, none⟩ = some (.int .i64 s) ∧ w'.cell? ⟨w.heap.size, 1, none⟩ = some (.int .i64 t) ∧ w'.cell? ⟨w.heap.size, 2, none⟩ = some (.int .i64 x)) (first | with_reducible exact C0 | with_reducible exact C1 | with_reducible exact C2) (first | (go_at_call 60; refine (l6Weave_c B N (B.size / N) _ HCR.out hN1 hN4 hT).mono ?_; rintro e w5 ⟨rfl, hb5⟩; rw [HWV.out]; have hR5 := hR4d.below hb5 hR4d.lt; have hB5 := hB4d.trans (hb5.mono hB4d.size); have C1 := And.intro hR5.c0 (And.intro hR5.c1 hR5.c2)) | (go_at_call 59; refine (sScrambleBits_c (wvT B N) s t x _ (by omega)).mono ?_; rintro e w6 ⟨rfl, hb6⟩; rw [HPR.out]; have hB6 := hB5.trans (hb6.mono hB5.size); have hR6 := hR5.below hb6 hR5.lt; have C2 := And.intro hR6.c0 (And.intro hR6.c1 hR6.c2)))
        all_goals
          generalize prR p (N : Int) s t x = r at *
          go_wp2_with fail
          go_ret2
          exact ⟨rfl, hB6⟩
      · have h3' : regB s t x = false := by simpa using h3
        have hr := Lib.hid (prR_no3 (p := p) (n := n) h3')
        clear h3
        go_enter Try.func17, Try.ntmps17
        go_wp2_with fail
        refine (sFrameOf_c p _ hs).mono ?_; rintro e w1 ⟨rfl, hb1⟩
        rw [frameR_yes h1]
        simp only [Option.getD_some, Option.isSome_some]
        have hR1 := hR0.below hb1 (by rw [HZ.out]; omega)
        have hB1 := hB0.trans (hb1.mono (by rw [HZ.out]; omega))
        clear hR0 hB0 hb1 c0 c1 c2
        have c0 := hR1.c0
        have c1 := hR1.c1
        have c2 := hR1.c2
        go_wp2_with fail
        refine (l1In_c _ _ _ _).mono ?_; rintro e w' ⟨rfl, rfl⟩
        rw [h2]
        go_wp2_with fail
        refine (sRegisterValid_c _ _ _ _).mono ?_; rintro e w2 ⟨rfl, hb2⟩
        rw [h3']
        have hR2 := hR1.below hb2 hR1.lt
        have hB2 := hB1.trans (hb2.mono hB1.size)
        clear hR1 hB1 hb2 c0 c1 c2
        have c0 := hR2.c0
        have c1 := hR2.c1
        have c2 := hR2.c2
        go_wp2_with fail
        go_ret2
        exact retTB_none hr.out hB2
    · have h2' : inB n 1 40 = false := by simpa using h2
      have hr := Lib.hid (prR_no2 (p := p) (s := s) (t := t) (x := x) h2')
      clear h2
      go_enter Try.func17, Try.ntmps17
      go_wp2_with fail
      refine (sFrameOf_c p _ hs).mono ?_; rintro e w1 ⟨rfl, hb1⟩
      rw [frameR_yes h1]
      simp only [Option.getD_some, Option.isSome_some]
      have hR1 := hR0.below hb1 (by rw [HZ.out]; omega)
      have hB1 := hB0.trans (hb1.mono (by rw [HZ.out]; omega))
      clear hR0 hB0 hb1 c0 c1 c2
      have c0 := hR1.c0
      have c1 := hR1.c1
      have c2 := hR1.c2
      go_wp2_with fail
      refine (l1In_c _ _ _ _).mono ?_; rintro e w' ⟨rfl, rfl⟩
      rw [h2']
      go_wp2_with fail
      go_ret2
      exact retTB_none hr.out hB1
  · have h1' : payB p = false := by simpa using h1
    have hr := Lib.hid (prR_no1 (n := n) (s := s) (t := t) (x := x) h1')
    clear h1
    go_enter Try.func17, Try.ntmps17
    go_wp2_with fail
    refine (sFrameOf_c p _ hs).mono ?_; rintro e w1 ⟨rfl, hb1⟩
    rw [frameR_no h1']
    simp only [Option.getD_none, Option.isSome_none]
    have hR1 := hR0.below hb1 (by rw [HZ.out]; omega)
    have hB1 := hB0.trans (hb1.mono (by rw [HZ.out]; omega))
    clear hR0 hB0 hb1 c0 c1 c2
    have c0 := hR1.c0
    have c1 := hR1.c1
    have c2 := hR1.c2
    go_wp2_with fail
    go_ret2
    exact retTB_none hr.out hB1

end Go.Proofs.Ytadcckjlcmnhbaa
