/- The law FnExactCellSignal holds for every input that the given row lets in: the program's answer is the reference's. No condition of its own. -/
import Derived.Test.YtfeocobkclcnfaaRows
import Derived.WalkKit
import Derived.ProofKit
import Derived.OpenShut
import Derived.ShutString
import Derived.ChangeOld
import Derived.Below
import Derived.Lib.SmallJoins
import Derived.Test.YtfeocobkclcnfaaNf
import Derived.Test.YtfeocobkclcnfaaNg
import Derived.Test.YtfeocobkclcnfaaFs
namespace Go.Proofs.Ytfeocobkclcnfaa.fnExactCellSignal
open Go.ChangeShapes Go.WideShapes Go.ChangeAt Go.RowKit
open Go.ChangeMaps (open_string shut_string)
set_option linter.unusedVariables false

theorem own : ownKnob Try.prog.godebug = none := by kernel_rfl
theorem laidOut : laidOutB Try.prog = true := by kernel_rfl

/-- A slice of integers that came in: nil, or a row of 'cap' cells that hold the numbers zs. -/
def IsRow (k : IntKind) (w : World) (a : Option Addr) (len cap : Nat) (zs : List Int) : Prop :=
  (a = none ∧ len = 0 ∧ cap = 0 ∧ zs = []) ∨
  ∃ x, a = some x ∧ len ≤ cap ∧ cap ≤ maxLen ∧ zs.length = cap ∧ (∀ i, i < zs.length → w.cell? (x.add i) = some (.int k (zs.getD i 0))) ∧ ∀ n ∈ zs, (Lit.int k n).wf = true

/-- A slice of strings that came in. -/
def IsStrs (w : World) (a : Option Addr) (len cap : Nat) (zs : List ByteArray) : Prop :=
  (a = none ∧ len = 0 ∧ cap = 0 ∧ zs = []) ∨
  ∃ x, a = some x ∧ len ≤ cap ∧ cap ≤ maxLen ∧ zs.length = cap ∧ (∀ i, i < zs.length → w.cell? (x.add i) = some (.string (zs.getD i ByteArray.empty))) ∧ ∀ s ∈ zs, s.size ≤ maxLen

theorem rdT_of_strs {w : World} {a : Option Addr} {len cap : Nat} {zs : List ByteArray} (h : IsStrs w a len cap zs) (hl : len ≤ 1099511627776) : RdT w a len (zs.take len) ∧ ∀ s ∈ zs.take len, s.size ≤ maxLen := by
  rcases h with ⟨rfl, rfl, rfl, rfl⟩ | ⟨x, rfl, h1, h2, h3, h4, h5⟩
  · exact ⟨RdF.nil _ _, fun s hs => by simp at hs⟩
  · refine ⟨⟨by rw [List.length_take]; omega, hl, fun i hi => ?_⟩, fun s hs => h5 s (List.mem_of_mem_take hs)⟩
    obtain ⟨b, off, spot⟩ := x
    have hc0 := h4 0 (by rw [List.length_take] at hi; omega)
    have hsp : spot = none := by simpa [Addr.add] using World.cell?_spot hc0
    subst hsp
    refine ⟨b, off, rfl, ?_⟩
    have hi2 : i < zs.length := by rw [List.length_take] at hi; omega
    have e : (zs.take len)[i] = zs.getD i ByteArray.empty := by rw [List.getElem_take, List.getD_eq_getElem?_getD, List.getElem?_eq_getElem hi2, Option.getD_some]
    rw [e, ← h4 i hi2, Addr.add_lit]
set_option maxRecDepth 100000
set_option maxHeartbeats 4000000 in
theorem walk (a0 : Option Addr) (len0 cap0 : Nat) (z0 : List Stn) (a1 : Option Addr) (len1 cap1 : Nat) (z1 : List ByteArray) (w : World) (w0 : IsStns w a0 len0 cap0 z0) (w1 : IsStrs w a1 len1 cap1 z1) :
    Calls Try.prog 3 #[.slice a0 len0 cap0, .slice a1 len1 cap1] w fun e w' => e = .returned (.bool true) ∧ Below w.heap.size w w' := by
  have hcm : len0 ≤ maxLen := by
    rcases w0 with ⟨_, h1, _⟩ | ⟨x, _, h1, h2, _⟩
    · rw [h1]; exact Nat.zero_le _
    · exact Nat.le_trans h1 h2
  have hcm1 : len1 ≤ maxLen := by
    rcases w1 with ⟨_, h1, _⟩ | ⟨x, _, h1, h2, _⟩
    · rw [h1]; exact Nat.zero_le _
    · exact Nat.le_trans h1 h2
  by_cases hnH : len0 ≤ 1048576
  · obtain ⟨hH0, hSm, hcap⟩ := rdS_of w0 (by omega)
    by_cases hsz : ((z0.take len0).length : Int) + szL (z0.take len0) ≤ 1048576
    · have hr := Lib.hid (szR_yes hsz)
      have hnn : ¬ (1048576 : Int) - ((z0.take len0).length : Int) - szL (z0.take len0) < 0 := by omega
      have hLF := szL_nn (z0.take len0)
      obtain ⟨lf, hlf⟩ : ∃ lf, lf = (1048576 : Int) - ((z0.take len0).length : Int) - szL (z0.take len0) := ⟨_, rfl⟩
      have hlf0 : 0 ≤ lf := by omega
      have hlf1 : lf ≤ 1048576 := by omega
      rw [← hlf] at hr hnn
      clear hlf hLF
      have HB : ∀ i (h : i < (z0.take len0).length), ((z0.take len0)[i]'h).nm.size ≤ 1099511627776 ∧ ((z0.take len0)[i]'h).ph.size ≤ 1099511627776 := by
        intro i h
        have := szL_mem (z0.take len0) (List.getElem_mem h)
        omega
      generalize z0.take len0 = l at *
      have HBH := Lib.hid HB; clear HB
      clear hsz w0 hcap hcm
      by_cases hnD : len1 ≤ 1048576
      · obtain ⟨hD0, hbig⟩ := rdT_of_strs w1 (by omega)
        clear w1 hcm1
        generalize z1.take len1 = ds at *
        go_enter Try.func3, Try.ntmps3
        go_wp2_with fail
        refine (szStationS_c hH0 hSm 1048576 (by omega) (by omega)).mono ?_; rintro e w1 ⟨rfl, hb1⟩
        have hz1 := hb1.size
        have hH1 := hH0.below hb1
        clear hH0
        have hD1 := hD0.below hb1
        clear hD0
        have hBase1 : Below w.heap.size w w1 := (hb1.mono (by omega))
        clear hb1
        rw [hr.out]
        go_wp2_with fail
        refine (szStringS_c lf hD1 hbig (by omega) (by omega)).mono ?_; rintro e wz ⟨⟨v, rfl, hv0, hv1, hv⟩, rfl⟩
        by_cases hneg : v < 0
        · go_wp2_with fail
          go_ret
          exact ⟨rfl, hBase1⟩
        · have hsm := (hv (by omega)).2
          have HDS := Lib.hid (show ∀ i (h : i < ds.length), (ds[i]'h).size ≤ 1099511627776 from fun i h => Nat.le_trans (hsm _ (List.getElem_mem h)) (by omega))
          clear hsm hv hbig
          go_wp2_with fail
          refine (toStationS_c hH1).mono ?_; rintro e w2 ⟨aS, nS, cS, rfl, hS2, hb2⟩
          have lt_H_S := hH1.lt
          have lt_D_S := hD1.lt
          have hz2 := hb2.size
          have hH2 := hH1.below hb2
          clear hH1
          have hD2 := hD1.below hb2
          clear hD1
          have hBase2 := hBase1.trans (hb2.mono (by omega))
          clear hBase1
          clear hb2
          have s_S := hS2.2.1
          go_wp2_with fail
          refine (toStringS_c hD2).mono ?_; rintro e w3 ⟨aSD, nSD, cSD, rfl, hSD3, hb3⟩
          have lt_H_SD := hH2.lt
          have lt_D_SD := hD2.lt
          have lt_S_SD := hS2.below'
          have hz3 := hb3.size
          have hH3 := hH2.below hb3
          clear hH2
          have hD3 := hD2.below hb3
          clear hD2
          have hS3 := hS2.below hb3
          clear hS2
          have hBase3 := hBase2.trans (hb3.mono (by omega))
          clear hBase2
          clear hb3
          have s_SD := hSD3.2.1
          go_wp2_with fail
          refine (sCellSignal_c hS3.rd hSD3.rd HBH.out HDS.out).mono ?_; rintro e w4 ⟨aRW, nRW, cRW, rfl, hRW4, hb4⟩
          have lt_H_RW := hH3.lt
          have lt_D_RW := hD3.lt
          have lt_S_RW := hS3.below'
          have lt_SD_RW := hSD3.below'
          have hz4 := hb4.size
          have hH4 := hH3.below hb4
          clear hH3
          have hD4 := hD3.below hb4
          clear hD3
          have hS4 := hS3.below hb4
          clear hS3
          have hSD4 := hSD3.below hb4
          clear hSD3
          have hBase4 := hBase3.trans (hb4.mono (by omega))
          clear hBase3
          clear hb4
          have s_RW := hRW4.2.1
          clear hS4
          clear hSD4
          go_wp2_with fail
          refine (toStationS_c hH4).mono ?_; rintro e w5 ⟨aX, nX, cX, rfl, hX5, hb5⟩
          have lt_H_X := hH4.lt
          have lt_D_X := hD4.lt
          have lt_RW_X := hRW4.below'
          have hz5 := hb5.size
          have hH5 := hH4.below hb5
          clear hH4
          have hD5 := hD4.below hb5
          clear hD4
          have hRW5 := hRW4.below hb5
          clear hRW4
          have hBase5 := hBase4.trans (hb5.mono (by omega))
          clear hBase4
          clear hb5
          have s_X := hX5.2.1
          go_wp2_with fail
          refine (toStringS_c hD5).mono ?_; rintro e w6 ⟨aXD, nXD, cXD, rfl, hXD6, hb6⟩
          have lt_H_XD := hH5.lt
          have lt_D_XD := hD5.lt
          have lt_RW_XD := hRW5.below'
          have lt_X_XD := hX5.below'
          have hz6 := hb6.size
          have hH6 := hH5.below hb6
          clear hH5
          have hD6 := hD5.below hb6
          clear hD5
          have hRW6 := hRW5.below hb6
          clear hRW5
          have hX6 := hX5.below hb6
          clear hX5
          have hBase6 := hBase5.trans (hb6.mono (by omega))
          clear hBase5
          clear hb6
          have s_XD := hXD6.2.1
          go_wp2_with fail
          refine (CellSignal_c hX6.rd hX6.cap hXD6.rd).mono ?_; rintro e w7 ⟨aRG, nRG, cRG, rfl, hRG7, hb7⟩
          have lt_H_RG := hH6.lt
          have lt_D_RG := hD6.lt
          have lt_RW_RG := hRW6.below'
          have lt_X_RG := hX6.below'
          have lt_XD_RG := hXD6.below'
          have hz7 := hb7.size
          have hH7 := hH6.below hb7
          clear hH6
          have hD7 := hD6.below hb7
          clear hD6
          have hRW7 := hRW6.below hb7
          clear hRW6
          have hX7 := hX6.below hb7
          clear hX6
          have hXD7 := hXD6.below hb7
          clear hXD6
          have hBase7 := hBase6.trans (hb7.mono (by omega))
          clear hBase6
          clear hb7
          have s_RG := hRG7.2.1
          go_wp2_with fail
          refine (eqIntS_same hRG7.rd hRW7.rd).mono ?_; rintro e w8 ⟨rfl, hq8⟩
          have hb8 := hq8.below w7.heap.size
          have hz8 := hb8.size
          have hH8 := hH7.below hb8
          clear hH7
          have hD8 := hD7.below hb8
          clear hD7
          have hRW8 := hRW7.below hb8
          clear hRW7
          have hX8 := hX7.below hb8
          clear hX7
          have hXD8 := hXD7.below hb8
          clear hXD7
          have hRG8 := hRG7.below hb8
          clear hRG7
          have hBase8 := hBase7.trans (hb8.mono (by omega))
          clear hBase7
          clear hb8
          go_wp2_with fail
          refine (toStationS_c hH8).mono ?_; rintro e w9 ⟨aC, nC, cC, rfl, hC9, hb9⟩
          have lt_H_C := hH8.lt
          have lt_D_C := hD8.lt
          have lt_RW_C := hRW8.below'
          have lt_X_C := hX8.below'
          have lt_XD_C := hXD8.below'
          have lt_RG_C := hRG8.below'
          have hz9 := hb9.size
          have hH9 := hH8.below hb9
          clear hH8
          have hD9 := hD8.below hb9
          clear hD8
          have hRW9 := hRW8.below hb9
          clear hRW8
          have hX9 := hX8.below hb9
          clear hX8
          have hXD9 := hXD8.below hb9
          clear hXD8
          have hRG9 := hRG8.below hb9
          clear hRG8
          have hBase9 := hBase8.trans (hb9.mono (by omega))
          clear hBase8
          clear hb9
          have s_C := hC9.2.1
          go_wp2_with fail
          refine (eqStationS_same hX9.rd hC9.rd).mono ?_; rintro e w10 ⟨rfl, hb10⟩
          have hz10 := hb10.size
          have hH10 := hH9.below hb10
          clear hH9
          have hD10 := hD9.below hb10
          clear hD9
          have hRW10 := hRW9.below hb10
          clear hRW9
          have hX10 := hX9.below hb10
          clear hX9
          have hXD10 := hXD9.below hb10
          clear hXD9
          have hRG10 := hRG9.below hb10
          clear hRG9
          have hC10 := hC9.below hb10
          clear hC9
          have hBase10 := hBase9.trans (hb10.mono (by omega))
          clear hBase9
          clear hb10
          clear hC10
          go_wp2_with fail
          refine (toStringS_c hD10).mono ?_; rintro e w11 ⟨aCD, nCD, cCD, rfl, hCD11, hb11⟩
          have lt_H_CD := hH10.lt
          have lt_D_CD := hD10.lt
          have lt_RW_CD := hRW10.below'
          have lt_X_CD := hX10.below'
          have lt_XD_CD := hXD10.below'
          have lt_RG_CD := hRG10.below'
          have hz11 := hb11.size
          have hH11 := hH10.below hb11
          clear hH10
          have hD11 := hD10.below hb11
          clear hD10
          have hRW11 := hRW10.below hb11
          clear hRW10
          have hX11 := hX10.below hb11
          clear hX10
          have hXD11 := hXD10.below hb11
          clear hXD10
          have hRG11 := hRG10.below hb11
          clear hRG10
          have hBase11 := hBase10.trans (hb11.mono (by omega))
          clear hBase10
          clear hb11
          have s_CD := hCD11.2.1
          go_wp2_with fail
          refine (eqStringS_same hXD11.rd hCD11.rd).mono ?_; rintro e w12 ⟨rfl, hq12⟩
          have hb12 := hq12.below w11.heap.size
          have hz12 := hb12.size
          have hH12 := hH11.below hb12
          clear hH11
          have hD12 := hD11.below hb12
          clear hD11
          have hRW12 := hRW11.below hb12
          clear hRW11
          have hX12 := hX11.below hb12
          clear hX11
          have hXD12 := hXD11.below hb12
          clear hXD11
          have hRG12 := hRG11.below hb12
          clear hRG11
          have hCD12 := hCD11.below hb12
          clear hCD11
          have hBase12 := hBase11.trans (hb12.mono (by omega))
          clear hBase11
          clear hb12
          clear hCD12
          have bnX : nX ≤ 1048576 := by have e1 := hX12.1; have e2 := hH12.1; omega
          go_wp2_with fail
          refine (markStationS_c (1) hX12 (by omega) (by omega)).mono ?_; rintro e w13 ⟨rfl, hX13, hw13⟩
          have hH13 := hH12.off hw13 (fun a b ea h0 eb => Nat.ne_of_lt (Nat.lt_of_lt_of_le (lt_H_X a ea h0) (hX12.lt b eb).1))
          clear hH12
          have hD13 := hD12.off hw13 (fun a b ea h0 eb => Nat.ne_of_lt (Nat.lt_of_lt_of_le (lt_D_X a ea h0) (hX12.lt b eb).1))
          clear hD12
          have hRW13 := hRW12.off hw13 (fun a b ea eb => Nat.ne_of_lt (Nat.lt_of_lt_of_le (lt_RW_X a ea) (hX12.lt b eb).1))
          clear hRW12
          have hXD13 := hXD12.off hw13 (fun a b ea eb => Nat.ne_of_gt (Nat.lt_of_lt_of_le (lt_X_XD b eb) (hXD12.lt a ea).1))
          clear hXD12
          have hRG13 := hRG12.off hw13 (fun a b ea eb => Nat.ne_of_gt (Nat.lt_of_lt_of_le (lt_X_RG b eb) (hRG12.lt a ea).1))
          clear hRG12
          have hz13 := hw13.size
          have hBase13 := hBase12.trans ((hw13.low hX12.lt (by omega)).mono (by omega))
          clear hBase12
          clear hX12 hw13
          go_wp2_with fail
          refine (markStringS_c (1 + 4 * nX) hXD13 (by omega) (by omega)).mono ?_; rintro e w14 ⟨rfl, hw14⟩
          have hH14 := hH13.off hw14 (fun a b ea h0 eb => Nat.ne_of_lt (Nat.lt_of_lt_of_le (lt_H_XD a ea h0) (hXD13.lt b eb).1))
          clear hH13
          have hD14 := hD13.off hw14 (fun a b ea h0 eb => Nat.ne_of_lt (Nat.lt_of_lt_of_le (lt_D_XD a ea h0) (hXD13.lt b eb).1))
          clear hD13
          have hRW14 := hRW13.off hw14 (fun a b ea eb => Nat.ne_of_lt (Nat.lt_of_lt_of_le (lt_RW_XD a ea) (hXD13.lt b eb).1))
          clear hRW13
          have hX14 := hX13.off hw14 (fun a b ea eb => Nat.ne_of_lt (Nat.lt_of_lt_of_le (lt_X_XD a ea) (hXD13.lt b eb).1))
          clear hX13
          have hRG14 := hRG13.off hw14 (fun a b ea eb => Nat.ne_of_gt (Nat.lt_of_lt_of_le (lt_XD_RG b eb) (hRG13.lt a ea).1))
          clear hRG13
          have hz14 := hw14.size
          have hBase14 := hBase13.trans ((hw14.low hXD13.lt (by omega)).mono (by omega))
          clear hBase13
          clear hXD13 hw14
          go_wp2_with fail
          refine (eqIntS_same hRG14.rd hRW14.rd).mono ?_; rintro e w15 ⟨rfl, hq15⟩
          have hb15 := hq15.below w14.heap.size
          have hz15 := hb15.size
          have hH15 := hH14.below hb15
          clear hH14
          have hD15 := hD14.below hb15
          clear hD14
          have hRW15 := hRW14.below hb15
          clear hRW14
          have hX15 := hX14.below hb15
          clear hX14
          have hRG15 := hRG14.below hb15
          clear hRG14
          have hBase15 := hBase14.trans (hb15.mono (by omega))
          clear hBase14
          clear hb15
          clear hX15
          go_wp2_with fail
          refine (markIntS_c (1) hRG15 (by omega) (by omega)).mono ?_; rintro e w16 ⟨rfl, hRG16, hw16⟩
          have hH16 := hH15.off hw16 (fun a b ea h0 eb => Nat.ne_of_lt (Nat.lt_of_lt_of_le (lt_H_RG a ea h0) (hRG15.lt b eb).1))
          clear hH15
          have hD16 := hD15.off hw16 (fun a b ea h0 eb => Nat.ne_of_lt (Nat.lt_of_lt_of_le (lt_D_RG a ea h0) (hRG15.lt b eb).1))
          clear hD15
          have hRW16 := hRW15.off hw16 (fun a b ea eb => Nat.ne_of_lt (Nat.lt_of_lt_of_le (lt_RW_RG a ea) (hRG15.lt b eb).1))
          clear hRW15
          have hz16 := hw16.size
          have hBase16 := hBase15.trans ((hw16.low hRG15.lt (by omega)).mono (by omega))
          clear hBase15
          clear hRG15 hw16
          go_wp2_with fail
          refine (heldIntS_c (1) hRG16.rd (by omega) (by omega)).mono ?_; rintro e w' ⟨rfl, rfl⟩
          go_wp2_with fail
          refine (toStationS_c hH16).mono ?_; rintro e w17 ⟨aY, nY, cY, rfl, hY17, hb17⟩
          have lt_H_Y := hH16.lt
          have lt_D_Y := hD16.lt
          have lt_RW_Y := hRW16.below'
          have lt_RG_Y := hRG16.below'
          have hz17 := hb17.size
          have hH17 := hH16.below hb17
          clear hH16
          have hD17 := hD16.below hb17
          clear hD16
          have hRW17 := hRW16.below hb17
          clear hRW16
          have hRG17 := hRG16.below hb17
          clear hRG16
          have hBase17 := hBase16.trans (hb17.mono (by omega))
          clear hBase16
          clear hb17
          have s_Y := hY17.2.1
          go_wp2_with fail
          refine (toStringS_c hD17).mono ?_; rintro e w18 ⟨aYD, nYD, cYD, rfl, hYD18, hb18⟩
          have lt_H_YD := hH17.lt
          have lt_D_YD := hD17.lt
          have lt_RW_YD := hRW17.below'
          have lt_RG_YD := hRG17.below'
          have lt_Y_YD := hY17.below'
          have hz18 := hb18.size
          have hH18 := hH17.below hb18
          clear hH17
          have hD18 := hD17.below hb18
          clear hD17
          have hRW18 := hRW17.below hb18
          clear hRW17
          have hRG18 := hRG17.below hb18
          clear hRG17
          have hY18 := hY17.below hb18
          clear hY17
          have hBase18 := hBase17.trans (hb18.mono (by omega))
          clear hBase17
          clear hb18
          have s_YD := hYD18.2.1
          go_wp2_with fail
          refine (CellSignal_c hY18.rd hY18.cap hYD18.rd).mono ?_; rintro e w19 ⟨aRH, nRH, cRH, rfl, hRH19, hb19⟩
          have lt_H_RH := hH18.lt
          have lt_D_RH := hD18.lt
          have lt_RW_RH := hRW18.below'
          have lt_RG_RH := hRG18.below'
          have lt_Y_RH := hY18.below'
          have lt_YD_RH := hYD18.below'
          have hz19 := hb19.size
          have hH19 := hH18.below hb19
          clear hH18
          have hD19 := hD18.below hb19
          clear hD18
          have hRW19 := hRW18.below hb19
          clear hRW18
          have hRG19 := hRG18.below hb19
          clear hRG18
          have hY19 := hY18.below hb19
          clear hY18
          have hYD19 := hYD18.below hb19
          clear hYD18
          have hBase19 := hBase18.trans (hb19.mono (by omega))
          clear hBase18
          clear hb19
          have s_RH := hRH19.2.1
          clear hY19
          clear hYD19
          go_wp2_with fail
          refine (eqIntS_same hRH19.rd hRW19.rd).mono ?_; rintro e w20 ⟨rfl, hq20⟩
          have hb20 := hq20.below w19.heap.size
          have hz20 := hb20.size
          have hH20 := hH19.below hb20
          clear hH19
          have hD20 := hD19.below hb20
          clear hD19
          have hRW20 := hRW19.below hb20
          clear hRW19
          have hRG20 := hRG19.below hb20
          clear hRG19
          have hRH20 := hRH19.below hb20
          clear hRH19
          have hBase20 := hBase19.trans (hb20.mono (by omega))
          clear hBase19
          clear hb20
          go_wp2_with fail
          refine (heldIntS_c (1) hRG20.rd (by omega) (by omega)).mono ?_; rintro e w' ⟨rfl, rfl⟩
          go_wp2_with fail
          go_ret
          exact ⟨rfl, hBase20⟩
      · have hn' : lf < (len1 : Int) := by omega
        clear w1
        go_enter Try.func3, Try.ntmps3
        go_wp2_with fail
        refine (szStationS_c hH0 hSm 1048576 (by omega) (by omega)).mono ?_; rintro e w1 ⟨rfl, hb1⟩
        rw [hr.out]
        go_wp2_with fail
        refine (szStringS_big lf (by omega) (by omega) (by omega) hcm1).mono ?_; rintro e wz ⟨rfl, rfl⟩
        go_wp2_with fail
        go_ret
        exact ⟨rfl, hb1⟩
    · have hr := Lib.hid (szR_no (l := z0.take len0) (left := 1048576) (by omega))
      generalize z0.take len0 = l at *
      clear hsz w0 w1
      go_enter Try.func3, Try.ntmps3
      go_wp2_with fail
      refine (szStationS_c hH0 hSm 1048576 (by omega) (by omega)).mono ?_; rintro e w1 ⟨rfl, hb1⟩
      rw [hr.out]
      clear hH0
      go_wp2_with fail
      go_ret
      exact ⟨rfl, hb1⟩
  · clear w0 w1
    go_enter Try.func3, Try.ntmps3
    go_wp2_with fail
    refine (szStationS_long 1048576 (by omega) (by omega) hcm).mono ?_; rintro e w1 ⟨rfl, rfl⟩
    go_wp2_with fail
    go_ret
    exact ⟨rfl, Below.refl _ _⟩

set_option maxRecDepth 100000 in
theorem lifted (os : Os) (started : os.Started) (H : Type) (enc : TypeId × Value → H) :
    ReturnsInHanded {} Try.checked os 3 .any (Rows.fnExactCellSignalSpec.pre6 enc Try.prog Try.f3 Rows.fnExactCellSignalRow.domain false) (Rows.fnExactCellSignalSpec.post enc Try.prog Try.f3 false true false false) := by
  refine returnsInHanded_of_change (C := Try.checked) own started (by kernel_rfl) Try.func3
    (ChangeSpec.witness6 (enc := enc) (C := Try.checked) false ⟨#[], #[.slice none 0 0, .slice none 0 0], []⟩ 8 (by kernel_rfl) (by kernel_rfl) (by kernel_rfl) (by kernel_rfl)) ?_
  intro W base args ds gs before hval0 hW hcnd _
  have hval : ∀ (j : Nat) t v, Try.f3.params[j]? = some t → args[j]? = some v → Value.okWide Try.prog W .any base t v := hval0
  have hW' := hW
  obtain ⟨p, q, hA0, hV, rfl, hfz, hnd⟩ := hW
  have hA : DataW.TrodAll enc Try.prog W 0 (fun _ => true) true Try.f3.params.toList args.toList ds p := hA0
  rw [Try.params3] at hA hval
  obtain ⟨v0, vs0, d0, ds0, p0, q0, hargs, rfl, rfl, h0, r0⟩ := trodAll_cons hA
  obtain ⟨v1, vs1, d1, ds1, p1, q1, rfl, rfl, rfl, h1, r1⟩ := trodAll_cons r0
  obtain ⟨rfl, rfl, rfl⟩ := trodAll_nil r1
  obtain rfl : args = #[v0, v1] := by cases args; simp_all
  obtain ⟨rfl, rfl⟩ := trodVars_none hV
  have k0 := h0
  have lt0 : ∀ x ∈ p0, x.block < W.heap.size := by obtain ⟨m, hm⟩ := k0; exact DataW.trod_lt m _ _ _ hm
  have k1 := h1
  have lt1 : ∀ x ∈ p1, x.block < W.heap.size := by obtain ⟨m, hm⟩ := k1; exact DataW.trod_lt m _ _ _ hm
  obtain ⟨a0, len0, cap0, rfl⟩ := okWide_slice Try.underlying22 (hval 0 22 v0 rfl rfl)
  obtain ⟨z0, w0⟩ : ∃ zs, IsStns W a0 len0 cap0 zs := by
    obtain ⟨fuel, hf⟩ := h0
    exact open_stns Try.underlying22 Try.underlying56 (by kernel_rfl) (by kernel_rfl) Try.underlying9 Try.underlying9 Try.underlying3 Try.underlying3 hf
  obtain ⟨a1, len1, cap1, rfl⟩ := okWide_slice Try.underlying23 (hval 1 23 v1 rfl rfl)
  obtain ⟨z1, w1⟩ : ∃ zs, IsStrs W a1 len1 cap1 zs := by
    obtain ⟨fuel, hf⟩ := h1
    rcases open_strings Try.underlying23 Try.underlying9 (by kernel_rfl) hf with ⟨hcs, _⟩ | ⟨x, l, c, zs, hcs, _, hl, hm, hz, _, hcell, hwz⟩
    · simp [Value.cells] at hcs
      obtain ⟨rfl, rfl, rfl⟩ := hcs
      exact ⟨[], .inl ⟨rfl, rfl, rfl, rfl⟩⟩
    · simp [Value.cells] at hcs
      obtain ⟨rfl, rfl, rfl⟩ := hcs
      exact ⟨zs, .inr ⟨_, rfl, hl, hm, by simpa using hz, hcell, hwz⟩⟩
  clear hA0 hval0
  refine (walk a0 len0 cap0 z0 a1 len1 cap1 z1 W w0 w1).mono fun e W' ⟨he, bel⟩ => ?_
  subst he
  exact ⟨_, rfl, _, _, _, [], _, [], hW', trodAll_mk1 (shut_bool Try.underlying4 _), (trodAll_cons_mk (Below.trod laidOut (by kernel_rfl) (of_decide_eq_true (by kernel_rfl)) k0 bel lt0) (trodAll_cons_mk (Below.trod laidOut (by kernel_rfl) (of_decide_eq_true (by kernel_rfl)) k1 bel lt1) trodAll_mk0)), rfl, bel.frame _, fun h => by cases h⟩

theorem over : Rows.fnExactCellSignalRow.holds Try.pinned (OpenSpec.ofChange Rows.fnExactCellSignalSpec) :=
  OpenClaim.holds_of_wide 3 Try.f3 rfl rfl rfl rfl rfl rfl rfl ⟨rfl, rfl, rfl, rfl, rfl⟩ rfl rfl rfl rfl rfl (by kernel_rfl) Try.func3 (by kernel_rfl)
    (of_decide_eq_true (by kernel_rfl)) (by unfold Func.isWrapper; first | (rw [if_pos (by decide +kernel)]; kernel_rfl) | (rw [if_neg (by decide +kernel)]; exact ⟨rfl, rfl⟩))
    (fun os started H enc _ => lifted os started H enc)

theorem proved : Rows.FnExactCellSignalSaid := over
#print axioms proved
end Go.Proofs.Ytfeocobkclcnfaa.fnExactCellSignal
