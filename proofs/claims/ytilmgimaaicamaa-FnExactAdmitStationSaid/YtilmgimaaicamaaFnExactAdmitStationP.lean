/- The law FnExactAdmitStation holds for every input that the given row lets in: the program's answer is the reference's. No condition of its own. -/
import Derived.Test.YtilmgimaaicamaaRows
import Derived.WalkKit
import Derived.ProofKit
import Derived.OpenShut
import Derived.ShutString
import Derived.ChangeOld
import Derived.Below
import Derived.Lib.SmallJoins
import Derived.Test.YtilmgimaaicamaaRl
import Derived.Test.YtilmgimaaicamaaMk
import Derived.Test.YtilmgimaaicamaaFs
import Derived.Test.YtilmgimaaicamaaAn
import Derived.Test.YtilmgimaaicamaaAm
namespace Go.Proofs.Ytilmgimaaicamaa.fnExactAdmitStation
open Go.ChangeShapes Go.WideShapes Go.ChangeAt Go.RowKit
open Go.ChangeMaps (open_string shut_string)
set_option linter.unusedVariables false

theorem own : ownKnob Try.prog.godebug = none := by kernel_rfl
theorem laidOut : laidOutB Try.prog = true := by kernel_rfl

/-- A slice of integers that came in: nil, or a row of 'cap' cells that hold the numbers zs. -/
def IsRow (k : IntKind) (w : World) (a : Option Addr) (len cap : Nat) (zs : List Int) : Prop :=
  (a = none ∧ len = 0 ∧ cap = 0 ∧ zs = []) ∨
  ∃ x, a = some x ∧ len ≤ cap ∧ cap ≤ maxLen ∧ zs.length = cap ∧ (∀ i, i < zs.length → w.cell? (x.add i) = some (.int k (zs.getD i 0))) ∧ ∀ n ∈ zs, (Lit.int k n).wf = true

set_option maxHeartbeats 4000000 in
theorem walk (a0 : Option Addr) (len0 cap0 : Nat) (z0 : List Stn) (a1 : ByteArray) (a2 : Int) (a3 : Int) (w : World) (w0 : IsStns w a0 len0 cap0 z0) (w1 : a1.size ≤ maxLen) (w2 : (Lit.int .i64 a2).wf = true) (w3 : (Lit.int .i64 a3).wf = true) :
    Calls Try.prog 9 #[.slice a0 len0 cap0, .string a1, .int .i64 a2, .int .i64 a3] w fun e w' => e = .returned (.bool true) ∧ Below w.heap.size w w' := by
  have hcm : len0 ≤ maxLen := by
    rcases w0 with ⟨_, h1, _⟩ | ⟨x, _, h1, h2, _⟩
    · rw [h1]; exact Nat.zero_le _
    · exact Nat.le_trans h1 h2
  by_cases hnm : a1.size ≤ 1048576
  · by_cases hnH : len0 ≤ 1048576
    · obtain ⟨hH0, hSm, hcap⟩ := rdS_of w0 (by omega)
      clear w0 hcap hcm
      by_cases hsz : ((z0.take len0).length : Int) + szL (z0.take len0) ≤ 1048576
      · have hr := Lib.hid (szR_yes hsz)
        have hnn : ¬ (1048576 : Int) - ((z0.take len0).length : Int) - szL (z0.take len0) < 0 := by omega
        have HB : ∀ i (h : i < (z0.take len0).length), ((z0.take len0)[i]'h).nm.size ≤ 1099511627776 ∧ ((z0.take len0)[i]'h).ph.size ≤ 1099511627776 := by
          intro i h
          have := szL_mem (z0.take len0) (List.getElem_mem h)
          omega
        generalize z0.take len0 = l at *
        have HBH := Lib.hid HB; clear HB
        clear hsz
        go_enter Try.func9, Try.ntmps9
        go_wp2_with fail
        refine (szStationS_c hH0 hSm 1048576 (by omega) (by omega)).mono ?_; rintro e w1 ⟨rfl, hb1⟩
        have hz1 := hb1.size
        have hH1 := hH0.below hb1
        clear hH0
        have hBase1 : Below w.heap.size w w1 := (hb1.mono (by omega))
        clear hb1
        rw [hr.out]
        go_wp2_with fail
        refine (toStationS_c hH1).mono ?_; rintro e w2 ⟨aS, nS, cS, rfl, hS2, hb2⟩
        have lt_H_S := hH1.lt
        have hz2 := hb2.size
        have hH2 := hH1.below hb2
        clear hH1
        have hBase2 := hBase1.trans (hb2.mono (by omega))
        clear hBase1
        clear hb2
        have s_S := hS2.2.1
        go_wp2_with fail
        refine (sAdmitStation_c _ _ _ hS2.rd hS2.cap'.2 (by omega) HBH.out).mono ?_; rintro e w3 ⟨aRW, nRW, cRW, rfl, hRW3, hb3⟩
        have lt_H_RW := hH2.lt
        have lt_S_RW := hS2.below'
        have hz3 := hb3.size
        have hH3 := hH2.below hb3
        clear hH2
        have hS3 := hS2.below hb3
        clear hS2
        have hBase3 := hBase2.trans (hb3.mono (by omega))
        clear hBase2
        clear hb3
        have s_RW := hRW3.2.1
        clear hS3
        go_wp2_with fail
        refine (toStationS_c hH3).mono ?_; rintro e w4 ⟨aX, nX, cX, rfl, hX4, hb4⟩
        have lt_H_X := hH3.lt
        have lt_RW_X := hRW3.below'
        have hz4 := hb4.size
        have hH4 := hH3.below hb4
        clear hH3
        have hRW4 := hRW3.below hb4
        clear hRW3
        have hBase4 := hBase3.trans (hb4.mono (by omega))
        clear hBase3
        clear hb4
        have s_X := hX4.2.1
        go_wp2_with fail
        refine (AdmitStation_c _ _ _ hX4.rd hX4.cap).mono ?_; rintro e w5 ⟨aRG, nRG, cRG, rfl, hRG5, hb5⟩
        have lt_H_RG := hH4.lt
        have lt_RW_RG := hRW4.below'
        have lt_X_RG := hX4.below'
        have hz5 := hb5.size
        have hH5 := hH4.below hb5
        clear hH4
        have hRW5 := hRW4.below hb5
        clear hRW4
        have hX5 := hX4.below hb5
        clear hX4
        have hBase5 := hBase4.trans (hb5.mono (by omega))
        clear hBase4
        clear hb5
        have s_RG := hRG5.2.1
        go_wp2_with fail
        refine (eqStationS_same hRG5.rd hRW5.rd).mono ?_; rintro e w6 ⟨rfl, hb6⟩
        have hz6 := hb6.size
        have hH6 := hH5.below hb6
        clear hH5
        have hRW6 := hRW5.below hb6
        clear hRW5
        have hX6 := hX5.below hb6
        clear hX5
        have hRG6 := hRG5.below hb6
        clear hRG5
        have hBase6 := hBase5.trans (hb6.mono (by omega))
        clear hBase5
        clear hb6
        go_wp2_with fail
        refine (toStationS_c hH6).mono ?_; rintro e w7 ⟨aC, nC, cC, rfl, hC7, hb7⟩
        have lt_H_C := hH6.lt
        have lt_RW_C := hRW6.below'
        have lt_X_C := hX6.below'
        have lt_RG_C := hRG6.below'
        have hz7 := hb7.size
        have hH7 := hH6.below hb7
        clear hH6
        have hRW7 := hRW6.below hb7
        clear hRW6
        have hX7 := hX6.below hb7
        clear hX6
        have hRG7 := hRG6.below hb7
        clear hRG6
        have hBase7 := hBase6.trans (hb7.mono (by omega))
        clear hBase6
        clear hb7
        have s_C := hC7.2.1
        go_wp2_with fail
        refine (eqStationS_same hX7.rd hC7.rd).mono ?_; rintro e w8 ⟨rfl, hb8⟩
        have hz8 := hb8.size
        have hH8 := hH7.below hb8
        clear hH7
        have hRW8 := hRW7.below hb8
        clear hRW7
        have hX8 := hX7.below hb8
        clear hX7
        have hRG8 := hRG7.below hb8
        clear hRG7
        have hC8 := hC7.below hb8
        clear hC7
        have hBase8 := hBase7.trans (hb8.mono (by omega))
        clear hBase7
        clear hb8
        clear hC8
        go_wp2_with fail
        refine (markStationS_c (1) hX8 (by omega) (by omega)).mono ?_; rintro e w9 ⟨rfl, hX9, hw9⟩
        have hH9 := hH8.wr hX8 hw9 lt_H_X
        clear hH8
        have hRW9 := hRW8.wrNew hX8 hw9 lt_RW_X
        clear hRW8
        have hRG9 := hRG8.wrOld hX8 hw9 lt_X_RG
        clear hRG8
        have hz9 := hw9.size
        have hBase9 := hBase8.trans ((hw9.belowS hX8 (by omega)).mono (by omega))
        clear hBase8
        clear hX8 hw9
        go_wp2_with fail
        refine (eqStationS_same hRG9.rd hRW9.rd).mono ?_; rintro e w10 ⟨rfl, hb10⟩
        have hz10 := hb10.size
        have hH10 := hH9.below hb10
        clear hH9
        have hRW10 := hRW9.below hb10
        clear hRW9
        have hX10 := hX9.below hb10
        clear hX9
        have hRG10 := hRG9.below hb10
        clear hRG9
        have hBase10 := hBase9.trans (hb10.mono (by omega))
        clear hBase9
        clear hb10
        clear hX10
        go_wp2_with fail
        refine (markStationS_c (1) hRG10 (by omega) (by omega)).mono ?_; rintro e w11 ⟨rfl, hRG11, hw11⟩
        have hH11 := hH10.wr hRG10 hw11 lt_H_RG
        clear hH10
        have hRW11 := hRW10.wrNew hRG10 hw11 lt_RW_RG
        clear hRW10
        have hz11 := hw11.size
        have hBase11 := hBase10.trans ((hw11.belowS hRG10 (by omega)).mono (by omega))
        clear hBase10
        clear hRG10 hw11
        go_wp2_with fail
        refine (heldStationS_c (1) hRG11.rd (by omega) (by omega)).mono ?_; rintro e w12 ⟨rfl, hb12⟩
        have hz12 := hb12.size
        have hH12 := hH11.below hb12
        clear hH11
        have hRW12 := hRW11.below hb12
        clear hRW11
        have hRG12 := hRG11.below hb12
        clear hRG11
        have hBase12 := hBase11.trans (hb12.mono (by omega))
        clear hBase11
        clear hb12
        go_wp2_with fail
        refine (toStationS_c hH12).mono ?_; rintro e w13 ⟨aY, nY, cY, rfl, hY13, hb13⟩
        have lt_H_Y := hH12.lt
        have lt_RW_Y := hRW12.below'
        have lt_RG_Y := hRG12.below'
        have hz13 := hb13.size
        have hH13 := hH12.below hb13
        clear hH12
        have hRW13 := hRW12.below hb13
        clear hRW12
        have hRG13 := hRG12.below hb13
        clear hRG12
        have hBase13 := hBase12.trans (hb13.mono (by omega))
        clear hBase12
        clear hb13
        have s_Y := hY13.2.1
        go_wp2_with fail
        refine (AdmitStation_c _ _ _ hY13.rd hY13.cap).mono ?_; rintro e w14 ⟨aRH, nRH, cRH, rfl, hRH14, hb14⟩
        have lt_H_RH := hH13.lt
        have lt_RW_RH := hRW13.below'
        have lt_RG_RH := hRG13.below'
        have lt_Y_RH := hY13.below'
        have hz14 := hb14.size
        have hH14 := hH13.below hb14
        clear hH13
        have hRW14 := hRW13.below hb14
        clear hRW13
        have hRG14 := hRG13.below hb14
        clear hRG13
        have hY14 := hY13.below hb14
        clear hY13
        have hBase14 := hBase13.trans (hb14.mono (by omega))
        clear hBase13
        clear hb14
        have s_RH := hRH14.2.1
        clear hY14
        go_wp2_with fail
        refine (eqStationS_same hRH14.rd hRW14.rd).mono ?_; rintro e w15 ⟨rfl, hb15⟩
        have hz15 := hb15.size
        have hH15 := hH14.below hb15
        clear hH14
        have hRW15 := hRW14.below hb15
        clear hRW14
        have hRG15 := hRG14.below hb15
        clear hRG14
        have hRH15 := hRH14.below hb15
        clear hRH14
        have hBase15 := hBase14.trans (hb15.mono (by omega))
        clear hBase14
        clear hb15
        go_wp2_with fail
        refine (heldStationS_c (1) hRG15.rd (by omega) (by omega)).mono ?_; rintro e w16 ⟨rfl, hb16⟩
        have hz16 := hb16.size
        have hH16 := hH15.below hb16
        clear hH15
        have hRW16 := hRW15.below hb16
        clear hRW15
        have hRG16 := hRG15.below hb16
        clear hRG15
        have hRH16 := hRH15.below hb16
        clear hRH15
        have hBase16 := hBase15.trans (hb16.mono (by omega))
        clear hBase15
        clear hb16
        go_wp2_with fail
        go_ret
        exact ⟨rfl, hBase16⟩
      · have hr := Lib.hid (szR_no (l := z0.take len0) (left := 1048576) (by omega))
        generalize z0.take len0 = l at *
        clear hsz
        go_enter Try.func9, Try.ntmps9
        go_wp2_with fail
        refine (szStationS_c hH0 hSm 1048576 (by omega) (by omega)).mono ?_; rintro e w1 ⟨rfl, hb1⟩
        rw [hr.out]
        clear hH0
        go_wp2_with fail
        go_ret
        exact ⟨rfl, hb1⟩
    · clear w0
      go_enter Try.func9, Try.ntmps9
      go_wp2_with fail
      refine (szStationS_long 1048576 (by omega) (by omega) hcm).mono ?_; rintro e w1 ⟨rfl, rfl⟩
      go_wp2_with fail
      go_ret
      exact ⟨rfl, Below.refl _ _⟩
  · have hnm' : (1048576 : Int) < (a1.size : Int) := by omega
    go_enter Try.func9, Try.ntmps9
    go_wp2_with fail
    go_ret
    exact ⟨rfl, Below.refl _ _⟩

set_option maxRecDepth 100000 in
theorem lifted (os : Os) (started : os.Started) (H : Type) (enc : TypeId × Value → H) :
    ReturnsInHanded {} Try.checked os 9 .any (Rows.fnExactAdmitStationSpec.pre6 enc Try.prog Try.f9 Rows.fnExactAdmitStationRow.domain false) (Rows.fnExactAdmitStationSpec.post enc Try.prog Try.f9 false true false false) := by
  refine returnsInHanded_of_change (C := Try.checked) own started (by kernel_rfl) Try.func9
    (ChangeSpec.witness6 (enc := enc) (C := Try.checked) false ⟨#[], #[.slice none 0 0, .string ByteArray.empty, .int .i64 0, .int .i64 0], []⟩ 8 (by kernel_rfl) (by kernel_rfl) (by kernel_rfl) (by kernel_rfl)) ?_
  intro W base args ds gs before hval0 hW hcnd _
  have hval : ∀ (j : Nat) t v, Try.f9.params[j]? = some t → args[j]? = some v → Value.okWide Try.prog W .any base t v := hval0
  have hW' := hW
  obtain ⟨p, q, hA0, hV, rfl, hfz, hnd⟩ := hW
  have hA : DataW.TrodAll enc Try.prog W 0 (fun _ => true) true Try.f9.params.toList args.toList ds p := hA0
  rw [Try.params9] at hA hval
  obtain ⟨v0, vs0, d0, ds0, p0, q0, hargs, rfl, rfl, h0, r0⟩ := trodAll_cons hA
  obtain ⟨v1, vs1, d1, ds1, p1, q1, rfl, rfl, rfl, h1, r1⟩ := trodAll_cons r0
  obtain ⟨v2, vs2, d2, ds2, p2, q2, rfl, rfl, rfl, h2, r2⟩ := trodAll_cons r1
  obtain ⟨v3, vs3, d3, ds3, p3, q3, rfl, rfl, rfl, h3, r3⟩ := trodAll_cons r2
  obtain ⟨rfl, rfl, rfl⟩ := trodAll_nil r3
  obtain rfl : args = #[v0, v1, v2, v3] := by cases args; simp_all
  obtain ⟨rfl, rfl⟩ := trodVars_none hV
  have k0 := h0
  have lt0 : ∀ x ∈ p0, x.block < W.heap.size := by obtain ⟨m, hm⟩ := k0; exact DataW.trod_lt m _ _ _ hm
  have k1 := h1
  have lt1 : ∀ x ∈ p1, x.block < W.heap.size := by obtain ⟨m, hm⟩ := k1; exact DataW.trod_lt m _ _ _ hm
  have k2 := h2
  have lt2 : ∀ x ∈ p2, x.block < W.heap.size := by obtain ⟨m, hm⟩ := k2; exact DataW.trod_lt m _ _ _ hm
  have k3 := h3
  have lt3 : ∀ x ∈ p3, x.block < W.heap.size := by obtain ⟨m, hm⟩ := k3; exact DataW.trod_lt m _ _ _ hm
  obtain ⟨a0, len0, cap0, rfl⟩ := okWide_slice Try.underlying31 (hval 0 31 v0 rfl rfl)
  obtain ⟨z0, w0⟩ : ∃ zs, IsStns W a0 len0 cap0 zs := by
    obtain ⟨fuel, hf⟩ := h0
    exact open_stns Try.underlying31 Try.underlying23 (by kernel_rfl) (by kernel_rfl) Try.underlying9 Try.underlying9 Try.underlying3 Try.underlying3 hf
  obtain ⟨a1, rfl, rfl, rfl, w1⟩ := open_string Try.underlying9 (hval 1 9 v1 rfl rfl) h1
  obtain ⟨a2, rfl, rfl, rfl, w2⟩ := open_int Try.underlying3 (hval 2 3 v2 rfl rfl) h2
  obtain ⟨a3, rfl, rfl, rfl, w3⟩ := open_int Try.underlying3 (hval 3 3 v3 rfl rfl) h3
  clear hA0 hval0
  refine (walk a0 len0 cap0 z0 a1 a2 a3 W w0 w1 w2 w3).mono fun e W' ⟨he, bel⟩ => ?_
  subst he
  exact ⟨_, rfl, _, _, _, [], _, [], hW', trodAll_mk1 (shut_bool Try.underlying4 _), (trodAll_cons_mk (Below.trod laidOut (by kernel_rfl) (of_decide_eq_true (by kernel_rfl)) k0 bel lt0) (trodAll_cons_mk (Below.trod laidOut (by kernel_rfl) (of_decide_eq_true (by kernel_rfl)) k1 bel lt1) (trodAll_cons_mk (Below.trod laidOut (by kernel_rfl) (of_decide_eq_true (by kernel_rfl)) k2 bel lt2) (trodAll_cons_mk (Below.trod laidOut (by kernel_rfl) (of_decide_eq_true (by kernel_rfl)) k3 bel lt3) trodAll_mk0)))), rfl, bel.frame _, fun h => by cases h⟩

theorem over : Rows.fnExactAdmitStationRow.holds Try.pinned (OpenSpec.ofChange Rows.fnExactAdmitStationSpec) :=
  OpenClaim.holds_of_wide 9 Try.f9 rfl rfl rfl rfl rfl rfl rfl ⟨rfl, rfl, rfl, rfl, rfl⟩ rfl rfl rfl rfl rfl (by kernel_rfl) Try.func9 (by kernel_rfl)
    (of_decide_eq_true (by kernel_rfl)) (by unfold Func.isWrapper; first | (rw [if_pos (by decide +kernel)]; kernel_rfl) | (rw [if_neg (by decide +kernel)]; exact ⟨rfl, rfl⟩))
    (fun os started H enc _ => lifted os started H enc)

theorem proved : Rows.FnExactAdmitStationSaid := over
#print axioms proved
end Go.Proofs.Ytilmgimaaicamaa.fnExactAdmitStation
