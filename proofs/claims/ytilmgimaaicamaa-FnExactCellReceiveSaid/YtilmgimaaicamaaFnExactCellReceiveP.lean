/- The law FnExactCellReceive holds for every input that the given row lets in: the program's answer is the reference's. No condition of its own. -/
import Derived.Test.YtilmgimaaicamaaRows
import Derived.WalkKit
import Derived.ProofKit
import Derived.OpenShut
import Derived.ShutString
import Derived.ChangeOld
import Derived.Below
import Derived.Lib.SmallJoins
import Derived.Test.YtilmgimaaicamaaQc
import Derived.Test.YtilmgimaaicamaaFs
namespace Go.Proofs.Ytilmgimaaicamaa.fnExactCellReceive
open Go.ChangeShapes Go.WideShapes Go.ChangeAt Go.RowKit
open Go.ChangeMaps (open_string shut_string)
set_option linter.unusedVariables false

theorem own : ownKnob Try.prog.godebug = none := by kernel_rfl
theorem laidOut : laidOutB Try.prog = true := by kernel_rfl

/-- A slice of integers that came in: nil, or a row of 'cap' cells that hold the numbers zs. -/
def IsRow (k : IntKind) (w : World) (a : Option Addr) (len cap : Nat) (zs : List Int) : Prop :=
  (a = none ∧ len = 0 ∧ cap = 0 ∧ zs = []) ∨
  ∃ x, a = some x ∧ len ≤ cap ∧ cap ≤ maxLen ∧ zs.length = cap ∧ (∀ i, i < zs.length → w.cell? (x.add i) = some (.int k (zs.getD i 0))) ∧ ∀ n ∈ zs, (Lit.int k n).wf = true

set_option maxHeartbeats 4000000 in
theorem walk (a0 : Option Addr) (len0 cap0 : Nat) (z0 : List Stn) (a1 : Option Addr) (len1 cap1 : Nat) (z1 : List Int) (a2 : ByteArray) (a3 : Int) (w : World) (w0 : IsStns w a0 len0 cap0 z0) (w1 : IsRow .i64 w a1 len1 cap1 z1) (w2 : a2.size ≤ maxLen) (w3 : (Lit.int .i64 a3).wf = true) :
    Calls Try.prog 12 #[.slice a0 len0 cap0, .slice a1 len1 cap1, .string a2, .int .i64 a3] w fun e w' => e = .returned (.bool true) ∧ Below w.heap.size w w' := by
  have hcm : len0 ≤ maxLen := by
    rcases w0 with ⟨_, h1, _⟩ | ⟨x, _, h1, h2, _⟩
    · rw [h1]; exact Nat.zero_le _
    · exact Nat.le_trans h1 h2
  by_cases hnS : len1 ≤ 1048576
  · by_cases hnm : a2.size ≤ 1048576
    · by_cases hnH : len0 ≤ 1048576
      · obtain ⟨hH0, hSm, hcap⟩ := rdS_of w0 (by omega)
        have hG0 := rd_of_row w1 (by omega)
        clear w0 w1 hcap hcm
        by_cases hsz : ((z0.take len0).length : Int) + szL (z0.take len0) ≤ 1048576
        · have hr := Lib.hid (szR_yes hsz)
          have hnn : ¬ (1048576 : Int) - ((z0.take len0).length : Int) - szL (z0.take len0) < 0 := by omega
          have HB : ∀ i (h : i < (z0.take len0).length), ((z0.take len0)[i]'h).nm.size ≤ 1099511627776 ∧ ((z0.take len0)[i]'h).ph.size ≤ 1099511627776 := by
            intro i h
            have := szL_mem (z0.take len0) (List.getElem_mem h)
            omega
          generalize z0.take len0 = l at *
          generalize z1.take len1 = sg at *
          have HBH := Lib.hid HB; clear HB
          clear hsz
          go_enter Try.func12, Try.ntmps12
          go_wp2_with fail
          refine (szStationS_c hH0 hSm 1048576 (by omega) (by omega)).mono ?_; rintro e w1 ⟨rfl, hb1⟩
          have hz1 := hb1.size
          have hH1 := hH0.below hb1
          clear hH0
          have hG1 := hG0.below hb1
          clear hG0
          have hBase1 : Below w.heap.size w w1 := (hb1.mono (by omega))
          clear hb1
          rw [hr.out]
          go_wp2_with fail
          refine (toStationS_c hH1).mono ?_; rintro e w2 ⟨aS, nS, cS, rfl, hS2, hb2⟩
          have lt_H_S := hH1.lt
          have lt_G_S := hG1.lt
          have hz2 := hb2.size
          have hH2 := hH1.below hb2
          clear hH1
          have hG2 := hG1.below hb2
          clear hG1
          have hBase2 := hBase1.trans (hb2.mono (by omega))
          clear hBase1
          clear hb2
          have s_S := hS2.2.1
          go_wp2_with fail
          refine (toIntS_c hG2).mono ?_; rintro e w3 ⟨aSG, nSG, cSG, rfl, hSG3, hb3⟩
          have lt_H_SG := hH2.lt
          have lt_G_SG := hG2.lt
          have lt_S_SG := hS2.below'
          have hz3 := hb3.size
          have hH3 := hH2.below hb3
          clear hH2
          have hG3 := hG2.below hb3
          clear hG2
          have hS3 := hS2.below hb3
          clear hS2
          have hBase3 := hBase2.trans (hb3.mono (by omega))
          clear hBase2
          clear hb3
          have s_SG := hSG3.2.1
          go_wp2_with fail
          refine (sCellReceive_c _ _ hS3.rd hSG3.rd HBH.out).mono ?_; rintro e w4 ⟨rfl, hb4⟩
          have hz4 := hb4.size
          have hH4 := hH3.below hb4
          clear hH3
          have hG4 := hG3.below hb4
          clear hG3
          have hS4 := hS3.below hb4
          clear hS3
          have hSG4 := hSG3.below hb4
          clear hSG3
          have hBase4 := hBase3.trans (hb4.mono (by omega))
          clear hBase3
          clear hb4
          clear hS4
          clear hSG4
          go_wp2_with fail
          refine (toStationS_c hH4).mono ?_; rintro e w5 ⟨aX, nX, cX, rfl, hX5, hb5⟩
          have lt_H_X := hH4.lt
          have lt_G_X := hG4.lt
          have hz5 := hb5.size
          have hH5 := hH4.below hb5
          clear hH4
          have hG5 := hG4.below hb5
          clear hG4
          have hBase5 := hBase4.trans (hb5.mono (by omega))
          clear hBase4
          clear hb5
          have s_X := hX5.2.1
          go_wp2_with fail
          refine (toIntS_c hG5).mono ?_; rintro e w6 ⟨aXG, nXG, cXG, rfl, hXG6, hb6⟩
          have lt_H_XG := hH5.lt
          have lt_G_XG := hG5.lt
          have lt_X_XG := hX5.below'
          have hz6 := hb6.size
          have hH6 := hH5.below hb6
          clear hH5
          have hG6 := hG5.below hb6
          clear hG5
          have hX6 := hX5.below hb6
          clear hX5
          have hBase6 := hBase5.trans (hb6.mono (by omega))
          clear hBase5
          clear hb6
          have s_XG := hXG6.2.1
          go_wp2_with fail
          refine (CellReceive_c _ _ hX6.rd hX6.cap hXG6.rd).mono ?_; rintro e w7 ⟨rfl, hb7⟩
          have hz7 := hb7.size
          have hH7 := hH6.below hb7
          clear hH6
          have hG7 := hG6.below hb7
          clear hG6
          have hX7 := hX6.below hb7
          clear hX6
          have hXG7 := hXG6.below hb7
          clear hXG6
          have hBase7 := hBase6.trans (hb7.mono (by omega))
          clear hBase6
          clear hb7
          go_wp2_with fail
          refine (toStationS_c hH7).mono ?_; rintro e w8 ⟨aC, nC, cC, rfl, hC8, hb8⟩
          have lt_H_C := hH7.lt
          have lt_G_C := hG7.lt
          have lt_X_C := hX7.below'
          have lt_XG_C := hXG7.below'
          have hz8 := hb8.size
          have hH8 := hH7.below hb8
          clear hH7
          have hG8 := hG7.below hb8
          clear hG7
          have hX8 := hX7.below hb8
          clear hX7
          have hXG8 := hXG7.below hb8
          clear hXG7
          have hBase8 := hBase7.trans (hb8.mono (by omega))
          clear hBase7
          clear hb8
          have s_C := hC8.2.1
          go_wp2_with fail
          refine (eqStationS_same hX8.rd hC8.rd).mono ?_; rintro e w9 ⟨rfl, hb9⟩
          have hz9 := hb9.size
          have hH9 := hH8.below hb9
          clear hH8
          have hG9 := hG8.below hb9
          clear hG8
          have hX9 := hX8.below hb9
          clear hX8
          have hXG9 := hXG8.below hb9
          clear hXG8
          have hC9 := hC8.below hb9
          clear hC8
          have hBase9 := hBase8.trans (hb9.mono (by omega))
          clear hBase8
          clear hb9
          clear hC9
          clear hX9
          go_wp2_with fail
          refine (toIntS_c hG9).mono ?_; rintro e w10 ⟨aCG, nCG, cCG, rfl, hCG10, hb10⟩
          have lt_H_CG := hH9.lt
          have lt_G_CG := hG9.lt
          have lt_XG_CG := hXG9.below'
          have hz10 := hb10.size
          have hH10 := hH9.below hb10
          clear hH9
          have hG10 := hG9.below hb10
          clear hG9
          have hXG10 := hXG9.below hb10
          clear hXG9
          have hBase10 := hBase9.trans (hb10.mono (by omega))
          clear hBase9
          clear hb10
          have s_CG := hCG10.2.1
          go_wp2_with fail
          refine (eqIntS_same hXG10.rd hCG10.rd).mono ?_; rintro e w11 ⟨rfl, hq11⟩
          have hb11 := hq11.below w10.heap.size
          have hz11 := hb11.size
          have hH11 := hH10.below hb11
          clear hH10
          have hG11 := hG10.below hb11
          clear hG10
          have hXG11 := hXG10.below hb11
          clear hXG10
          have hCG11 := hCG10.below hb11
          clear hCG10
          have hBase11 := hBase10.trans (hb11.mono (by omega))
          clear hBase10
          clear hb11
          go_wp2_with fail
          go_ret
          exact ⟨rfl, hBase11⟩
        · have hr := Lib.hid (szR_no (l := z0.take len0) (left := 1048576) (by omega))
          generalize z0.take len0 = l at *
          clear hsz hG0
          go_enter Try.func12, Try.ntmps12
          go_wp2_with fail
          refine (szStationS_c hH0 hSm 1048576 (by omega) (by omega)).mono ?_; rintro e w1 ⟨rfl, hb1⟩
          rw [hr.out]
          clear hH0
          go_wp2_with fail
          go_ret
          exact ⟨rfl, hb1⟩
      · clear w0 w1
        go_enter Try.func12, Try.ntmps12
        go_wp2_with fail
        refine (szStationS_long 1048576 (by omega) (by omega) hcm).mono ?_; rintro e w1 ⟨rfl, rfl⟩
        go_wp2_with fail
        go_ret
        exact ⟨rfl, Below.refl _ _⟩
    · have hnm' : (1048576 : Int) < (a2.size : Int) := by omega
      clear w0 w1
      go_enter Try.func12, Try.ntmps12
      go_wp2_with fail
      go_ret
      exact ⟨rfl, Below.refl _ _⟩
  · have hnS' : (1048576 : Int) < (len1 : Int) := by omega
    clear w0 w1
    go_enter Try.func12, Try.ntmps12
    go_wp2_with fail
    go_ret
    exact ⟨rfl, Below.refl _ _⟩

set_option maxRecDepth 100000 in
theorem lifted (os : Os) (started : os.Started) (H : Type) (enc : TypeId × Value → H) :
    ReturnsInHanded {} Try.checked os 12 .any (Rows.fnExactCellReceiveSpec.pre6 enc Try.prog Try.f12 Rows.fnExactCellReceiveRow.domain false) (Rows.fnExactCellReceiveSpec.post enc Try.prog Try.f12 false true false false) := by
  refine returnsInHanded_of_change (C := Try.checked) own started (by kernel_rfl) Try.func12
    (ChangeSpec.witness6 (enc := enc) (C := Try.checked) false ⟨#[], #[.slice none 0 0, .slice none 0 0, .string ByteArray.empty, .int .i64 0], []⟩ 8 (by kernel_rfl) (by kernel_rfl) (by kernel_rfl) (by kernel_rfl)) ?_
  intro W base args ds gs before hval0 hW hcnd _
  have hval : ∀ (j : Nat) t v, Try.f12.params[j]? = some t → args[j]? = some v → Value.okWide Try.prog W .any base t v := hval0
  have hW' := hW
  obtain ⟨p, q, hA0, hV, rfl, hfz, hnd⟩ := hW
  have hA : DataW.TrodAll enc Try.prog W 0 (fun _ => true) true Try.f12.params.toList args.toList ds p := hA0
  rw [Try.params12] at hA hval
  obtain ⟨v0, vs0, d0, ds0, p0, q0, hargs, rfl, rfl, h0, r0⟩ := trodAll_cons hA
  obtain ⟨v1, vs1, d1, ds1, p1, q1, rfl, rfl, rfl, h1, r1⟩ := trodAll_cons r0
  obtain ⟨v2, vs2, d2, ds2, p2, q2, rfl, rfl, rfl, h2, r2⟩ := trodAll_cons r1
  obtain ⟨v3, vs3, d3, ds3, p3, q3, rfl, rfl, rfl, h3, r3⟩ := trodAll_cons r2
  obtain ⟨rfl, rfl, rfl⟩ := trodAll_nil r3
  obtain rfl : args = #[v0, v1, v2, v3] := by cases args; simp_all
  obtain ⟨rfl, rfl⟩ := trodVars_none hV
  have k0 := h0
  have lt0 : ∀ x ∈ p0, x.block < W.heap.size := by obtain ⟨m, hm⟩ := k0; exact DataW.trod_lt m _ _ _ hm
  have k1 := h1
  have lt1 : ∀ x ∈ p1, x.block < W.heap.size := by obtain ⟨m, hm⟩ := k1; exact DataW.trod_lt m _ _ _ hm
  have k2 := h2
  have lt2 : ∀ x ∈ p2, x.block < W.heap.size := by obtain ⟨m, hm⟩ := k2; exact DataW.trod_lt m _ _ _ hm
  have k3 := h3
  have lt3 : ∀ x ∈ p3, x.block < W.heap.size := by obtain ⟨m, hm⟩ := k3; exact DataW.trod_lt m _ _ _ hm
  obtain ⟨a0, len0, cap0, rfl⟩ := okWide_slice Try.underlying31 (hval 0 31 v0 rfl rfl)
  obtain ⟨z0, w0⟩ : ∃ zs, IsStns W a0 len0 cap0 zs := by
    obtain ⟨fuel, hf⟩ := h0
    exact open_stns Try.underlying31 Try.underlying23 (by kernel_rfl) (by kernel_rfl) Try.underlying9 Try.underlying9 Try.underlying3 Try.underlying3 hf
  obtain ⟨a1, len1, cap1, rfl⟩ := okWide_slice Try.underlying46 (hval 1 46 v1 rfl rfl)
  obtain ⟨z1, w1⟩ : ∃ zs, IsRow .i64 W a1 len1 cap1 zs := by
    obtain ⟨fuel, hf⟩ := h1
    rcases open_ints Try.underlying46 Try.underlying3 (by kernel_rfl) hf with ⟨hcs, _⟩ | ⟨x, l, c, zs, hcs, _, hl, hm, hz, _, hcell, hwz⟩
    · simp [Value.cells] at hcs
      obtain ⟨rfl, rfl, rfl⟩ := hcs
      exact ⟨[], .inl ⟨rfl, rfl, rfl, rfl⟩⟩
    · simp [Value.cells] at hcs
      obtain ⟨rfl, rfl, rfl⟩ := hcs
      exact ⟨zs, .inr ⟨_, rfl, hl, hm, by simpa using hz, hcell, hwz⟩⟩
  obtain ⟨a2, rfl, rfl, rfl, w2⟩ := open_string Try.underlying9 (hval 2 9 v2 rfl rfl) h2
  obtain ⟨a3, rfl, rfl, rfl, w3⟩ := open_int Try.underlying3 (hval 3 3 v3 rfl rfl) h3
  clear hA0 hval0
  refine (walk a0 len0 cap0 z0 a1 len1 cap1 z1 a2 a3 W w0 w1 w2 w3).mono fun e W' ⟨he, bel⟩ => ?_
  subst he
  exact ⟨_, rfl, _, _, _, [], _, [], hW', trodAll_mk1 (shut_bool Try.underlying4 _), (trodAll_cons_mk (Below.trod laidOut (by kernel_rfl) (of_decide_eq_true (by kernel_rfl)) k0 bel lt0) (trodAll_cons_mk (Below.trod laidOut (by kernel_rfl) (of_decide_eq_true (by kernel_rfl)) k1 bel lt1) (trodAll_cons_mk (Below.trod laidOut (by kernel_rfl) (of_decide_eq_true (by kernel_rfl)) k2 bel lt2) (trodAll_cons_mk (Below.trod laidOut (by kernel_rfl) (of_decide_eq_true (by kernel_rfl)) k3 bel lt3) trodAll_mk0)))), rfl, bel.frame _, fun h => by cases h⟩

theorem over : Rows.fnExactCellReceiveRow.holds Try.pinned (OpenSpec.ofChange Rows.fnExactCellReceiveSpec) :=
  OpenClaim.holds_of_wide 12 Try.f12 rfl rfl rfl rfl rfl rfl rfl ⟨rfl, rfl, rfl, rfl, rfl⟩ rfl rfl rfl rfl rfl (by kernel_rfl) Try.func12 (by kernel_rfl)
    (of_decide_eq_true (by kernel_rfl)) (by unfold Func.isWrapper; first | (rw [if_pos (by decide +kernel)]; kernel_rfl) | (rw [if_neg (by decide +kernel)]; exact ⟨rfl, rfl⟩))
    (fun os started H enc _ => lifted os started H enc)

theorem proved : Rows.FnExactCellReceiveSaid := over
#print axioms proved
end Go.Proofs.Ytilmgimaaicamaa.fnExactCellReceive
