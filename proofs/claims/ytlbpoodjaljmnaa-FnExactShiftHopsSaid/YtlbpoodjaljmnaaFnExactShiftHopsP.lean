/- The law FnExactShiftHops holds for every input that the given row lets in: the program's answer is the reference's. No condition of its own.
   The frame of this text was written by the kit's proof-skeleton.mjs; the walk is ours. -/
import Derived.Test.YtlbpoodjaljmnaaRows
import Derived.WalkKit
import Derived.ProofKit
import Derived.OpenShut
import Derived.ShutString
import Derived.ChangeOld
import Derived.Below
import Derived.Test.YtlbpoodjaljmnaaHs
namespace Go.Proofs.Ytlbpoodjaljmnaa.fnExactShiftHops
open Go.ChangeShapes Go.WideShapes Go.ChangeAt Go.RowKit
open Go.ChangeMaps (open_string shut_string)
set_option linter.unusedVariables false

theorem own : ownKnob Try.prog.godebug = none := by kernel_rfl
theorem laidOut : laidOutB Try.prog = true := by kernel_rfl

/-- WHAT THE WALK IS TOLD OF A SLICE OF INTEGERS THAT CAME IN: it is nil; or it leads to a row of 'cap' cells, the numbers 'zs' (the first 'len' are its elements, the rest its spare room), each fitting its kind. -/
def IsRow (k : IntKind) (w : World) (a : Option Addr) (len cap : Nat) (zs : List Int) : Prop :=
  (a = none ∧ len = 0 ∧ cap = 0 ∧ zs = []) ∨
  ∃ x, a = some x ∧ len ≤ cap ∧ cap ≤ maxLen ∧ zs.length = cap ∧ (∀ i, i < zs.length → w.cell? (x.add i) = some (.int k (zs.getD i 0))) ∧ ∀ n ∈ zs, (Lit.int k n).wf = true

/-! ### STEP 1: THE WALK: the Go text returns true, AND WRITES NOTHING THAT WAS THERE: 'Below w.heap.size w w'' (Derived/Below.lean: '.refl', '.alloc', '.drew', '.setCell' at a new block, '.trans'). Open each 'IsRow' by 'rcases' AHEAD of 'go_enter'; part every test ahead of the walk. -/
set_option maxHeartbeats 1000000 in
theorem walk (a0 : Option Addr) (len0 cap0 : Nat) (z0 : List Int) (a1 : Int) (w : World) (w0 : IsRow .i64 w a0 len0 cap0 z0) (w1 : (Lit.int .i64 a1).wf = true) :
    Calls Try.prog 8 #[.slice a0 len0 cap0, .int .i64 a1] w fun e w' => e = .returned (.bool true) ∧ Below w.heap.size w w' := by
  by_cases hnH : len0 ≤ 1048576
  · have hH0 := rd_of_row w0 (by omega)
    clear w0
    go_enter Try.func8, Try.ntmps8
    go_wp2_with fail
    refine (toIntS_c hH0).mono ?_; rintro e w1 ⟨aSH, nSH, cSH, rfl, hSH1, hb1⟩
    have lt_H_SH := hH0.lt
    have hz1 := hb1.size
    have hH1 := hH0.below hb1
    clear hH0
    have hB1 : Below w.heap.size w w1 := (hb1.mono (by omega))
    clear hb1
    have s_SH := hSH1.2.1
    go_wp2_with fail
    refine (sShiftHops_c _ hSH1.rd hSH1.cap).mono ?_; rintro e w2 ⟨aRW, nRW, cRW, rfl, hRW2, hb2⟩
    have lt_H_RW := hH1.lt
    have lt_SH_RW := hSH1.below'
    have hz2 := hb2.size
    have hH2 := hH1.below hb2
    clear hH1
    have hSH2 := hSH1.below hb2
    clear hSH1
    have hB2 := hB1.trans (hb2.mono (by omega))
    clear hB1
    clear hb2
    have s_RW := hRW2.2.1
    clear hSH2
    go_wp2_with fail
    refine (toIntS_c hH2).mono ?_; rintro e w3 ⟨aXH, nXH, cXH, rfl, hXH3, hb3⟩
    have lt_H_XH := hH2.lt
    have lt_RW_XH := hRW2.below'
    have hz3 := hb3.size
    have hH3 := hH2.below hb3
    clear hH2
    have hRW3 := hRW2.below hb3
    clear hRW2
    have hB3 := hB2.trans (hb3.mono (by omega))
    clear hB2
    clear hb3
    have s_XH := hXH3.2.1
    go_wp2_with fail
    refine (ShiftHops_c _ hXH3.rd hXH3.cap).mono ?_; rintro e w4 ⟨aRG, nRG, cRG, rfl, hRG4, hb4⟩
    have lt_H_RG := hH3.lt
    have lt_RW_RG := hRW3.below'
    have lt_XH_RG := hXH3.below'
    have hz4 := hb4.size
    have hH4 := hH3.below hb4
    clear hH3
    have hRW4 := hRW3.below hb4
    clear hRW3
    have hXH4 := hXH3.below hb4
    clear hXH3
    have hB4 := hB3.trans (hb4.mono (by omega))
    clear hB3
    clear hb4
    have s_RG := hRG4.2.1
    go_wp2_with fail
    refine (eqIntS_same hRG4.rd hRW4.rd).mono ?_; rintro e w5 ⟨rfl, hq5⟩
    have hb5 := hq5.below w4.heap.size
    have hz5 := hb5.size
    have hH5 := hH4.below hb5
    clear hH4
    have hRW5 := hRW4.below hb5
    clear hRW4
    have hXH5 := hXH4.below hb5
    clear hXH4
    have hRG5 := hRG4.below hb5
    clear hRG4
    have hB5 := hB4.trans (hb5.mono (by omega))
    clear hB4
    clear hb5
    go_wp2_with fail
    refine (toIntS_c hH5).mono ?_; rintro e w6 ⟨aCH, nCH, cCH, rfl, hCH6, hb6⟩
    have lt_H_CH := hH5.lt
    have lt_RW_CH := hRW5.below'
    have lt_XH_CH := hXH5.below'
    have lt_RG_CH := hRG5.below'
    have hz6 := hb6.size
    have hH6 := hH5.below hb6
    clear hH5
    have hRW6 := hRW5.below hb6
    clear hRW5
    have hXH6 := hXH5.below hb6
    clear hXH5
    have hRG6 := hRG5.below hb6
    clear hRG5
    have hB6 := hB5.trans (hb6.mono (by omega))
    clear hB5
    clear hb6
    have s_CH := hCH6.2.1
    go_wp2_with fail
    refine (eqIntS_same hXH6.rd hCH6.rd).mono ?_; rintro e w7 ⟨rfl, hq7⟩
    have hb7 := hq7.below w6.heap.size
    have hz7 := hb7.size
    have hH7 := hH6.below hb7
    clear hH6
    have hRW7 := hRW6.below hb7
    clear hRW6
    have hXH7 := hXH6.below hb7
    clear hXH6
    have hRG7 := hRG6.below hb7
    clear hRG6
    have hCH7 := hCH6.below hb7
    clear hCH6
    have hB7 := hB6.trans (hb7.mono (by omega))
    clear hB6
    clear hb7
    clear hCH7
    go_wp2_with fail
    refine (markIntS_c (1) hXH7 (by omega) (by omega)).mono ?_; rintro e w8 ⟨rfl, hXH8, hw8⟩
    have hH8 := hH7.wr hXH7 hw8 lt_H_XH
    clear hH7
    have hRW8 := hRW7.wrNew hXH7 hw8 lt_RW_XH
    clear hRW7
    have hRG8 := hRG7.wrOld hXH7 hw8 lt_XH_RG
    clear hRG7
    have hz8 := hw8.size
    have hB8 := hB7.trans ((hw8.below hXH7 (by omega)).mono (by omega))
    clear hB7
    clear hXH7 hw8
    go_wp2_with fail
    refine (eqIntS_same hRG8.rd hRW8.rd).mono ?_; rintro e w9 ⟨rfl, hq9⟩
    have hb9 := hq9.below w8.heap.size
    have hz9 := hb9.size
    have hH9 := hH8.below hb9
    clear hH8
    have hRW9 := hRW8.below hb9
    clear hRW8
    have hXH9 := hXH8.below hb9
    clear hXH8
    have hRG9 := hRG8.below hb9
    clear hRG8
    have hB9 := hB8.trans (hb9.mono (by omega))
    clear hB8
    clear hb9
    clear hXH9
    go_wp2_with fail
    refine (markIntS_c (1) hRG9 (by omega) (by omega)).mono ?_; rintro e w10 ⟨rfl, hRG10, hw10⟩
    have hH10 := hH9.wr hRG9 hw10 lt_H_RG
    clear hH9
    have hRW10 := hRW9.wrNew hRG9 hw10 lt_RW_RG
    clear hRW9
    have hz10 := hw10.size
    have hB10 := hB9.trans ((hw10.below hRG9 (by omega)).mono (by omega))
    clear hB9
    clear hRG9 hw10
    go_wp2_with fail
    refine (heldIntS_c (1) hRG10.rd (by omega) (by omega)).mono ?_; rintro e w' ⟨rfl, rfl⟩
    go_wp2_with fail
    refine (toIntS_c hH10).mono ?_; rintro e w11 ⟨aYH, nYH, cYH, rfl, hYH11, hb11⟩
    have lt_H_YH := hH10.lt
    have lt_RW_YH := hRW10.below'
    have lt_RG_YH := hRG10.below'
    have hz11 := hb11.size
    have hH11 := hH10.below hb11
    clear hH10
    have hRW11 := hRW10.below hb11
    clear hRW10
    have hRG11 := hRG10.below hb11
    clear hRG10
    have hB11 := hB10.trans (hb11.mono (by omega))
    clear hB10
    clear hb11
    have s_YH := hYH11.2.1
    go_wp2_with fail
    refine (ShiftHops_c _ hYH11.rd hYH11.cap).mono ?_; rintro e w12 ⟨aRH, nRH, cRH, rfl, hRH12, hb12⟩
    have lt_H_RH := hH11.lt
    have lt_RW_RH := hRW11.below'
    have lt_RG_RH := hRG11.below'
    have lt_YH_RH := hYH11.below'
    have hz12 := hb12.size
    have hH12 := hH11.below hb12
    clear hH11
    have hRW12 := hRW11.below hb12
    clear hRW11
    have hRG12 := hRG11.below hb12
    clear hRG11
    have hYH12 := hYH11.below hb12
    clear hYH11
    have hB12 := hB11.trans (hb12.mono (by omega))
    clear hB11
    clear hb12
    have s_RH := hRH12.2.1
    clear hYH12
    go_wp2_with fail
    refine (eqIntS_same hRH12.rd hRW12.rd).mono ?_; rintro e w13 ⟨rfl, hq13⟩
    have hb13 := hq13.below w12.heap.size
    have hz13 := hb13.size
    have hH13 := hH12.below hb13
    clear hH12
    have hRW13 := hRW12.below hb13
    clear hRW12
    have hRG13 := hRG12.below hb13
    clear hRG12
    have hRH13 := hRH12.below hb13
    clear hRH12
    have hB13 := hB12.trans (hb13.mono (by omega))
    clear hB12
    clear hb13
    go_wp2_with fail
    refine (heldIntS_c (1) hRG13.rd (by omega) (by omega)).mono ?_; rintro e w' ⟨rfl, rfl⟩
    go_wp2_with fail
    go_ret
    exact ⟨rfl, hB13⟩
  · have hn' : (1048576 : Int) < (len0 : Int) := by omega
    go_enter Try.func8, Try.ntmps8
    go_wp2
    go_ret
    exact ⟨rfl, Below.refl _ _⟩

/-! ### THE ROW's STEP: WRITTEN OUT: LEAVE IT -/
set_option maxRecDepth 100000 in
theorem lifted (os : Os) (started : os.Started) (H : Type) (enc : TypeId × Value → H) :
    ReturnsInHanded {} Try.checked os 8 .any (Rows.fnExactShiftHopsSpec.pre6 enc Try.prog Try.f8 Rows.fnExactShiftHopsRow.domain false) (Rows.fnExactShiftHopsSpec.post enc Try.prog Try.f8 false true false false) := by
  refine returnsInHanded_of_change (C := Try.checked) own started (by kernel_rfl) Try.func8
    (ChangeSpec.witness6 (enc := enc) (C := Try.checked) false ⟨#[], #[.slice none 0 0, .int .i64 0], []⟩ 8 (by kernel_rfl) (by kernel_rfl) (by kernel_rfl) (by kernel_rfl)) ?_
  intro W base args ds gs before hval0 hW hcnd _
  have hval : ∀ (j : Nat) t v, Try.f8.params[j]? = some t → args[j]? = some v → Value.okWide Try.prog W .any base t v := hval0
  have hW' := hW
  obtain ⟨p, q, hA0, hV, rfl, hfz, hnd⟩ := hW
  have hA : DataW.TrodAll enc Try.prog W 0 (fun _ => true) true Try.f8.params.toList args.toList ds p := hA0
  rw [Try.params8] at hA hval
  obtain ⟨v0, vs0, d0, ds0, p0, q0, hargs, rfl, rfl, h0, r0⟩ := trodAll_cons hA
  obtain ⟨v1, vs1, d1, ds1, p1, q1, rfl, rfl, rfl, h1, r1⟩ := trodAll_cons r0
  obtain ⟨rfl, rfl, rfl⟩ := trodAll_nil r1
  obtain rfl : args = #[v0, v1] := by cases args; simp_all
  obtain ⟨rfl, rfl⟩ := trodVars_none hV
  obtain ⟨a0, len0, cap0, rfl⟩ := okWide_slice Try.underlying22 (hval 0 22 v0 rfl rfl)
  have k0 := h0
  have lt0 : ∀ x ∈ p0, x.block < W.heap.size := by obtain ⟨m, hm⟩ := k0; exact DataW.trod_lt m _ _ _ hm
  obtain ⟨z0, w0⟩ : ∃ zs, IsRow .i64 W a0 len0 cap0 zs := by
    obtain ⟨fuel, hf⟩ := h0
    rcases open_ints Try.underlying22 Try.underlying3 (by kernel_rfl) hf with ⟨hcs, _⟩ | ⟨x, l, c, zs, hcs, _, hl, hm, hz, _, hcell, hwz⟩
    · simp [Value.cells] at hcs
      obtain ⟨rfl, rfl, rfl⟩ := hcs
      exact ⟨[], .inl ⟨rfl, rfl, rfl, rfl⟩⟩
    · simp [Value.cells] at hcs
      obtain ⟨rfl, rfl, rfl⟩ := hcs
      exact ⟨zs, .inr ⟨_, rfl, hl, hm, by simpa using hz, hcell, hwz⟩⟩
  obtain ⟨a1, rfl, rfl, rfl, w1⟩ := open_int Try.underlying3 (hval 1 3 v1 rfl rfl) h1
  clear hA0 hval0
  refine (walk a0 len0 cap0 z0 a1 W w0 w1).mono fun e W' ⟨he, bel⟩ => ?_
  subst he
  exact ⟨_, rfl, _, _, _, [], _, [], hW', trodAll_mk1 (shut_bool Try.underlying4 _), (trodAll_cons_mk (Below.trod laidOut (by kernel_rfl) (of_decide_eq_true (by kernel_rfl)) k0 bel lt0) (trodAll_cons_mk (shut_int Try.underlying3 w1) trodAll_mk0)), rfl, bel.frame _, fun h => by cases h⟩

theorem over : Rows.fnExactShiftHopsRow.holds Try.pinned (OpenSpec.ofChange Rows.fnExactShiftHopsSpec) :=
  OpenClaim.holds_of_wide 8 Try.f8 rfl rfl rfl rfl rfl rfl rfl ⟨rfl, rfl, rfl, rfl, rfl⟩ rfl rfl rfl rfl rfl (by kernel_rfl) Try.func8 (by kernel_rfl)
    (of_decide_eq_true (by kernel_rfl)) (by unfold Func.isWrapper; first | (rw [if_pos (by decide +kernel)]; kernel_rfl) | (rw [if_neg (by decide +kernel)]; exact ⟨rfl, rfl⟩))
    (fun os started H enc _ => lifted os started H enc)

/-- ████ THE STATEMENT ████ -/
theorem proved : Rows.FnExactShiftHopsSaid := over
#print axioms proved
end Go.Proofs.Ytlbpoodjaljmnaa.fnExactShiftHops
