/- The law FnExactLinearHops holds for every input that the given row lets in: the program's answer is the reference's. No condition of its own.
   The frame of this text was written by the kit's proof-skeleton.mjs; the walk is ours. -/
import Derived.Test.YtlbpoodjaljmnaaRows
import Derived.WalkKit
import Derived.ProofKit
import Derived.OpenShut
import Derived.ShutString
import Derived.Test.YtlbpoodjaljmnaaHl
namespace Go.Proofs.Ytlbpoodjaljmnaa.fnExactLinearHops
open Go.ChangeShapes Go.WideShapes Go.ChangeAt Go.RowKit
open Go.ChangeMaps (open_string shut_string)
set_option linter.unusedVariables false      -- a walk need not use every 'w<i>' (that an integer argument fits its kind)

theorem own : ownKnob Try.prog.godebug = none := by kernel_rfl

/-! ### STEP 1: THE WALK: the Go text returns true. 'Grown w w'': the world has at most new blocks (Derived/RowKit3.lean). Part the cases AHEAD of 'go_enter' where a test parts the walk; take each callee by a contract of your own. -/
set_option maxHeartbeats 1000000 in
theorem walk (a0 : Int) (a1 : Int) (a2 : Int) (w0 : (Lit.int .i64 a0).wf = true) (w1 : (Lit.int .i64 a1).wf = true) (w2 : (Lit.int .i64 a2).wf = true) (w : World) :
    Calls Try.prog 4 #[.int .i64 a0, .int .i64 a1, .int .i64 a2] w fun e w' => e = .returned (.bool true) ∧ Below w.heap.size w w' := by
  go_enter Try.func4, Try.ntmps4
  go_wp2_with fail
  refine (sLinearHops_c _ _ _ _).mono ?_; rintro e w1 ⟨aW, nW, cW, rfl, hW1, hb1⟩
  have hz1 := hb1.size
  have hB1 : Below w.heap.size w w1 := (hb1.mono (by omega))
  clear hb1
  have s_W := hW1.2.1
  go_wp2_with fail
  refine (LinearHops_c _ _ _ _).mono ?_; rintro e w2 ⟨aG, nG, cG, rfl, hG2, hb2⟩
  have lt_W_G := hW1.below'
  have hz2 := hb2.size
  have hW2 := hW1.below hb2
  clear hW1
  have hB2 := hB1.trans (hb2.mono (by omega))
  clear hB1
  clear hb2
  have s_G := hG2.2.1
  go_wp2_with fail
  refine (eqIntS_same hG2.rd hW2.rd).mono ?_; rintro e w3 ⟨rfl, hq3⟩
  have hb3 := hq3.below w2.heap.size
  have hz3 := hb3.size
  have hW3 := hW2.below hb3
  clear hW2
  have hG3 := hG2.below hb3
  clear hG2
  have hB3 := hB2.trans (hb3.mono (by omega))
  clear hB2
  clear hb3
  go_wp2_with fail
  refine (markIntS_c (1) hG3 (by omega) (by omega)).mono ?_; rintro e w4 ⟨rfl, hG4, hw4⟩
  have hW4 := hW3.wrNew hG3 hw4 lt_W_G
  clear hW3
  have hz4 := hw4.size
  have hB4 := hB3.trans ((hw4.below hG3 (by omega)).mono (by omega))
  clear hB3
  clear hG3 hw4
  go_wp2_with fail
  refine (heldIntS_c (1) hG4.rd (by omega) (by omega)).mono ?_; rintro e w' ⟨rfl, rfl⟩
  go_wp2_with fail
  refine (LinearHops_c _ _ _ _).mono ?_; rintro e w5 ⟨aH, nH, cH, rfl, hH5, hb5⟩
  have lt_W_H := hW4.below'
  have lt_G_H := hG4.below'
  have hz5 := hb5.size
  have hW5 := hW4.below hb5
  clear hW4
  have hG5 := hG4.below hb5
  clear hG4
  have hB5 := hB4.trans (hb5.mono (by omega))
  clear hB4
  clear hb5
  have s_H := hH5.2.1
  go_wp2_with fail
  refine (eqIntS_same hH5.rd hW5.rd).mono ?_; rintro e w6 ⟨rfl, hq6⟩
  have hb6 := hq6.below w5.heap.size
  have hz6 := hb6.size
  have hW6 := hW5.below hb6
  clear hW5
  have hG6 := hG5.below hb6
  clear hG5
  have hH6 := hH5.below hb6
  clear hH5
  have hB6 := hB5.trans (hb6.mono (by omega))
  clear hB5
  clear hb6
  go_wp2_with fail
  refine (heldIntS_c (1) hG6.rd (by omega) (by omega)).mono ?_; rintro e w' ⟨rfl, rfl⟩
  go_wp2_with fail
  go_ret
  exact ⟨rfl, hB6⟩
  -- go_enter Try.func4, Try.ntmps4
  -- go_wp2
  -- go_ret
  -- exact ⟨rfl, by repeat (first | exact Grown.refl _ | apply Grown.drew | apply Grown.alloc)⟩

/-! ### THE ROW's STEP: WRITTEN OUT: LEAVE IT -/
set_option maxRecDepth 100000 in
theorem lifted (os : Os) (started : os.Started) (H : Type) (enc : TypeId × Value → H) :
    ReturnsInHanded {} Try.checked os 4 .any (Rows.fnExactLinearHopsSpec.pre6 enc Try.prog Try.f4 Rows.fnExactLinearHopsRow.domain false) (Rows.fnExactLinearHopsSpec.post enc Try.prog Try.f4 false true false false) := by
  refine returnsInHanded_of_change (C := Try.checked) own started (by kernel_rfl) Try.func4
    (ChangeSpec.witness6 (enc := enc) (C := Try.checked) false ⟨#[], #[.int .i64 0, .int .i64 0, .int .i64 0], []⟩ 8 (by kernel_rfl) (by kernel_rfl) (by kernel_rfl) (by kernel_rfl)) ?_
  intro W base args ds gs before hval0 hW hcnd _
  have hval : ∀ (j : Nat) t v, Try.f4.params[j]? = some t → args[j]? = some v → Value.okWide Try.prog W .any base t v := hval0
  have hW' := hW
  obtain ⟨p, q, hA0, hV, rfl, hfz, hnd⟩ := hW
  have hA : DataW.TrodAll enc Try.prog W 0 (fun _ => true) true Try.f4.params.toList args.toList ds p := hA0
  rw [Try.params4] at hA hval
  obtain ⟨v0, vs0, d0, ds0, p0, q0, hargs, rfl, rfl, h0, r0⟩ := trodAll_cons hA
  obtain ⟨v1, vs1, d1, ds1, p1, q1, rfl, rfl, rfl, h1, r1⟩ := trodAll_cons r0
  obtain ⟨v2, vs2, d2, ds2, p2, q2, rfl, rfl, rfl, h2, r2⟩ := trodAll_cons r1
  obtain ⟨rfl, rfl, rfl⟩ := trodAll_nil r2
  obtain rfl : args = #[v0, v1, v2] := by cases args; simp_all
  obtain ⟨rfl, rfl⟩ := trodVars_none hV
  obtain ⟨a0, rfl, rfl, rfl, w0⟩ := open_int Try.underlying3 (hval 0 3 v0 rfl rfl) h0
  obtain ⟨a1, rfl, rfl, rfl, w1⟩ := open_int Try.underlying3 (hval 1 3 v1 rfl rfl) h1
  obtain ⟨a2, rfl, rfl, rfl, w2⟩ := open_int Try.underlying3 (hval 2 3 v2 rfl rfl) h2
  clear hA0 hval0
  refine (walk a0 a1 a2 w0 w1 w2 W).mono fun e W' ⟨he, bel⟩ => ?_
  subst he
  exact ⟨_, rfl, _, _, _, [], _, [], hW', trodAll_mk1 (shut_bool Try.underlying4 _), (trodAll_cons_mk (shut_int Try.underlying3 w0) (trodAll_cons_mk (shut_int Try.underlying3 w1) (trodAll_cons_mk (shut_int Try.underlying3 w2) trodAll_mk0))), rfl, bel.frame _, fun h => by cases h⟩

theorem over : Rows.fnExactLinearHopsRow.holds Try.pinned (OpenSpec.ofChange Rows.fnExactLinearHopsSpec) :=
  OpenClaim.holds_of_wide 4 Try.f4 rfl rfl rfl rfl rfl rfl rfl ⟨rfl, rfl, rfl, rfl, rfl⟩ rfl rfl rfl rfl rfl (by kernel_rfl) Try.func4 (by kernel_rfl)
    (of_decide_eq_true (by kernel_rfl)) (by unfold Func.isWrapper; first | (rw [if_pos (by decide +kernel)]; kernel_rfl) | (rw [if_neg (by decide +kernel)]; exact ⟨rfl, rfl⟩))
    (fun os started H enc _ => lifted os started H enc)

/-- ████ THE STATEMENT ████ -/
theorem proved : Rows.FnExactLinearHopsSaid :=
  over
#print axioms proved
end Go.Proofs.Ytlbpoodjaljmnaa.fnExactLinearHops
