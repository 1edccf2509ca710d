/- The law FnExactHopSequence holds for every input that the given row lets in: the program's answer is the reference's. No condition of its own. -/
import Derived.Test.YtlbpoodjaljmnabRows
import Derived.WalkKit
import Derived.ProofKit
import Derived.OpenShut
import Derived.ShutString
import Derived.ChangeOld
import Derived.Below
import Derived.Lib.SmallJoins
import Derived.Test.YtlbpoodjaljmnabRh
namespace Go.Proofs.Ytlbpoodjaljmnab.fnExactHopSequence
open Go.ChangeShapes Go.WideShapes Go.ChangeAt Go.RowKit
open Go.ChangeMaps (open_string shut_string)
set_option linter.unusedVariables false

theorem own : ownKnob Try.prog.godebug = none := by kernel_rfl
theorem laidOut : laidOutB Try.prog = true := by kernel_rfl

/-- A slice of integers that came in: nil, or a row of 'cap' cells that hold the numbers zs. -/
def IsRow (k : IntKind) (w : World) (a : Option Addr) (len cap : Nat) (zs : List Int) : Prop :=
  (a = none ∧ len = 0 ∧ cap = 0 ∧ zs = []) ∨
  ∃ x, a = some x ∧ len ≤ cap ∧ cap ≤ maxLen ∧ zs.length = cap ∧ (∀ i, i < zs.length → w.cell? (x.add i) = some (.int k (zs.getD i 0))) ∧ ∀ n ∈ zs, (Lit.int k n).wf = true

set_option maxHeartbeats 4000000 in
theorem walk (f0Size : Int) (f0Taps : Int) (f0State : Int) (a1 : Int) (a2 : Int) (w : World) (wf0Size : (Lit.int .i64 f0Size).wf = true) (wf0Taps : (Lit.int .i64 f0Taps).wf = true) (wf0State : (Lit.int .i64 f0State).wf = true) (w1 : (Lit.int .i64 a1).wf = true) (w2 : (Lit.int .i64 a2).wf = true) :
    Calls Try.prog 6 #[.agg #[.int .i64 f0Size, .int .i64 f0Taps, .int .i64 f0State], .int .i64 a1, .int .i64 a2] w fun e w' => e = .returned (.bool true) ∧ Below w.heap.size w w' := by
  go_enter Try.func6, Try.ntmps6
  go_wp2_with fail
  refine (toRegister_c _ _ _ _).mono ?_; rintro e w1 ⟨rfl, hb1⟩
  have hBox1 : Box w1 w.heap.size #[.int .i64 f0Size, .int .i64 f0Taps, .int .i64 f0State] 35 := (Box.new w #[.int .i64 f0Size, .int .i64 f0Taps, .int .i64 f0State] 35).below hb1 (by simp)
  have hBlt := hBox1.lt
  have hbc0 := hBox1.cell (i := 0) rfl
  have hbc1 := hBox1.cell (i := 1) rfl
  have hbc2 := hBox1.cell (i := 2) rfl
  have hz1 : w.heap.size ≤ w1.heap.size := Nat.le_trans (by simp) hb1.size
  have hBase1 : Below w.heap.size w w1 := ((Below.refl _ _).alloc (Nat.le_refl _) _).trans (hb1.mono (by simp))
  clear hb1
  go_wp2_with fail
  refine (sHopSequence_c _ _ _ _ _ _).mono ?_; rintro e w2 ⟨aRW, nRW, cRW, rfl, hRW2, hb2⟩
  have hBox2 := hBox1.below hb2 hBox1.lt
  clear hBox1 hbc0 hbc1 hbc2
  have hbc0 := hBox2.cell (i := 0) rfl
  have hbc1 := hBox2.cell (i := 1) rfl
  have hbc2 := hBox2.cell (i := 2) rfl
  have hz2 := hb2.size
  have hBase2 := hBase1.trans (hb2.mono (by omega))
  clear hBase1
  clear hb2
  have s_RW := hRW2.2.1
  go_wp2_with fail
  refine (toRegister_c _ _ _ _).mono ?_; rintro e w3 ⟨rfl, hb3⟩
  have hBox3 := hBox2.below hb3 hBox2.lt
  clear hBox2 hbc0 hbc1 hbc2
  have hbc0 := hBox3.cell (i := 0) rfl
  have hbc1 := hBox3.cell (i := 1) rfl
  have hbc2 := hBox3.cell (i := 2) rfl
  have hz3 := hb3.size
  have hRW3 := hRW2.below hb3
  clear hRW2
  have hBase3 := hBase2.trans (hb3.mono (by omega))
  clear hBase2
  clear hb3
  go_wp2_with fail
  refine (HopSequence_c _ _ _ _ _ _).mono ?_; rintro e w4 ⟨aRG, nRG, cRG, rfl, hRG4, hb4⟩
  have lt_RW_RG := hRW3.below'
  have hBox4 := hBox3.below hb4 hBox3.lt
  clear hBox3 hbc0 hbc1 hbc2
  have hbc0 := hBox4.cell (i := 0) rfl
  have hbc1 := hBox4.cell (i := 1) rfl
  have hbc2 := hBox4.cell (i := 2) rfl
  have hz4 := hb4.size
  have hRW4 := hRW3.below hb4
  clear hRW3
  have hBase4 := hBase3.trans (hb4.mono (by omega))
  clear hBase3
  clear hb4
  have s_RG := hRG4.2.1
  go_wp2_with fail
  refine (eqIntS_same hRG4.rd hRW4.rd).mono ?_; rintro e w5 ⟨rfl, hq5⟩
  have hb5 := hq5.below w4.heap.size
  have hBox5 := hBox4.below hb5 hBox4.lt
  clear hBox4 hbc0 hbc1 hbc2
  have hbc0 := hBox5.cell (i := 0) rfl
  have hbc1 := hBox5.cell (i := 1) rfl
  have hbc2 := hBox5.cell (i := 2) rfl
  have hz5 := hb5.size
  have hRW5 := hRW4.below hb5
  clear hRW4
  have hRG5 := hRG4.below hb5
  clear hRG4
  have hBase5 := hBase4.trans (hb5.mono (by omega))
  clear hBase4
  clear hb5
  go_wp2_with fail
  refine (markIntS_c (1) hRG5 (by omega) (by omega)).mono ?_; rintro e w6 ⟨rfl, hRG6, hw6⟩
  have hRW6 := hRW5.wrNew hRG5 hw6 lt_RW_RG
  clear hRW5
  have hBox6 := hBox5.below (hw6.below hRG5 (by omega)) (by omega)
  clear hBox5 hbc0 hbc1 hbc2
  have hbc0 := hBox6.cell (i := 0) rfl
  have hbc1 := hBox6.cell (i := 1) rfl
  have hbc2 := hBox6.cell (i := 2) rfl
  have hz6 := hw6.size
  have hBase6 := hBase5.trans ((hw6.below hRG5 (by omega)).mono (by omega))
  clear hBase5
  clear hRG5 hw6
  go_wp2_with fail
  refine (heldIntS_c (1) hRG6.rd (by omega) (by omega)).mono ?_; rintro e w' ⟨rfl, rfl⟩
  go_wp2_with fail
  refine (toRegister_c _ _ _ _).mono ?_; rintro e w7 ⟨rfl, hb7⟩
  have hBox7 := hBox6.below hb7 hBox6.lt
  clear hBox6 hbc0 hbc1 hbc2
  have hbc0 := hBox7.cell (i := 0) rfl
  have hbc1 := hBox7.cell (i := 1) rfl
  have hbc2 := hBox7.cell (i := 2) rfl
  have hz7 := hb7.size
  have hRW7 := hRW6.below hb7
  clear hRW6
  have hRG7 := hRG6.below hb7
  clear hRG6
  have hBase7 := hBase6.trans (hb7.mono (by omega))
  clear hBase6
  clear hb7
  go_wp2_with fail
  refine (HopSequence_c _ _ _ _ _ _).mono ?_; rintro e w8 ⟨aRH, nRH, cRH, rfl, hRH8, hb8⟩
  have lt_RW_RH := hRW7.below'
  have lt_RG_RH := hRG7.below'
  have hBox8 := hBox7.below hb8 hBox7.lt
  clear hBox7 hbc0 hbc1 hbc2
  have hbc0 := hBox8.cell (i := 0) rfl
  have hbc1 := hBox8.cell (i := 1) rfl
  have hbc2 := hBox8.cell (i := 2) rfl
  have hz8 := hb8.size
  have hRW8 := hRW7.below hb8
  clear hRW7
  have hRG8 := hRG7.below hb8
  clear hRG7
  have hBase8 := hBase7.trans (hb8.mono (by omega))
  clear hBase7
  clear hb8
  have s_RH := hRH8.2.1
  go_wp2_with fail
  refine (eqIntS_same hRH8.rd hRW8.rd).mono ?_; rintro e w9 ⟨rfl, hq9⟩
  have hb9 := hq9.below w8.heap.size
  have hBox9 := hBox8.below hb9 hBox8.lt
  clear hBox8 hbc0 hbc1 hbc2
  have hbc0 := hBox9.cell (i := 0) rfl
  have hbc1 := hBox9.cell (i := 1) rfl
  have hbc2 := hBox9.cell (i := 2) rfl
  have hz9 := hb9.size
  have hRW9 := hRW8.below hb9
  clear hRW8
  have hRG9 := hRG8.below hb9
  clear hRG8
  have hRH9 := hRH8.below hb9
  clear hRH8
  have hBase9 := hBase8.trans (hb9.mono (by omega))
  clear hBase8
  clear hb9
  go_wp2_with fail
  refine (heldIntS_c (1) hRG9.rd (by omega) (by omega)).mono ?_; rintro e w' ⟨rfl, rfl⟩
  go_wp2_with fail
  go_ret
  exact ⟨rfl, hBase9⟩

set_option maxRecDepth 100000 in
theorem lifted (os : Os) (started : os.Started) (H : Type) (enc : TypeId × Value → H) :
    ReturnsInHanded {} Try.checked os 6 .any (Rows.fnExactHopSequenceSpec.pre6 enc Try.prog Try.f6 Rows.fnExactHopSequenceRow.domain false) (Rows.fnExactHopSequenceSpec.post enc Try.prog Try.f6 false true false false) := by
  refine returnsInHanded_of_change (C := Try.checked) own started (by kernel_rfl) Try.func6
    (ChangeSpec.witness6 (enc := enc) (C := Try.checked) false ⟨#[], #[.agg #[.int .i64 0, .int .i64 0, .int .i64 0], .int .i64 0, .int .i64 0], []⟩ 8 (by kernel_rfl) (by kernel_rfl) (by kernel_rfl) (by kernel_rfl)) ?_
  intro W base args ds gs before hval0 hW hcnd _
  have hval : ∀ (j : Nat) t v, Try.f6.params[j]? = some t → args[j]? = some v → Value.okWide Try.prog W .any base t v := hval0
  have hW' := hW
  obtain ⟨p, q, hA0, hV, rfl, hfz, hnd⟩ := hW
  have hA : DataW.TrodAll enc Try.prog W 0 (fun _ => true) true Try.f6.params.toList args.toList ds p := hA0
  rw [Try.params6] at hA hval
  obtain ⟨v0, vs0, d0, ds0, p0, q0, hargs, rfl, rfl, h0, r0⟩ := trodAll_cons hA
  obtain ⟨v1, vs1, d1, ds1, p1, q1, rfl, rfl, rfl, h1, r1⟩ := trodAll_cons r0
  obtain ⟨v2, vs2, d2, ds2, p2, q2, rfl, rfl, rfl, h2, r2⟩ := trodAll_cons r1
  obtain ⟨rfl, rfl, rfl⟩ := trodAll_nil r2
  obtain rfl : args = #[v0, v1, v2] := by cases args; simp_all
  obtain ⟨rfl, rfl⟩ := trodVars_none hV
  have k0 := h0
  have lt0 : ∀ x ∈ p0, x.block < W.heap.size := by obtain ⟨m, hm⟩ := k0; exact DataW.trod_lt m _ _ _ hm
  have k1 := h1
  have lt1 : ∀ x ∈ p1, x.block < W.heap.size := by obtain ⟨m, hm⟩ := k1; exact DataW.trod_lt m _ _ _ hm
  have k2 := h2
  have lt2 : ∀ x ∈ p2, x.block < W.heap.size := by obtain ⟨m, hm⟩ := k2; exact DataW.trod_lt m _ _ _ hm
  obtain ⟨c00, c01, c02, y00, y01, y02, m0, rfl, rfl, rfl, hy00, hy01, hy02⟩ := Joins.open_agg3 Try.underlying35 (by kernel_rfl) (show Try.prog.cellsOf 35 = 3 by kernel_rfl) (hval 0 35 v0 rfl rfl) h0
  obtain ⟨f0Size, ef0Size, rfl, wf0Size⟩ := DataW.trod_int Try.underlying3 hy00
  obtain ⟨f0Taps, ef0Taps, rfl, wf0Taps⟩ := DataW.trod_int Try.underlying3 hy01
  obtain ⟨f0State, ef0State, rfl, wf0State⟩ := DataW.trod_int Try.underlying3 hy02
  simp only [List.cons.injEq, and_true] at ef0Size ef0Taps ef0State
  subst ef0Size ef0Taps ef0State
  obtain ⟨a1, rfl, rfl, rfl, w1⟩ := open_int Try.underlying3 (hval 1 3 v1 rfl rfl) h1
  obtain ⟨a2, rfl, rfl, rfl, w2⟩ := open_int Try.underlying3 (hval 2 3 v2 rfl rfl) h2
  clear hA0 hval0
  refine (walk f0Size f0Taps f0State a1 a2 W wf0Size wf0Taps wf0State w1 w2).mono fun e W' ⟨he, bel⟩ => ?_
  subst he
  exact ⟨_, rfl, _, _, _, [], _, [], hW', trodAll_mk1 (shut_bool Try.underlying4 _), (trodAll_cons_mk (Below.trod laidOut (by kernel_rfl) (of_decide_eq_true (by kernel_rfl)) k0 bel lt0) (trodAll_cons_mk (Below.trod laidOut (by kernel_rfl) (of_decide_eq_true (by kernel_rfl)) k1 bel lt1) (trodAll_cons_mk (Below.trod laidOut (by kernel_rfl) (of_decide_eq_true (by kernel_rfl)) k2 bel lt2) trodAll_mk0))), rfl, bel.frame _, fun h => by cases h⟩

theorem over : Rows.fnExactHopSequenceRow.holds Try.pinned (OpenSpec.ofChange Rows.fnExactHopSequenceSpec) :=
  OpenClaim.holds_of_wide 6 Try.f6 rfl rfl rfl rfl rfl rfl rfl ⟨rfl, rfl, rfl, rfl, rfl⟩ rfl rfl rfl rfl rfl (by kernel_rfl) Try.func6 (by kernel_rfl)
    (of_decide_eq_true (by kernel_rfl)) (by unfold Func.isWrapper; first | (rw [if_pos (by decide +kernel)]; kernel_rfl) | (rw [if_neg (by decide +kernel)]; exact ⟨rfl, rfl⟩))
    (fun os started H enc _ => lifted os started H enc)

theorem proved : Rows.FnExactHopSequenceSaid := over
#print axioms proved
end Go.Proofs.Ytlbpoodjaljmnab.fnExactHopSequence
