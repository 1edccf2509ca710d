/- The law FnExactProtectPayload holds for every input that the given row lets in: the program's answer is the reference's. No condition of its own. -/
import Derived.Test.YtbgabjdgbibohaaRows
import Derived.WalkKit
import Derived.ProofKit
import Derived.OpenShut
import Derived.ShutString
import Derived.ChangeOld
import Derived.Below
import Derived.Lib.SmallJoins
import Derived.Test.YtbgabjdgbibohaaOc
import Derived.Test.YtbgabjdgbibohaaLa
namespace Go.Proofs.Ytbgabjdgbibohaa.fnExactProtectPayload
open Go.ChangeShapes Go.WideShapes Go.ChangeAt Go.RowKit
open Go.ChangeMaps (open_string shut_string)
set_option linter.unusedVariables false

theorem own : ownKnob Try.prog.godebug = none := by kernel_rfl
theorem laidOut : laidOutB Try.prog = true := by kernel_rfl

/-- A slice of integers that came in: nil, or a row of 'cap' cells that hold the numbers zs. -/
def IsRow (k : IntKind) (w : World) (a : Option Addr) (len cap : Nat) (zs : List Int) : Prop :=
  (a = none ∧ len = 0 ∧ cap = 0 ∧ zs = []) ∨
  ∃ x, a = some x ∧ len ≤ cap ∧ cap ≤ maxLen ∧ zs.length = cap ∧ (∀ i, i < zs.length → w.cell? (x.add i) = some (.int k (zs.getD i 0))) ∧ ∀ n ∈ zs, (Lit.int k n).wf = true

set_option maxHeartbeats 4000000 in
theorem walk (a0 : ByteArray) (a1 : Int) (f2Size : Int) (f2Taps : Int) (f2State : Int) (w : World) (w0 : a0.size ≤ maxLen) (w1 : (Lit.int .i64 a1).wf = true) (wf2Size : (Lit.int .i64 f2Size).wf = true) (wf2Taps : (Lit.int .i64 f2Taps).wf = true) (wf2State : (Lit.int .i64 f2State).wf = true) :
    Calls Try.prog 3 #[.string a0, .int .i64 a1, .agg #[.int .i64 f2Size, .int .i64 f2Taps, .int .i64 f2State]] w fun e w' => e = .returned (.bool true) ∧ Below w.heap.size w w' := by
  by_cases hn : a0.size ≤ 1048576
  · go_enter Try.func3, Try.ntmps3
    go_wp2_with fail
    refine (toRegister_c _ _ _ _).mono ?_; rintro e w1 ⟨rfl, hb1⟩
    have hBox1 : Box w1 w.heap.size #[.int .i64 f2Size, .int .i64 f2Taps, .int .i64 f2State] 23 := (Box.new w #[.int .i64 f2Size, .int .i64 f2Taps, .int .i64 f2State] 23).below hb1 (by simp)
    have hbc0 := hBox1.cell (i := 0) rfl
    have hbc1 := hBox1.cell (i := 1) rfl
    have hbc2 := hBox1.cell (i := 2) rfl
    have hBase1 : Below w.heap.size w w1 := ((Below.refl _ _).alloc (Nat.le_refl _) _).trans (hb1.mono (by simp))
    clear hb1
    go_wp2_with fail
    refine (sProtectPayload_c _ _ _ _ _ _ (by omega)).mono ?_; rintro e w2 ⟨rfl, hb2⟩
    have hBox2 := hBox1.below hb2 hBox1.lt
    clear hBox1 hbc0 hbc1 hbc2
    have hbc0 := hBox2.cell (i := 0) rfl
    have hbc1 := hBox2.cell (i := 1) rfl
    have hbc2 := hBox2.cell (i := 2) rfl
    have hBase2 := hBase1.trans (hb2.mono hBase1.size)
    clear hBase1 hb2
    go_wp2_with fail
    refine (toRegister_c _ _ _ _).mono ?_; rintro e w3 ⟨rfl, hb3⟩
    have hBox3 := hBox2.below hb3 hBox2.lt
    clear hBox2 hbc0 hbc1 hbc2
    have hbc0 := hBox3.cell (i := 0) rfl
    have hbc1 := hBox3.cell (i := 1) rfl
    have hbc2 := hBox3.cell (i := 2) rfl
    have hBase3 := hBase2.trans (hb3.mono hBase2.size)
    clear hBase2 hb3
    go_wp2_with fail
    refine (ProtectPayload_c _ _ _ _ _ _).mono ?_; rintro e w4 ⟨rfl, hb4⟩
    have hBox4 := hBox3.below hb4 hBox3.lt
    clear hBox3 hbc0 hbc1 hbc2
    have hbc0 := hBox4.cell (i := 0) rfl
    have hbc1 := hBox4.cell (i := 1) rfl
    have hbc2 := hBox4.cell (i := 2) rfl
    have hBase4 := hBase3.trans (hb4.mono hBase3.size)
    clear hBase3 hb4
    generalize (prR a0 a1 f2Size f2Taps f2State).getD ByteArray.empty = r0 at *
    generalize (prR a0 a1 f2Size f2Taps f2State).isSome = r1 at *
    go_wp2_with fail
    go_ret
    exact ⟨rfl, hBase4⟩
  · go_enter Try.func3, Try.ntmps3
    go_wp2_with fail
    go_ret
    exact ⟨rfl, (Below.refl _ _).alloc (Nat.le_refl _) _⟩

set_option maxRecDepth 100000 in
theorem lifted (os : Os) (started : os.Started) (H : Type) (enc : TypeId × Value → H) :
    ReturnsInHanded {} Try.checked os 3 .any (Rows.fnExactProtectPayloadSpec.pre6 enc Try.prog Try.f3 Rows.fnExactProtectPayloadRow.domain false) (Rows.fnExactProtectPayloadSpec.post enc Try.prog Try.f3 false true false false) := by
  refine returnsInHanded_of_change (C := Try.checked) own started (by kernel_rfl) Try.func3
    (ChangeSpec.witness6 (enc := enc) (C := Try.checked) false ⟨#[], #[.string ByteArray.empty, .int .i64 0, .agg #[.int .i64 0, .int .i64 0, .int .i64 0]], []⟩ 8 (by kernel_rfl) (by kernel_rfl) (by kernel_rfl) (by kernel_rfl)) ?_
  intro W base args ds gs before hval0 hW hcnd _
  have hval : ∀ (j : Nat) t v, Try.f3.params[j]? = some t → args[j]? = some v → Value.okWide Try.prog W .any base t v := hval0
  have hW' := hW
  obtain ⟨p, q, hA0, hV, rfl, hfz, hnd⟩ := hW
  have hA : DataW.TrodAll enc Try.prog W 0 (fun _ => true) true Try.f3.params.toList args.toList ds p := hA0
  rw [Try.params3] at hA hval
  obtain ⟨v0, vs0, d0, ds0, p0, q0, hargs, rfl, rfl, h0, r0⟩ := trodAll_cons hA
  obtain ⟨v1, vs1, d1, ds1, p1, q1, rfl, rfl, rfl, h1, r1⟩ := trodAll_cons r0
  obtain ⟨v2, vs2, d2, ds2, p2, q2, rfl, rfl, rfl, h2, r2⟩ := trodAll_cons r1
  obtain ⟨rfl, rfl, rfl⟩ := trodAll_nil r2
  obtain rfl : args = #[v0, v1, v2] := by cases args; simp_all
  obtain ⟨rfl, rfl⟩ := trodVars_none hV
  have k0 := h0
  have lt0 : ∀ x ∈ p0, x.block < W.heap.size := by obtain ⟨m, hm⟩ := k0; exact DataW.trod_lt m _ _ _ hm
  have k1 := h1
  have lt1 : ∀ x ∈ p1, x.block < W.heap.size := by obtain ⟨m, hm⟩ := k1; exact DataW.trod_lt m _ _ _ hm
  have k2 := h2
  have lt2 : ∀ x ∈ p2, x.block < W.heap.size := by obtain ⟨m, hm⟩ := k2; exact DataW.trod_lt m _ _ _ hm
  obtain ⟨a0, rfl, rfl, rfl, w0⟩ := open_string Try.underlying9 (hval 0 9 v0 rfl rfl) h0
  obtain ⟨a1, rfl, rfl, rfl, w1⟩ := open_int Try.underlying3 (hval 1 3 v1 rfl rfl) h1
  obtain ⟨c20, c21, c22, y20, y21, y22, m2, rfl, rfl, rfl, hy20, hy21, hy22⟩ := Joins.open_agg3 Try.underlying23 (by kernel_rfl) (show Try.prog.cellsOf 23 = 3 by kernel_rfl) (hval 2 23 v2 rfl rfl) h2
  obtain ⟨f2Size, ef2Size, rfl, wf2Size⟩ := DataW.trod_int Try.underlying3 hy20
  obtain ⟨f2Taps, ef2Taps, rfl, wf2Taps⟩ := DataW.trod_int Try.underlying3 hy21
  obtain ⟨f2State, ef2State, rfl, wf2State⟩ := DataW.trod_int Try.underlying3 hy22
  simp only [List.cons.injEq, and_true] at ef2Size ef2Taps ef2State
  subst ef2Size ef2Taps ef2State
  clear hA0 hval0
  refine (walk a0 a1 f2Size f2Taps f2State W w0 w1 wf2Size wf2Taps wf2State).mono fun e W' ⟨he, bel⟩ => ?_
  subst he
  exact ⟨_, rfl, _, _, _, [], _, [], hW', trodAll_mk1 (shut_bool Try.underlying4 _), (trodAll_cons_mk (Below.trod laidOut (by kernel_rfl) (of_decide_eq_true (by kernel_rfl)) k0 bel lt0) (trodAll_cons_mk (Below.trod laidOut (by kernel_rfl) (of_decide_eq_true (by kernel_rfl)) k1 bel lt1) (trodAll_cons_mk (Below.trod laidOut (by kernel_rfl) (of_decide_eq_true (by kernel_rfl)) k2 bel lt2) trodAll_mk0))), rfl, bel.frame _, fun h => by cases h⟩

theorem over : Rows.fnExactProtectPayloadRow.holds Try.pinned (OpenSpec.ofChange Rows.fnExactProtectPayloadSpec) :=
  OpenClaim.holds_of_wide 3 Try.f3 rfl rfl rfl rfl rfl rfl rfl ⟨rfl, rfl, rfl, rfl, rfl⟩ rfl rfl rfl rfl rfl (by kernel_rfl) Try.func3 (by kernel_rfl)
    (of_decide_eq_true (by kernel_rfl)) (by unfold Func.isWrapper; first | (rw [if_pos (by decide +kernel)]; kernel_rfl) | (rw [if_neg (by decide +kernel)]; exact ⟨rfl, rfl⟩))
    (fun os started H enc _ => lifted os started H enc)

theorem proved : Rows.FnExactProtectPayloadSaid := over
#print axioms proved
end Go.Proofs.Ytbgabjdgbibohaa.fnExactProtectPayload
