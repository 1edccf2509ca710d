/- The law FnExactPowerGoal holds for every input that the given row lets in: the program's answer is the reference's. No condition of its own. -/
import Derived.Test.YtilmgimaaicamaaRows
import Derived.WalkKit
import Derived.ProofKit
import Derived.OpenShut
import Derived.ShutString
import Derived.ChangeOld
import Derived.Below
import Derived.Lib.SmallJoins
import Derived.Test.YtilmgimaaicamaaSt
namespace Go.Proofs.Ytilmgimaaicamaa.fnExactPowerGoal
open Go.ChangeShapes Go.WideShapes Go.ChangeAt Go.RowKit
open Go.ChangeMaps (open_string shut_string)
set_option linter.unusedVariables false

theorem own : ownKnob Try.prog.godebug = none := by kernel_rfl
theorem laidOut : laidOutB Try.prog = true := by kernel_rfl

/-- A slice of integers that came in: nil, or a row of 'cap' cells that hold the numbers zs. -/
def IsRow (k : IntKind) (w : World) (a : Option Addr) (len cap : Nat) (zs : List Int) : Prop :=
  (a = none ∧ len = 0 ∧ cap = 0 ∧ zs = []) ∨
  ∃ x, a = some x ∧ len ≤ cap ∧ cap ≤ maxLen ∧ zs.length = cap ∧ (∀ i, i < zs.length → w.cell? (x.add i) = some (.int k (zs.getD i 0))) ∧ ∀ n ∈ zs, (Lit.int k n).wf = true

set_option maxHeartbeats 4000000 in
theorem walk (f0Name : ByteArray) (f0Path : ByteArray) (f0Gain : Int) (f0Loss : Int) (a1 : Int) (w : World) (wf0Name : f0Name.size ≤ maxLen) (wf0Path : f0Path.size ≤ maxLen) (wf0Gain : (Lit.int .i64 f0Gain).wf = true) (wf0Loss : (Lit.int .i64 f0Loss).wf = true) (w1 : (Lit.int .i64 a1).wf = true) :
    Calls Try.prog 4 #[.agg #[.string f0Name, .string f0Path, .int .i64 f0Gain, .int .i64 f0Loss], .int .i64 a1] w fun e w' => e = .returned (.bool true) ∧ Below w.heap.size w w' := by
  by_cases hsz : (f0Name.size : Int) + (f0Path.size : Int) ≤ 1048576
  · have hr := Lib.hid (szS_yes hsz)
    have hsn : f0Name.size ≤ 1099511627776 := by omega
    have hsp : f0Path.size ≤ 1099511627776 := by omega
    have HWN := Lib.hid wf0Name; have HWP := Lib.hid wf0Path
    have hge : ¬ (1048576 : Int) - f0Name.size - f0Path.size < 0 := by omega
    clear wf0Name wf0Path
    go_enter Try.func4, Try.ntmps4
    go_wp2_with fail
    refine (szStation_c f0Name f0Path f0Gain f0Loss 1048576 _ HWN.out HWP.out (by omega) (by omega)).mono ?_; rintro e w1 ⟨rfl, hb1⟩
    have hBox1 : Box w1 w.heap.size #[.string f0Name, .string f0Path, .int .i64 f0Gain, .int .i64 f0Loss] 23 := (Box.new w #[.string f0Name, .string f0Path, .int .i64 f0Gain, .int .i64 f0Loss] 23).below hb1 (by simp)
    have hBlt := hBox1.lt
    have hbc0 := hBox1.cell (i := 0) rfl
    have hbc1 := hBox1.cell (i := 1) rfl
    have hbc2 := hBox1.cell (i := 2) rfl
    have hbc3 := hBox1.cell (i := 3) rfl
    have hz1 : w.heap.size ≤ w1.heap.size := Nat.le_trans (by simp) hb1.size
    have hBase1 : Below w.heap.size w w1 := ((Below.refl _ _).alloc (Nat.le_refl _) _).trans (hb1.mono (by simp))
    clear hb1
    rw [hr.out]
    go_wp2_with fail
    refine (toStation_c f0Name f0Path f0Gain f0Loss _).mono ?_; rintro e w2 ⟨rfl, hb2⟩
    have hBox2 := hBox1.below hb2 hBox1.lt
    clear hBox1 hbc0 hbc1 hbc2 hbc3
    have hbc0 := hBox2.cell (i := 0) rfl
    have hbc1 := hBox2.cell (i := 1) rfl
    have hbc2 := hBox2.cell (i := 2) rfl
    have hbc3 := hBox2.cell (i := 3) rfl
    have hz2 := hb2.size
    have hBase2 := hBase1.trans (hb2.mono (by omega))
    clear hBase1
    clear hb2
    go_wp2_with fail
    refine (sPowerGoal_c _ _ _ _ _ _ hsn hsp).mono ?_; rintro e w3 ⟨rfl, hb3⟩
    have hBox3 := hBox2.below hb3 hBox2.lt
    clear hBox2 hbc0 hbc1 hbc2 hbc3
    have hbc0 := hBox3.cell (i := 0) rfl
    have hbc1 := hBox3.cell (i := 1) rfl
    have hbc2 := hBox3.cell (i := 2) rfl
    have hbc3 := hBox3.cell (i := 3) rfl
    have hz3 := hb3.size
    have hBase3 := hBase2.trans (hb3.mono (by omega))
    clear hBase2
    clear hb3
    go_wp2_with fail
    refine (toStation_c f0Name f0Path f0Gain f0Loss _).mono ?_; rintro e w4 ⟨rfl, hb4⟩
    have hBox4 := hBox3.below hb4 hBox3.lt
    clear hBox3 hbc0 hbc1 hbc2 hbc3
    have hbc0 := hBox4.cell (i := 0) rfl
    have hbc1 := hBox4.cell (i := 1) rfl
    have hbc2 := hBox4.cell (i := 2) rfl
    have hbc3 := hBox4.cell (i := 3) rfl
    have hz4 := hb4.size
    have hBase4 := hBase3.trans (hb4.mono (by omega))
    clear hBase3
    clear hb4
    go_wp2_with fail
    refine (PowerGoal_c _ _ _ _ _ _).mono ?_; rintro e w5 ⟨rfl, hb5⟩
    have hBox5 := hBox4.below hb5 hBox4.lt
    clear hBox4 hbc0 hbc1 hbc2 hbc3
    have hbc0 := hBox5.cell (i := 0) rfl
    have hbc1 := hBox5.cell (i := 1) rfl
    have hbc2 := hBox5.cell (i := 2) rfl
    have hbc3 := hBox5.cell (i := 3) rfl
    have hz5 := hb5.size
    have hBase5 := hBase4.trans (hb5.mono (by omega))
    clear hBase4
    clear hb5
    go_wp2_with fail
    go_ret
    exact ⟨rfl, hBase5⟩
  · have hr := Lib.hid (szS_no (nm := f0Name) (ph := f0Path) (left := 1048576) (by omega))
    have HWN := Lib.hid wf0Name; have HWP := Lib.hid wf0Path
    clear wf0Name wf0Path hsz
    go_enter Try.func4, Try.ntmps4
    go_wp2_with fail
    refine (szStation_c f0Name f0Path f0Gain f0Loss 1048576 _ HWN.out HWP.out (by omega) (by omega)).mono ?_; rintro e w1 ⟨rfl, hb1⟩
    have hBox1 : Box w1 w.heap.size #[.string f0Name, .string f0Path, .int .i64 f0Gain, .int .i64 f0Loss] 23 := (Box.new w #[.string f0Name, .string f0Path, .int .i64 f0Gain, .int .i64 f0Loss] 23).below hb1 (by simp)
    have hBlt := hBox1.lt
    have hbc0 := hBox1.cell (i := 0) rfl
    have hbc1 := hBox1.cell (i := 1) rfl
    have hbc2 := hBox1.cell (i := 2) rfl
    have hbc3 := hBox1.cell (i := 3) rfl
    have hz1 : w.heap.size ≤ w1.heap.size := Nat.le_trans (by simp) hb1.size
    have hBase1 : Below w.heap.size w w1 := ((Below.refl _ _).alloc (Nat.le_refl _) _).trans (hb1.mono (by simp))
    clear hb1
    rw [hr.out]
    go_wp2_with fail
    go_ret
    exact ⟨rfl, hBase1⟩

set_option maxRecDepth 100000 in
theorem lifted (os : Os) (started : os.Started) (H : Type) (enc : TypeId × Value → H) :
    ReturnsInHanded {} Try.checked os 4 .any (Rows.fnExactPowerGoalSpec.pre6 enc Try.prog Try.f4 Rows.fnExactPowerGoalRow.domain false) (Rows.fnExactPowerGoalSpec.post enc Try.prog Try.f4 false true false false) := by
  refine returnsInHanded_of_change (C := Try.checked) own started (by kernel_rfl) Try.func4
    (ChangeSpec.witness6 (enc := enc) (C := Try.checked) false ⟨#[], #[.agg #[.string ByteArray.empty, .string ByteArray.empty, .int .i64 0, .int .i64 0], .int .i64 0], []⟩ 8 (by kernel_rfl) (by kernel_rfl) (by kernel_rfl) (by kernel_rfl)) ?_
  intro W base args ds gs before hval0 hW hcnd _
  have hval : ∀ (j : Nat) t v, Try.f4.params[j]? = some t → args[j]? = some v → Value.okWide Try.prog W .any base t v := hval0
  have hW' := hW
  obtain ⟨p, q, hA0, hV, rfl, hfz, hnd⟩ := hW
  have hA : DataW.TrodAll enc Try.prog W 0 (fun _ => true) true Try.f4.params.toList args.toList ds p := hA0
  rw [Try.params4] at hA hval
  obtain ⟨v0, vs0, d0, ds0, p0, q0, hargs, rfl, rfl, h0, r0⟩ := trodAll_cons hA
  obtain ⟨v1, vs1, d1, ds1, p1, q1, rfl, rfl, rfl, h1, r1⟩ := trodAll_cons r0
  obtain ⟨rfl, rfl, rfl⟩ := trodAll_nil r1
  obtain rfl : args = #[v0, v1] := by cases args; simp_all
  obtain ⟨rfl, rfl⟩ := trodVars_none hV
  have k0 := h0
  have lt0 : ∀ x ∈ p0, x.block < W.heap.size := by obtain ⟨m, hm⟩ := k0; exact DataW.trod_lt m _ _ _ hm
  have k1 := h1
  have lt1 : ∀ x ∈ p1, x.block < W.heap.size := by obtain ⟨m, hm⟩ := k1; exact DataW.trod_lt m _ _ _ hm
  obtain ⟨c00, c01, c02, c03, y00, y01, y02, y03, m0, rfl, rfl, rfl, hy00, hy01, hy02, hy03⟩ := Joins.open_agg4 Try.underlying23 (by kernel_rfl) (show Try.prog.cellsOf 23 = 4 by kernel_rfl) (hval 0 23 v0 rfl rfl) h0
  obtain ⟨f0Name, ef0Name, rfl, wf0Name⟩ := DataW.trod_string Try.underlying9 hy00
  obtain ⟨f0Path, ef0Path, rfl, wf0Path⟩ := DataW.trod_string Try.underlying9 hy01
  obtain ⟨f0Gain, ef0Gain, rfl, wf0Gain⟩ := DataW.trod_int Try.underlying3 hy02
  obtain ⟨f0Loss, ef0Loss, rfl, wf0Loss⟩ := DataW.trod_int Try.underlying3 hy03
  simp only [List.cons.injEq, and_true] at ef0Name ef0Path ef0Gain ef0Loss
  subst ef0Name ef0Path ef0Gain ef0Loss
  obtain ⟨a1, rfl, rfl, rfl, w1⟩ := open_int Try.underlying3 (hval 1 3 v1 rfl rfl) h1
  clear hA0 hval0
  refine (walk f0Name f0Path f0Gain f0Loss a1 W wf0Name wf0Path wf0Gain wf0Loss w1).mono fun e W' ⟨he, bel⟩ => ?_
  subst he
  exact ⟨_, rfl, _, _, _, [], _, [], hW', trodAll_mk1 (shut_bool Try.underlying4 _), (trodAll_cons_mk (Below.trod laidOut (by kernel_rfl) (of_decide_eq_true (by kernel_rfl)) k0 bel lt0) (trodAll_cons_mk (Below.trod laidOut (by kernel_rfl) (of_decide_eq_true (by kernel_rfl)) k1 bel lt1) trodAll_mk0)), rfl, bel.frame _, fun h => by cases h⟩

theorem over : Rows.fnExactPowerGoalRow.holds Try.pinned (OpenSpec.ofChange Rows.fnExactPowerGoalSpec) :=
  OpenClaim.holds_of_wide 4 Try.f4 rfl rfl rfl rfl rfl rfl rfl ⟨rfl, rfl, rfl, rfl, rfl⟩ rfl rfl rfl rfl rfl (by kernel_rfl) Try.func4 (by kernel_rfl)
    (of_decide_eq_true (by kernel_rfl)) (by unfold Func.isWrapper; first | (rw [if_pos (by decide +kernel)]; kernel_rfl) | (rw [if_neg (by decide +kernel)]; exact ⟨rfl, rfl⟩))
    (fun os started H enc _ => lifted os started H enc)

theorem proved : Rows.FnExactPowerGoalSaid := over
#print axioms proved
end Go.Proofs.Ytilmgimaaicamaa.fnExactPowerGoal
