/- The law FnExactPowerTime holds for every input that the given row lets in: the program's answer is the reference's. No condition of its own. -/
import Derived.Test.YtilmgimaaicamaaRows
import Derived.WalkKit
import Derived.ProofKit
import Derived.OpenShut
import Derived.ShutString
import Derived.ChangeOld
import Derived.Below
import Derived.Lib.SmallJoins
import Derived.Test.YtilmgimaaicamaaPt
import Derived.Test.YtilmgimaaicamaaFs
namespace Go.Proofs.Ytilmgimaaicamaa.fnExactPowerTime
open Go.ChangeShapes Go.WideShapes Go.ChangeAt Go.RowKit
open Go.ChangeMaps (open_string shut_string)
set_option linter.unusedVariables false

theorem own : ownKnob Try.prog.godebug = none := by kernel_rfl
theorem laidOut : laidOutB Try.prog = true := by kernel_rfl

/-- A slice of integers that came in: nil, or a row of 'cap' cells that hold the numbers zs. -/
def IsRow (k : IntKind) (w : World) (a : Option Addr) (len cap : Nat) (zs : List Int) : Prop :=
  (a = none ∧ len = 0 ∧ cap = 0 ∧ zs = []) ∨
  ∃ x, a = some x ∧ len ≤ cap ∧ cap ≤ maxLen ∧ zs.length = cap ∧ (∀ i, i < zs.length → w.cell? (x.add i) = some (.int k (zs.getD i 0))) ∧ ∀ n ∈ zs, (Lit.int k n).wf = true

set_option maxHeartbeats 4000000 in
theorem walk (a0 : Option Addr) (len0 cap0 : Nat) (z0 : List Stn) (a1 : Int) (w : World) (w0 : IsStns w a0 len0 cap0 z0) (w1 : (Lit.int .i64 a1).wf = true) :
    Calls Try.prog 6 #[.slice a0 len0 cap0, .int .i64 a1] w fun e w' => e = .returned (.bool true) ∧ Below w.heap.size w w' := by
  have hcm : len0 ≤ maxLen := by
    rcases w0 with ⟨_, h1, _⟩ | ⟨x, _, h1, h2, _⟩
    · rw [h1]; exact Nat.zero_le _
    · exact Nat.le_trans h1 h2
  by_cases hnH : len0 ≤ 1048576
  · obtain ⟨hH0, hSm, hcap⟩ := rdS_of w0 (by omega)
    clear w0 hcap hcm
    by_cases hsz : ((z0.take len0).length : Int) + szL (z0.take len0) ≤ 1048576
    · have hr := Lib.hid (szR_yes hsz)
      have hnn : ¬ (1048576 : Int) - ((z0.take len0).length : Int) - szL (z0.take len0) < 0 := by omega
      have HB : ∀ i (h : i < (z0.take len0).length), ((z0.take len0)[i]'h).nm.size ≤ 1099511627776 ∧ ((z0.take len0)[i]'h).ph.size ≤ 1099511627776 := by
        intro i h
        have := szL_mem (z0.take len0) (List.getElem_mem h)
        omega
      generalize z0.take len0 = l at *
      have HBH := Lib.hid HB; clear HB
      clear hsz
      go_enter Try.func6, Try.ntmps6
      go_wp2_with fail
      refine (szStationS_c hH0 hSm 1048576 (by omega) (by omega)).mono ?_; rintro e w1 ⟨rfl, hb1⟩
      rw [hr.out]
      have hH1 := hH0.below hb1
      clear hH0
      go_wp2_with fail
      refine (toStationS_c hH1).mono ?_; rintro e w2 ⟨aS, nS, cS, rfl, hS2, hb2⟩
      have hz2 := hb2.size
      have hH2 := hH1.below hb2
      have hBase2 := hb1.trans (hb2.mono hb1.size)
      clear hH1 hb1 hb2
      go_wp2_with fail
      refine (sPowerTime_c _ hS2.rd HBH.out).mono ?_; rintro e w3 ⟨rfl, hb3⟩
      have hH3 := hH2.below hb3
      have hBase3 := hBase2.trans (hb3.mono hBase2.size)
      clear hH2 hBase2 hb3 hS2
      go_wp2_with fail
      refine (toStationS_c hH3).mono ?_; rintro e w4 ⟨aX, nX, cX, rfl, hX4, hb4⟩
      have hcX := hX4.cap
      have hH4 := hH3.below hb4
      have hBase4 := hBase3.trans (hb4.mono hBase3.size)
      clear hH3 hBase3 hb4
      go_wp2_with fail
      refine (PowerTime_c _ hX4.rd hcX).mono ?_; rintro e w5 ⟨rfl, hb5⟩
      have hX5 := hX4.below hb5
      have hH5 := hH4.below hb5
      have hBase5 := hBase4.trans (hb5.mono hBase4.size)
      clear hH4 hX4 hBase4 hb5
      have hne : (timeR l a1 != timeR l a1) = false := by simp
      go_wp2_with fail
      clear hne
      refine (toStationS_c hH5).mono ?_; rintro e w6 ⟨aC, nC, cC, rfl, hC6, hb6⟩
      have hX6 := hX5.below hb6
      have hBase6 := hBase5.trans (hb6.mono hBase5.size)
      clear hH5 hX5 hBase5 hb6
      go_wp2_with fail
      refine (eqStationS_same hX6.rd hC6.rd).mono ?_; rintro e w7 ⟨rfl, hb7⟩
      have hBase7 := hBase6.trans (hb7.mono hBase6.size)
      clear hX6 hC6 hBase6 hb7
      go_wp2_with fail
      go_ret
      exact ⟨rfl, hBase7⟩
    · have hr := Lib.hid (szR_no (l := z0.take len0) (left := 1048576) (by omega))
      generalize z0.take len0 = l at *
      clear hsz
      go_enter Try.func6, Try.ntmps6
      go_wp2_with fail
      refine (szStationS_c hH0 hSm 1048576 (by omega) (by omega)).mono ?_; rintro e w1 ⟨rfl, hb1⟩
      rw [hr.out]
      clear hH0
      go_wp2_with fail
      go_ret
      exact ⟨rfl, hb1⟩
  · clear w0
    go_enter Try.func6, Try.ntmps6
    go_wp2_with fail
    refine (szStationS_long 1048576 (by omega) (by omega) hcm).mono ?_; rintro e w1 ⟨rfl, rfl⟩
    go_wp2_with fail
    go_ret
    exact ⟨rfl, Below.refl _ _⟩

set_option maxRecDepth 100000 in
theorem lifted (os : Os) (started : os.Started) (H : Type) (enc : TypeId × Value → H) :
    ReturnsInHanded {} Try.checked os 6 .any (Rows.fnExactPowerTimeSpec.pre6 enc Try.prog Try.f6 Rows.fnExactPowerTimeRow.domain false) (Rows.fnExactPowerTimeSpec.post enc Try.prog Try.f6 false true false false) := by
  refine returnsInHanded_of_change (C := Try.checked) own started (by kernel_rfl) Try.func6
    (ChangeSpec.witness6 (enc := enc) (C := Try.checked) false ⟨#[], #[.slice none 0 0, .int .i64 0], []⟩ 8 (by kernel_rfl) (by kernel_rfl) (by kernel_rfl) (by kernel_rfl)) ?_
  intro W base args ds gs before hval0 hW hcnd _
  have hval : ∀ (j : Nat) t v, Try.f6.params[j]? = some t → args[j]? = some v → Value.okWide Try.prog W .any base t v := hval0
  have hW' := hW
  obtain ⟨p, q, hA0, hV, rfl, hfz, hnd⟩ := hW
  have hA : DataW.TrodAll enc Try.prog W 0 (fun _ => true) true Try.f6.params.toList args.toList ds p := hA0
  rw [Try.params6] at hA hval
  obtain ⟨v0, vs0, d0, ds0, p0, q0, hargs, rfl, rfl, h0, r0⟩ := trodAll_cons hA
  obtain ⟨v1, vs1, d1, ds1, p1, q1, rfl, rfl, rfl, h1, r1⟩ := trodAll_cons r0
  obtain ⟨rfl, rfl, rfl⟩ := trodAll_nil r1
  obtain rfl : args = #[v0, v1] := by cases args; simp_all
  obtain ⟨rfl, rfl⟩ := trodVars_none hV
  have k0 := h0
  have lt0 : ∀ x ∈ p0, x.block < W.heap.size := by obtain ⟨m, hm⟩ := k0; exact DataW.trod_lt m _ _ _ hm
  have k1 := h1
  have lt1 : ∀ x ∈ p1, x.block < W.heap.size := by obtain ⟨m, hm⟩ := k1; exact DataW.trod_lt m _ _ _ hm
  obtain ⟨a0, len0, cap0, rfl⟩ := okWide_slice Try.underlying31 (hval 0 31 v0 rfl rfl)
  obtain ⟨z0, w0⟩ : ∃ zs, IsStns W a0 len0 cap0 zs := by
    obtain ⟨fuel, hf⟩ := h0
    exact open_stns Try.underlying31 Try.underlying23 (by kernel_rfl) (by kernel_rfl) Try.underlying9 Try.underlying9 Try.underlying3 Try.underlying3 hf
  obtain ⟨a1, rfl, rfl, rfl, w1⟩ := open_int Try.underlying3 (hval 1 3 v1 rfl rfl) h1
  clear hA0 hval0
  refine (walk a0 len0 cap0 z0 a1 W w0 w1).mono fun e W' ⟨he, bel⟩ => ?_
  subst he
  exact ⟨_, rfl, _, _, _, [], _, [], hW', trodAll_mk1 (shut_bool Try.underlying4 _), (trodAll_cons_mk (Below.trod laidOut (by kernel_rfl) (of_decide_eq_true (by kernel_rfl)) k0 bel lt0) (trodAll_cons_mk (Below.trod laidOut (by kernel_rfl) (of_decide_eq_true (by kernel_rfl)) k1 bel lt1) trodAll_mk0)), rfl, bel.frame _, fun h => by cases h⟩

theorem over : Rows.fnExactPowerTimeRow.holds Try.pinned (OpenSpec.ofChange Rows.fnExactPowerTimeSpec) :=
  OpenClaim.holds_of_wide 6 Try.f6 rfl rfl rfl rfl rfl rfl rfl ⟨rfl, rfl, rfl, rfl, rfl⟩ rfl rfl rfl rfl rfl (by kernel_rfl) Try.func6 (by kernel_rfl)
    (of_decide_eq_true (by kernel_rfl)) (by unfold Func.isWrapper; first | (rw [if_pos (by decide +kernel)]; kernel_rfl) | (rw [if_neg (by decide +kernel)]; exact ⟨rfl, rfl⟩))
    (fun os started H enc _ => lifted os started H enc)

theorem proved : Rows.FnExactPowerTimeSaid := over
#print axioms proved
end Go.Proofs.Ytilmgimaaicamaa.fnExactPowerTime
