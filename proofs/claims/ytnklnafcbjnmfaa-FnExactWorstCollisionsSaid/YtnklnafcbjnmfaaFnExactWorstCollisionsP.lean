/- The law FnExactWorstCollisions holds for every input that the given row lets in: the program's answer is the reference's. No condition of its own. -/
import Derived.Test.YtnklnafcbjnmfaaRows
import Derived.WalkKit
import Derived.ProofKit
import Derived.OpenShut
import Derived.ShutString
import Derived.ChangeOld
import Derived.Below
import Derived.Lib.SmallJoins
import Derived.Test.YtnklnafcbjnmfaaWs
import Derived.Test.YtnklnafcbjnmfaaWi
namespace Go.Proofs.Ytnklnafcbjnmfaa.fnExactWorstCollisions
open Go.ChangeShapes Go.WideShapes Go.ChangeAt Go.RowKit
open Go.ChangeMaps (open_string shut_string)
set_option linter.unusedVariables false

theorem own : ownKnob Try.prog.godebug = none := by kernel_rfl
theorem laidOut : laidOutB Try.prog = true := by kernel_rfl

/-- A slice of integers that came in: nil, or a row of 'cap' cells that hold the numbers zs. -/
def IsRow (k : IntKind) (w : World) (a : Option Addr) (len cap : Nat) (zs : List Int) : Prop :=
  (a = none ∧ len = 0 ∧ cap = 0 ∧ zs = []) ∨
  ∃ x, a = some x ∧ len ≤ cap ∧ cap ≤ maxLen ∧ zs.length = cap ∧ (∀ i, i < zs.length → w.cell? (x.add i) = some (.int k (zs.getD i 0))) ∧ ∀ n ∈ zs, (Lit.int k n).wf = true

set_option maxRecDepth 100000
set_option maxHeartbeats 4000000 in
theorem walk (a0 : Option Addr) (len0 cap0 : Nat) (z0 : List RowI) (w : World) (w0 : IsIntSS w a0 len0 cap0 z0) :
    Calls Try.prog 4 #[.slice a0 len0 cap0] w fun e w' => e = .returned (.bool true) ∧ Below w.heap.size w w' := by
  have hcm : len0 ≤ maxLen := by
    rcases w0 with ⟨_, h1, _⟩ | ⟨x, _, h1, h2, _⟩
    · rw [h1]; exact Nat.zero_le _
    · exact Nat.le_trans h1 h2
  by_cases hn : len0 ≤ 1048576
  · obtain ⟨hF, hR, hcap⟩ := rdF_of w0 (by omega)
    clear w0 hcm
    generalize z0.take len0 = rs at hF hR
    have hlen := hF.1
    by_cases hsz : ((rs.length : Nat) : Int) + szM rs ≤ 1048576
    · have hr := Lib.hid (szR_yes hsz)
      have hH0 : RdM w a0 len0 rs := ⟨hF, fun r hr => ⟨rowOk_rd (hR r hr) (by have := szM_mem hr; omega), (rowOk_max (hR r hr)).2⟩⟩
      have hMX := Lib.hid (show ∀ r ∈ rs, r.n ≤ maxLen from fun r hr => (rowOk_max (hR r hr)).1)
      have hnn : ¬ (1048576 : Int) - ((rs.length : Nat) : Int) - szM rs < 0 := by omega
      have HLEN := Lib.hid hlen
      clear hR hsz hlen
      go_enter Try.func4, Try.ntmps4
      go_wp2_with fail
      refine (szIntSS_c 1048576 hF hMX.out (by omega) (by omega)).mono ?_; rintro e w1 ⟨rfl, rfl⟩
      rw [hr.out]
      clear hF
      go_wp2_with fail
      refine (toIntSS_c hH0).mono ?_; rintro e w2 ⟨aS, qS, rfl, hS2, hnS, hb2⟩
      have HNS := Lib.hid hnS; clear hnS
      have hH2 := hH0.below hb2
      clear hH0
      go_wp2_with fail
      refine (sWorstCollisions_c hS2).mono ?_; rintro e w3 ⟨v, rfl, hv, hq3⟩
      have HV := Lib.hid hv; clear hv
      have hH3 := hH2.qw hq3
      have hB3 := hb2.trans ((hq3.below w2.heap.size).mono hb2.size)
      clear hS2 hH2 hb2 hq3
      go_wp2_with fail
      refine (toIntSS_c hH3).mono ?_; rintro e w4 ⟨aX, qX, rfl, hX4, hnX, hb4⟩
      have HNX := Lib.hid hnX; clear hnX
      have hH4 := hH3.below hb4
      have hB4 := hB3.trans (hb4.mono hB3.size)
      clear hH3 hb4 hB3
      go_wp2_with fail
      refine (WorstCollisions_c hX4 (Nat.le_refl _)).mono ?_; rintro e w5 ⟨u, rfl, hu, hb5⟩
      have hvu : u = v := by rw [HNX.out] at hu; have h2 := HV.out; rw [HNS.out] at h2; exact hu.uniq h2
      subst hvu
      have hne : (u != u) = false := by simp
      have hH5 := hH4.below hb5
      have hX5 := hX4.below hb5
      have hB5 := hB4.trans (hb5.mono hB4.size)
      clear hu hH4 hX4 hb5 hB4
      go_wp2_with fail
      refine (toIntSS_c hH5).mono ?_; rintro e w6 ⟨aC, qC, rfl, hC6, hnC, hb6⟩
      have HNC := Lib.hid hnC; clear hnC
      have hX6 := hX5.below hb6
      have hB6 := hB5.trans (hb6.mono hB5.size)
      clear hH5 hX5 hb6 hB5
      go_wp2_with fail
      refine (eqIntSS_same hX6 hC6 (by rw [HNX.out, HNC.out])).mono ?_; rintro e w7 ⟨rfl, hq7⟩
      have hB7 := hB6.trans ((hq7.below w6.heap.size).mono hB6.size)
      go_wp2_with fail
      go_ret
      exact ⟨rfl, hB7⟩
    · have hr := Lib.hid (szR_no (rs := rs) (left := 1048576) (by omega))
      have hMX := Lib.hid (show ∀ r ∈ rs, r.n ≤ maxLen from fun r hr => (rowOk_max (hR r hr)).1)
      clear hR hsz hlen
      go_enter Try.func4, Try.ntmps4
      go_wp2_with fail
      refine (szIntSS_c 1048576 hF hMX.out (by omega) (by omega)).mono ?_; rintro e w1 ⟨rfl, rfl⟩
      rw [hr.out]
      clear hF
      go_wp2_with fail
      go_ret
      exact ⟨rfl, Below.refl _ _⟩
  · clear w0
    go_enter Try.func4, Try.ntmps4
    go_wp2_with fail
    refine (szIntSS_long 1048576 _ (by omega) (by omega) hcm).mono ?_; rintro e w1 ⟨rfl, rfl⟩
    go_wp2_with fail
    go_ret
    exact ⟨rfl, Below.refl _ _⟩

set_option maxRecDepth 100000 in
theorem lifted (os : Os) (started : os.Started) (H : Type) (enc : TypeId × Value → H) :
    ReturnsInHanded {} Try.checked os 4 .any (Rows.fnExactWorstCollisionsSpec.pre6 enc Try.prog Try.f4 Rows.fnExactWorstCollisionsRow.domain false) (Rows.fnExactWorstCollisionsSpec.post enc Try.prog Try.f4 false true false false) := by
  refine returnsInHanded_of_change (C := Try.checked) own started (by kernel_rfl) Try.func4
    (ChangeSpec.witness6 (enc := enc) (C := Try.checked) false ⟨#[], #[.slice none 0 0], []⟩ 8 (by kernel_rfl) (by kernel_rfl) (by kernel_rfl) (by kernel_rfl)) ?_
  intro W base args ds gs before hval0 hW hcnd _
  have hval : ∀ (j : Nat) t v, Try.f4.params[j]? = some t → args[j]? = some v → Value.okWide Try.prog W .any base t v := hval0
  have hW' := hW
  obtain ⟨p, q, hA0, hV, rfl, hfz, hnd⟩ := hW
  have hA : DataW.TrodAll enc Try.prog W 0 (fun _ => true) true Try.f4.params.toList args.toList ds p := hA0
  rw [Try.params4] at hA hval
  obtain ⟨v0, vs0, d0, ds0, p0, q0, hargs, rfl, rfl, h0, r0⟩ := trodAll_cons hA
  obtain ⟨rfl, rfl, rfl⟩ := trodAll_nil r0
  obtain rfl : args = #[v0] := by cases args; simp_all
  obtain ⟨rfl, rfl⟩ := trodVars_none hV
  have k0 := h0
  have lt0 : ∀ x ∈ p0, x.block < W.heap.size := by obtain ⟨m, hm⟩ := k0; exact DataW.trod_lt m _ _ _ hm
  obtain ⟨a0, len0, cap0, rfl⟩ := okWide_slice Try.underlying28 (hval 0 28 v0 rfl rfl)
  obtain ⟨z0, w0⟩ : ∃ zs, IsIntSS W a0 len0 cap0 zs := by
    obtain ⟨fuel, hf⟩ := h0
    exact open_intss Try.underlying28 Try.underlying22 Try.underlying3 (by kernel_rfl) (by kernel_rfl) hf
  clear hA0 hval0
  refine (walk a0 len0 cap0 z0 W w0).mono fun e W' ⟨he, bel⟩ => ?_
  subst he
  exact ⟨_, rfl, _, _, _, [], _, [], hW', trodAll_mk1 (shut_bool Try.underlying4 _), (trodAll_cons_mk (Below.trod laidOut (by kernel_rfl) (of_decide_eq_true (by kernel_rfl)) k0 bel lt0) trodAll_mk0), rfl, bel.frame _, fun h => by cases h⟩

theorem over : Rows.fnExactWorstCollisionsRow.holds Try.pinned (OpenSpec.ofChange Rows.fnExactWorstCollisionsSpec) :=
  OpenClaim.holds_of_wide 4 Try.f4 rfl rfl rfl rfl rfl rfl rfl ⟨rfl, rfl, rfl, rfl, rfl⟩ rfl rfl rfl rfl rfl (by kernel_rfl) Try.func4 (by kernel_rfl)
    (of_decide_eq_true (by kernel_rfl)) (by unfold Func.isWrapper; first | (rw [if_pos (by decide +kernel)]; kernel_rfl) | (rw [if_neg (by decide +kernel)]; exact ⟨rfl, rfl⟩))
    (fun os started H enc _ => lifted os started H enc)

theorem proved : Rows.FnExactWorstCollisionsSaid := over
#print axioms proved
end Go.Proofs.Ytnklnafcbjnmfaa.fnExactWorstCollisions
