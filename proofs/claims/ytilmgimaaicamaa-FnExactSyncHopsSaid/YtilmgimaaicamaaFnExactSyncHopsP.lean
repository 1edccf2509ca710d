/- The law FnExactSyncHops holds for every input that the given row lets in: the program's answer is the reference's. No condition of its own. -/
import Derived.Test.YtilmgimaaicamaaRows
import Derived.WalkKit
import Derived.ProofKit
import Derived.OpenShut
import Derived.ShutString
import Derived.ChangeOld
import Derived.Below
import Derived.Lib.SmallJoins
import Derived.Test.YtilmgimaaicamaaRe
namespace Go.Proofs.Ytilmgimaaicamaa.fnExactSyncHops
open Go.ChangeShapes Go.WideShapes Go.ChangeAt Go.RowKit
open Go.ChangeMaps (open_string shut_string)
set_option linter.unusedVariables false

theorem own : ownKnob Try.prog.godebug = none := by kernel_rfl
theorem laidOut : laidOutB Try.prog = true := by kernel_rfl

/-- A slice of integers that came in: nil, or a row of 'cap' cells that hold the numbers zs. -/
def IsRow (k : IntKind) (w : World) (a : Option Addr) (len cap : Nat) (zs : List Int) : Prop :=
  (a = none ∧ len = 0 ∧ cap = 0 ∧ zs = []) ∨
  ∃ x, a = some x ∧ len ≤ cap ∧ cap ≤ maxLen ∧ zs.length = cap ∧ (∀ i, i < zs.length → w.cell? (x.add i) = some (.int k (zs.getD i 0))) ∧ ∀ n ∈ zs, (Lit.int k n).wf = true

set_option maxHeartbeats 4000000 in
theorem walk (a0 : Int) (a1 : Int) (a2 : Int) (a3 : Option Addr) (len3 cap3 : Nat) (z3 : List Int) (w : World) (w0 : (Lit.int .i64 a0).wf = true) (w1 : (Lit.int .i64 a1).wf = true) (w2 : (Lit.int .i64 a2).wf = true) (w3 : IsRow .i64 w a3 len3 cap3 z3) :
    Calls Try.prog 10 #[.int .i64 a0, .int .i64 a1, .int .i64 a2, .slice a3 len3 cap3] w fun e w' => e = .returned (.bool true) ∧ Below w.heap.size w w' := by
  by_cases hnH : len3 ≤ 1048576
  · have hH0 := rd_of_row w3 (by omega)
    clear w3
    obtain ⟨rs, rt, rx, rb, hRe⟩ : ∃ rs rt rx rb, ∀ w0 e w', RetRegB w0 (syncR a0 a1 a2 (List.take len3 z3)) e w' → e = .returned (.tuple #[.agg #[.int .i64 rs, .int .i64 rt, .int .i64 rx], .bool rb]) ∧ Below w0.heap.size w0 w' := ⟨_, _, _, _, fun _ _ _ h => h⟩
    have HRE := Lib.hid hRe
    clear hRe
    go_enter Try.func10, Try.ntmps10
    go_wp2_with fail
    refine (toIntS_c hH0).mono ?_; rintro e w1 ⟨aSH, nSH, cSH, rfl, hSH1, hb1⟩
    have lt_H_SH := hH0.lt
    have hz1 := hb1.size
    have hH1 := hH0.below hb1
    clear hH0
    have hBase1 : Below w.heap.size w w1 := (hb1.mono (by omega))
    clear hb1
    have s_SH := hSH1.2.1
    go_wp2_with fail
    refine (sSyncHops_c _ _ _ hSH1.rd).mono ?_; intro e w2 hh; obtain ⟨rfl, hb2⟩ := HRE.out _ _ _ hh; clear hh
    have hz2 := hb2.size
    have hH2 := (hH1.below hb2).below ((Below.refl _ _).alloc (Nat.le_refl _) (.cells #[.int .i64 rs, .int .i64 rt, .int .i64 rx] 48))
    clear hH1 hSH1
    have hBase2 := (hBase1.trans (hb2.mono (by omega))).alloc (by omega) (.cells #[.int .i64 rs, .int .i64 rt, .int .i64 rx] 48)
    clear hBase1 hb2
    have hBx2 := Box.new w2 #[.int .i64 rs, .int .i64 rt, .int .i64 rx] 48
    go_wp2_with fail
    refine (toIntS_c hH2).mono ?_; rintro e w3 ⟨aXH, nXH, cXH, rfl, hXH3, hb3⟩
    have lt_H_XH := hH2.lt
    have hz3 : w2.heap.size < w3.heap.size := Nat.lt_of_lt_of_le (by simp) hb3.size
    have hH3 := hH2.below hb3
    clear hH2
    have hBase3 := hBase2.trans (hb3.mono (by simp; omega))
    clear hBase2
    have hBx3 := hBx2.below hb3 (by simp)
    clear hBx2 hb3
    have s_XH := hXH3.2.1
    go_wp2_with fail
    refine (SyncHops_c _ _ _ hXH3.rd).mono ?_; intro e w4 hh; obtain ⟨rfl, hb4⟩ := HRE.out _ _ _ hh; clear hh
    have hz4 := hb4.size
    have hB4 : Below w3.heap.size w3 (w4.alloc (.cells #[.int .i64 rs, .int .i64 rt, .int .i64 rx] 48)) := hb4.alloc (by omega) _
    have hH4 := hH3.below hB4
    have hXH4 := hXH3.below hB4
    have hBase4 := hBase3.trans (hB4.mono (by omega))
    have hBx4 := hBx3.below hB4 (by omega)
    have hBy4 := Box.new w4 #[.int .i64 rs, .int .i64 rt, .int .i64 rx] 48
    clear hH3 hXH3 hBase3 hBx3 hB4 hb4
    have hx0 := hBx4.cell (i := 0) rfl
    have hx1 := hBx4.cell (i := 1) rfl
    have hx2 := hBx4.cell (i := 2) rfl
    have hy0 := hBy4.cell (i := 0) rfl
    have hy1 := hBy4.cell (i := 1) rfl
    have hy2 := hBy4.cell (i := 2) rfl
    go_wp2_with fail
    refine (eqRegister_same rs rt rx _).mono ?_; rintro e w5 ⟨rfl, hb5⟩
    have hz5 : w4.heap.size < w5.heap.size := Nat.lt_of_lt_of_le (by simp) hb5.size
    have hH5 := hH4.below hb5
    have hXH5 := hXH4.below hb5
    have hBase5 := hBase4.trans (hb5.mono (by simp; omega))
    clear hH4 hXH4 hBase4 hb5 hBx4 hBy4 hx0 hx1 hx2 hy0 hy1 hy2
    have hne : (rb != rb) = false := by simp
    go_wp2_with fail
    clear hne
    refine (toIntS_c hH5).mono ?_; rintro e w6 ⟨aCH, nCH, cCH, rfl, hCH6, hb6⟩
    have lt_XH_CH := hXH5.below'
    have hz6 := hb6.size
    have hXH6 := hXH5.below hb6
    have hBase6 := hBase5.trans (hb6.mono (by omega))
    clear hH5 hXH5 hBase5 hb6
    have s_CH := hCH6.2.1
    go_wp2_with fail
    refine (eqIntS_same hXH6.rd hCH6.rd).mono ?_; rintro e w7 ⟨rfl, hq7⟩
    have hb7 := hq7.below w6.heap.size
    have hBase7 := hBase6.trans (hb7.mono (by omega))
    clear hXH6 hCH6 hBase6 hb7
    go_wp2_with fail
    go_ret
    exact ⟨rfl, hBase7⟩
  · have hn' : (1048576 : Int) < (len3 : Int) := by omega
    go_enter Try.func10, Try.ntmps10
    go_wp2
    go_ret
    exact ⟨rfl, Below.refl _ _⟩

set_option maxRecDepth 100000 in
theorem lifted (os : Os) (started : os.Started) (H : Type) (enc : TypeId × Value → H) :
    ReturnsInHanded {} Try.checked os 10 .any (Rows.fnExactSyncHopsSpec.pre6 enc Try.prog Try.f10 Rows.fnExactSyncHopsRow.domain false) (Rows.fnExactSyncHopsSpec.post enc Try.prog Try.f10 false true false false) := by
  refine returnsInHanded_of_change (C := Try.checked) own started (by kernel_rfl) Try.func10
    (ChangeSpec.witness6 (enc := enc) (C := Try.checked) false ⟨#[], #[.int .i64 0, .int .i64 0, .int .i64 0, .slice none 0 0], []⟩ 8 (by kernel_rfl) (by kernel_rfl) (by kernel_rfl) (by kernel_rfl)) ?_
  intro W base args ds gs before hval0 hW hcnd _
  have hval : ∀ (j : Nat) t v, Try.f10.params[j]? = some t → args[j]? = some v → Value.okWide Try.prog W .any base t v := hval0
  have hW' := hW
  obtain ⟨p, q, hA0, hV, rfl, hfz, hnd⟩ := hW
  have hA : DataW.TrodAll enc Try.prog W 0 (fun _ => true) true Try.f10.params.toList args.toList ds p := hA0
  rw [Try.params10] at hA hval
  obtain ⟨v0, vs0, d0, ds0, p0, q0, hargs, rfl, rfl, h0, r0⟩ := trodAll_cons hA
  obtain ⟨v1, vs1, d1, ds1, p1, q1, rfl, rfl, rfl, h1, r1⟩ := trodAll_cons r0
  obtain ⟨v2, vs2, d2, ds2, p2, q2, rfl, rfl, rfl, h2, r2⟩ := trodAll_cons r1
  obtain ⟨v3, vs3, d3, ds3, p3, q3, rfl, rfl, rfl, h3, r3⟩ := trodAll_cons r2
  obtain ⟨rfl, rfl, rfl⟩ := trodAll_nil r3
  obtain rfl : args = #[v0, v1, v2, v3] := by cases args; simp_all
  obtain ⟨rfl, rfl⟩ := trodVars_none hV
  have k0 := h0
  have lt0 : ∀ x ∈ p0, x.block < W.heap.size := by obtain ⟨m, hm⟩ := k0; exact DataW.trod_lt m _ _ _ hm
  have k1 := h1
  have lt1 : ∀ x ∈ p1, x.block < W.heap.size := by obtain ⟨m, hm⟩ := k1; exact DataW.trod_lt m _ _ _ hm
  have k2 := h2
  have lt2 : ∀ x ∈ p2, x.block < W.heap.size := by obtain ⟨m, hm⟩ := k2; exact DataW.trod_lt m _ _ _ hm
  have k3 := h3
  have lt3 : ∀ x ∈ p3, x.block < W.heap.size := by obtain ⟨m, hm⟩ := k3; exact DataW.trod_lt m _ _ _ hm
  obtain ⟨a0, rfl, rfl, rfl, w0⟩ := open_int Try.underlying3 (hval 0 3 v0 rfl rfl) h0
  obtain ⟨a1, rfl, rfl, rfl, w1⟩ := open_int Try.underlying3 (hval 1 3 v1 rfl rfl) h1
  obtain ⟨a2, rfl, rfl, rfl, w2⟩ := open_int Try.underlying3 (hval 2 3 v2 rfl rfl) h2
  obtain ⟨a3, len3, cap3, rfl⟩ := okWide_slice Try.underlying46 (hval 3 46 v3 rfl rfl)
  obtain ⟨z3, w3⟩ : ∃ zs, IsRow .i64 W a3 len3 cap3 zs := by
    obtain ⟨fuel, hf⟩ := h3
    rcases open_ints Try.underlying46 Try.underlying3 (by kernel_rfl) hf with ⟨hcs, _⟩ | ⟨x, l, c, zs, hcs, _, hl, hm, hz, _, hcell, hwz⟩
    · simp [Value.cells] at hcs
      obtain ⟨rfl, rfl, rfl⟩ := hcs
      exact ⟨[], .inl ⟨rfl, rfl, rfl, rfl⟩⟩
    · simp [Value.cells] at hcs
      obtain ⟨rfl, rfl, rfl⟩ := hcs
      exact ⟨zs, .inr ⟨_, rfl, hl, hm, by simpa using hz, hcell, hwz⟩⟩
  clear hA0 hval0
  refine (walk a0 a1 a2 a3 len3 cap3 z3 W w0 w1 w2 w3).mono fun e W' ⟨he, bel⟩ => ?_
  subst he
  exact ⟨_, rfl, _, _, _, [], _, [], hW', trodAll_mk1 (shut_bool Try.underlying4 _), (trodAll_cons_mk (Below.trod laidOut (by kernel_rfl) (of_decide_eq_true (by kernel_rfl)) k0 bel lt0) (trodAll_cons_mk (Below.trod laidOut (by kernel_rfl) (of_decide_eq_true (by kernel_rfl)) k1 bel lt1) (trodAll_cons_mk (Below.trod laidOut (by kernel_rfl) (of_decide_eq_true (by kernel_rfl)) k2 bel lt2) (trodAll_cons_mk (Below.trod laidOut (by kernel_rfl) (of_decide_eq_true (by kernel_rfl)) k3 bel lt3) trodAll_mk0)))), rfl, bel.frame _, fun h => by cases h⟩

theorem over : Rows.fnExactSyncHopsRow.holds Try.pinned (OpenSpec.ofChange Rows.fnExactSyncHopsSpec) :=
  OpenClaim.holds_of_wide 10 Try.f10 rfl rfl rfl rfl rfl rfl rfl ⟨rfl, rfl, rfl, rfl, rfl⟩ rfl rfl rfl rfl rfl (by kernel_rfl) Try.func10 (by kernel_rfl)
    (of_decide_eq_true (by kernel_rfl)) (by unfold Func.isWrapper; first | (rw [if_pos (by decide +kernel)]; kernel_rfl) | (rw [if_neg (by decide +kernel)]; exact ⟨rfl, rfl⟩))
    (fun os started H enc _ => lifted os started H enc)

theorem proved : Rows.FnExactSyncHopsSaid := over
#print axioms proved
end Go.Proofs.Ytilmgimaaicamaa.fnExactSyncHops
