/- The law FnExactJammedHops holds for every input that the given row lets in: the program's answer is the reference's. No condition of its own.
   The frame of this text was written by the kit's proof-skeleton.mjs; the walk is ours. -/
import Derived.Test.YtlbpoodjaljmnaaRows
import Derived.WalkKit
import Derived.ProofKit
import Derived.OpenShut
import Derived.ShutString
import Derived.ChangeOld
import Derived.Below
import Derived.Test.YtlbpoodjaljmnaaHs
namespace Go.Proofs.Ytlbpoodjaljmnaa.fnExactJammedHops
open Go.ChangeShapes Go.WideShapes Go.ChangeAt Go.RowKit
open Go.ChangeMaps (open_string shut_string)
set_option linter.unusedVariables false

theorem own : ownKnob Try.prog.godebug = none := by kernel_rfl
theorem laidOut : laidOutB Try.prog = true := by kernel_rfl

/-- WHAT THE WALK IS TOLD OF A SLICE OF INTEGERS THAT CAME IN: it is nil; or it leads to a row of 'cap' cells, the numbers 'zs' (the first 'len' are its elements, the rest its spare room), each fitting its kind. -/
def IsRow (k : IntKind) (w : World) (a : Option Addr) (len cap : Nat) (zs : List Int) : Prop :=
  (a = none ∧ len = 0 ∧ cap = 0 ∧ zs = []) ∨
  ∃ x, a = some x ∧ len ≤ cap ∧ cap ≤ maxLen ∧ zs.length = cap ∧ (∀ i, i < zs.length → w.cell? (x.add i) = some (.int k (zs.getD i 0))) ∧ ∀ n ∈ zs, (Lit.int k n).wf = true

/-! ### STEP 1: THE WALK: the Go text returns true, AND WRITES NOTHING THAT WAS THERE: 'Below w.heap.size w w'' (Derived/Below.lean: '.refl', '.alloc', '.drew', '.setCell' at a new block, '.trans'). Open each 'IsRow' by 'rcases' AHEAD of 'go_enter'; part every test ahead of the walk. -/
set_option maxHeartbeats 1000000 in
theorem walk (a0 : Option Addr) (len0 cap0 : Nat) (z0 : List Int) (a1 : Option Addr) (len1 cap1 : Nat) (z1 : List Int) (w : World) (w0 : IsRow .i64 w a0 len0 cap0 z0) (w1 : IsRow .i64 w a1 len1 cap1 z1) :
    Calls Try.prog 6 #[.slice a0 len0 cap0, .slice a1 len1 cap1] w fun e w' => e = .returned (.bool true) ∧ Below w.heap.size w w' := by
  by_cases hnH : len0 ≤ 1048576
  · by_cases hnJ : len1 ≤ 1048576
    · have hH0 := rd_of_row w0 (by omega)
      have hJ0 := rd_of_row w1 (by omega)
      clear w0
      clear w1
      go_enter Try.func6, Try.ntmps6
      go_wp2_with fail
      refine (toIntS_c hH0).mono ?_; rintro e w1 ⟨aSH, nSH, cSH, rfl, hSH1, hb1⟩
      have lt_H_SH := hH0.lt
      have lt_J_SH := hJ0.lt
      have hz1 := hb1.size
      have hH1 := hH0.below hb1
      clear hH0
      have hJ1 := hJ0.below hb1
      clear hJ0
      have hB1 : Below w.heap.size w w1 := (hb1.mono (by omega))
      clear hb1
      have s_SH := hSH1.2.1
      go_wp2_with fail
      refine (toIntS_c hJ1).mono ?_; rintro e w2 ⟨aSJ, nSJ, cSJ, rfl, hSJ2, hb2⟩
      have lt_H_SJ := hH1.lt
      have lt_J_SJ := hJ1.lt
      have lt_SH_SJ := hSH1.below'
      have hz2 := hb2.size
      have hH2 := hH1.below hb2
      clear hH1
      have hJ2 := hJ1.below hb2
      clear hJ1
      have hSH2 := hSH1.below hb2
      clear hSH1
      have hB2 := hB1.trans (hb2.mono (by omega))
      clear hB1
      clear hb2
      have s_SJ := hSJ2.2.1
      go_wp2_with fail
      refine (sJammedHops_c hSH2.rd hSJ2.rd).mono ?_; rintro e w' ⟨rfl, rfl⟩
      clear hSH2
      clear hSJ2
      go_wp2_with fail
      refine (toIntS_c hH2).mono ?_; rintro e w3 ⟨aXH, nXH, cXH, rfl, hXH3, hb3⟩
      have lt_H_XH := hH2.lt
      have lt_J_XH := hJ2.lt
      have hz3 := hb3.size
      have hH3 := hH2.below hb3
      clear hH2
      have hJ3 := hJ2.below hb3
      clear hJ2
      have hB3 := hB2.trans (hb3.mono (by omega))
      clear hB2
      clear hb3
      have s_XH := hXH3.2.1
      go_wp2_with fail
      refine (toIntS_c hJ3).mono ?_; rintro e w4 ⟨aXJ, nXJ, cXJ, rfl, hXJ4, hb4⟩
      have lt_H_XJ := hH3.lt
      have lt_J_XJ := hJ3.lt
      have lt_XH_XJ := hXH3.below'
      have hz4 := hb4.size
      have hH4 := hH3.below hb4
      clear hH3
      have hJ4 := hJ3.below hb4
      clear hJ3
      have hXH4 := hXH3.below hb4
      clear hXH3
      have hB4 := hB3.trans (hb4.mono (by omega))
      clear hB3
      clear hb4
      have s_XJ := hXJ4.2.1
      go_wp2_with fail
      refine (JammedHops_c hXH4.rd hXJ4.rd).mono ?_; rintro e w' ⟨rfl, rfl⟩
      go_wp2_with fail
      refine (toIntS_c hH4).mono ?_; rintro e w5 ⟨aCH, nCH, cCH, rfl, hCH5, hb5⟩
      have lt_H_CH := hH4.lt
      have lt_J_CH := hJ4.lt
      have lt_XH_CH := hXH4.below'
      have lt_XJ_CH := hXJ4.below'
      have hz5 := hb5.size
      have hH5 := hH4.below hb5
      clear hH4
      have hJ5 := hJ4.below hb5
      clear hJ4
      have hXH5 := hXH4.below hb5
      clear hXH4
      have hXJ5 := hXJ4.below hb5
      clear hXJ4
      have hB5 := hB4.trans (hb5.mono (by omega))
      clear hB4
      clear hb5
      have s_CH := hCH5.2.1
      go_wp2_with fail
      refine (eqIntS_same hXH5.rd hCH5.rd).mono ?_; rintro e w6 ⟨rfl, hq6⟩
      have hb6 := hq6.below w5.heap.size
      have hz6 := hb6.size
      have hH6 := hH5.below hb6
      clear hH5
      have hJ6 := hJ5.below hb6
      clear hJ5
      have hXH6 := hXH5.below hb6
      clear hXH5
      have hXJ6 := hXJ5.below hb6
      clear hXJ5
      have hCH6 := hCH5.below hb6
      clear hCH5
      have hB6 := hB5.trans (hb6.mono (by omega))
      clear hB5
      clear hb6
      clear hCH6
      go_wp2_with fail
      refine (toIntS_c hJ6).mono ?_; rintro e w7 ⟨aCJ, nCJ, cCJ, rfl, hCJ7, hb7⟩
      have lt_H_CJ := hH6.lt
      have lt_J_CJ := hJ6.lt
      have lt_XH_CJ := hXH6.below'
      have lt_XJ_CJ := hXJ6.below'
      have hz7 := hb7.size
      have hH7 := hH6.below hb7
      clear hH6
      have hJ7 := hJ6.below hb7
      clear hJ6
      have hXH7 := hXH6.below hb7
      clear hXH6
      have hXJ7 := hXJ6.below hb7
      clear hXJ6
      have hB7 := hB6.trans (hb7.mono (by omega))
      clear hB6
      clear hb7
      have s_CJ := hCJ7.2.1
      go_wp2_with fail
      refine (eqIntS_same hXJ7.rd hCJ7.rd).mono ?_; rintro e w8 ⟨rfl, hq8⟩
      have hb8 := hq8.below w7.heap.size
      have hz8 := hb8.size
      have hH8 := hH7.below hb8
      clear hH7
      have hJ8 := hJ7.below hb8
      clear hJ7
      have hXH8 := hXH7.below hb8
      clear hXH7
      have hXJ8 := hXJ7.below hb8
      clear hXJ7
      have hCJ8 := hCJ7.below hb8
      clear hCJ7
      have hB8 := hB7.trans (hb8.mono (by omega))
      clear hB7
      clear hb8
      clear hCJ8
      go_wp2_with fail
      go_ret
      exact ⟨rfl, hB8⟩
    · have hn' : (1048576 : Int) < (len1 : Int) := by omega
      go_enter Try.func6, Try.ntmps6
      go_wp2
      go_ret
      exact ⟨rfl, Below.refl _ _⟩
  · have hn' : (1048576 : Int) < (len0 : Int) := by omega
    go_enter Try.func6, Try.ntmps6
    go_wp2
    go_ret
    exact ⟨rfl, Below.refl _ _⟩

/-! ### THE ROW's STEP: WRITTEN OUT: LEAVE IT -/
set_option maxRecDepth 100000 in
theorem lifted (os : Os) (started : os.Started) (H : Type) (enc : TypeId × Value → H) :
    ReturnsInHanded {} Try.checked os 6 .any (Rows.fnExactJammedHopsSpec.pre6 enc Try.prog Try.f6 Rows.fnExactJammedHopsRow.domain false) (Rows.fnExactJammedHopsSpec.post enc Try.prog Try.f6 false true false false) := by
  refine returnsInHanded_of_change (C := Try.checked) own started (by kernel_rfl) Try.func6
    (ChangeSpec.witness6 (enc := enc) (C := Try.checked) false ⟨#[], #[.slice none 0 0, .slice none 0 0], []⟩ 8 (by kernel_rfl) (by kernel_rfl) (by kernel_rfl) (by kernel_rfl)) ?_
  intro W base args ds gs before hval0 hW hcnd _
  have hval : ∀ (j : Nat) t v, Try.f6.params[j]? = some t → args[j]? = some v → Value.okWide Try.prog W .any base t v := hval0
  have hW' := hW
  obtain ⟨p, q, hA0, hV, rfl, hfz, hnd⟩ := hW
  have hA : DataW.TrodAll enc Try.prog W 0 (fun _ => true) true Try.f6.params.toList args.toList ds p := hA0
  rw [Try.params6] at hA hval
  obtain ⟨v0, vs0, d0, ds0, p0, q0, hargs, rfl, rfl, h0, r0⟩ := trodAll_cons hA
  obtain ⟨v1, vs1, d1, ds1, p1, q1, rfl, rfl, rfl, h1, r1⟩ := trodAll_cons r0
  obtain ⟨rfl, rfl, rfl⟩ := trodAll_nil r1
  obtain rfl : args = #[v0, v1] := by cases args; simp_all
  obtain ⟨rfl, rfl⟩ := trodVars_none hV
  obtain ⟨a0, len0, cap0, rfl⟩ := okWide_slice Try.underlying22 (hval 0 22 v0 rfl rfl)
  have k0 := h0
  have lt0 : ∀ x ∈ p0, x.block < W.heap.size := by obtain ⟨m, hm⟩ := k0; exact DataW.trod_lt m _ _ _ hm
  obtain ⟨z0, w0⟩ : ∃ zs, IsRow .i64 W a0 len0 cap0 zs := by
    obtain ⟨fuel, hf⟩ := h0
    rcases open_ints Try.underlying22 Try.underlying3 (by kernel_rfl) hf with ⟨hcs, _⟩ | ⟨x, l, c, zs, hcs, _, hl, hm, hz, _, hcell, hwz⟩
    · simp [Value.cells] at hcs
      obtain ⟨rfl, rfl, rfl⟩ := hcs
      exact ⟨[], .inl ⟨rfl, rfl, rfl, rfl⟩⟩
    · simp [Value.cells] at hcs
      obtain ⟨rfl, rfl, rfl⟩ := hcs
      exact ⟨zs, .inr ⟨_, rfl, hl, hm, by simpa using hz, hcell, hwz⟩⟩
  obtain ⟨a1, len1, cap1, rfl⟩ := okWide_slice Try.underlying22 (hval 1 22 v1 rfl rfl)
  have k1 := h1
  have lt1 : ∀ x ∈ p1, x.block < W.heap.size := by obtain ⟨m, hm⟩ := k1; exact DataW.trod_lt m _ _ _ hm
  obtain ⟨z1, w1⟩ : ∃ zs, IsRow .i64 W a1 len1 cap1 zs := by
    obtain ⟨fuel, hf⟩ := h1
    rcases open_ints Try.underlying22 Try.underlying3 (by kernel_rfl) hf with ⟨hcs, _⟩ | ⟨x, l, c, zs, hcs, _, hl, hm, hz, _, hcell, hwz⟩
    · simp [Value.cells] at hcs
      obtain ⟨rfl, rfl, rfl⟩ := hcs
      exact ⟨[], .inl ⟨rfl, rfl, rfl, rfl⟩⟩
    · simp [Value.cells] at hcs
      obtain ⟨rfl, rfl, rfl⟩ := hcs
      exact ⟨zs, .inr ⟨_, rfl, hl, hm, by simpa using hz, hcell, hwz⟩⟩
  clear hA0 hval0
  refine (walk a0 len0 cap0 z0 a1 len1 cap1 z1 W w0 w1).mono fun e W' ⟨he, bel⟩ => ?_
  subst he
  exact ⟨_, rfl, _, _, _, [], _, [], hW', trodAll_mk1 (shut_bool Try.underlying4 _), (trodAll_cons_mk (Below.trod laidOut (by kernel_rfl) (of_decide_eq_true (by kernel_rfl)) k0 bel lt0) (trodAll_cons_mk (Below.trod laidOut (by kernel_rfl) (of_decide_eq_true (by kernel_rfl)) k1 bel lt1) trodAll_mk0)), rfl, bel.frame _, fun h => by cases h⟩

theorem over : Rows.fnExactJammedHopsRow.holds Try.pinned (OpenSpec.ofChange Rows.fnExactJammedHopsSpec) :=
  OpenClaim.holds_of_wide 6 Try.f6 rfl rfl rfl rfl rfl rfl rfl ⟨rfl, rfl, rfl, rfl, rfl⟩ rfl rfl rfl rfl rfl (by kernel_rfl) Try.func6 (by kernel_rfl)
    (of_decide_eq_true (by kernel_rfl)) (by unfold Func.isWrapper; first | (rw [if_pos (by decide +kernel)]; kernel_rfl) | (rw [if_neg (by decide +kernel)]; exact ⟨rfl, rfl⟩))
    (fun os started H enc _ => lifted os started H enc)

/-- ████ THE STATEMENT ████ -/
theorem proved : Rows.FnExactJammedHopsSaid := over
#print axioms proved
end Go.Proofs.Ytlbpoodjaljmnaa.fnExactJammedHops
