/- The law FnExactHopCollisions holds for every input that the given row lets in: the program's answer is the reference's. No condition of its own.
   The frame of this text was written by the kit's proof-skeleton.mjs; the walk is ours. -/
import Derived.Test.YtlbpoodjaljmnabRows
import Derived.WalkKit
import Derived.ProofKit
import Derived.OpenShut
import Derived.ShutString
import Derived.ChangeOld
import Derived.Below
import Derived.Test.YtlbpoodjaljmnabHc
namespace Go.Proofs.Ytlbpoodjaljmnab.fnExactHopCollisions
open Go.ChangeShapes Go.WideShapes Go.ChangeAt Go.RowKit
open Go.ChangeMaps (open_string shut_string)
set_option linter.unusedVariables false

theorem own : ownKnob Try.prog.godebug = none := by kernel_rfl
theorem laidOut : laidOutB Try.prog = true := by kernel_rfl

/-- WHAT THE WALK IS TOLD OF A SLICE OF INTEGERS THAT CAME IN: it is nil; or it leads to a row of 'cap' cells, the numbers 'zs' (the first 'len' are its elements, the rest its spare room), each fitting its kind. -/
def IsRow (k : IntKind) (w : World) (a : Option Addr) (len cap : Nat) (zs : List Int) : Prop :=
  (a = none ∧ len = 0 ∧ cap = 0 ∧ zs = []) ∨
  ∃ x, a = some x ∧ len ≤ cap ∧ cap ≤ maxLen ∧ zs.length = cap ∧ (∀ i, i < zs.length → w.cell? (x.add i) = some (.int k (zs.getD i 0))) ∧ ∀ n ∈ zs, (Lit.int k n).wf = true

/-! ### STEP 1: THE WALK: the Go text returns true, AND WRITES NOTHING THAT WAS THERE: 'Below w.heap.size w w'' (Derived/Below.lean: '.refl', '.alloc', '.drew', '.setCell' at a new block, '.trans'). Open each 'IsRow' by 'rcases' AHEAD of 'go_enter'; part every test ahead of the walk. -/
set_option maxHeartbeats 1000000 in
theorem walk (a0 : Option Addr) (len0 cap0 : Nat) (z0 : List Int) (a1 : Option Addr) (len1 cap1 : Nat) (z1 : List Int) (a2 : Int) (w : World) (w0 : IsRow .i64 w a0 len0 cap0 z0) (w1 : IsRow .i64 w a1 len1 cap1 z1) (w2 : (Lit.int .i64 a2).wf = true) :
    Calls Try.prog 3 #[.slice a0 len0 cap0, .slice a1 len1 cap1, .int .i64 a2] w fun e w' => e = .returned (.bool true) ∧ Below w.heap.size w w' := by
  by_cases hnA : len0 ≤ 1048576
  · by_cases hnB : len1 ≤ 1048576
    · have hA0 := rd_of_row w0 (by omega)
      have hB0 := rd_of_row w1 (by omega)
      clear w0
      clear w1
      go_enter Try.func3, Try.ntmps3
      go_wp2_with fail
      refine (toIntS_c hA0).mono ?_; rintro e w1 ⟨aSA, nSA, cSA, rfl, hSA1, hb1⟩
      have lt_A_SA := hA0.lt
      have lt_B_SA := hB0.lt
      have hz1 := hb1.size
      have hA1 := hA0.below hb1
      clear hA0
      have hB1 := hB0.below hb1
      clear hB0
      have hBase1 : Below w.heap.size w w1 := (hb1.mono (by omega))
      clear hb1
      have s_SA := hSA1.2.1
      go_wp2_with fail
      refine (toIntS_c hB1).mono ?_; rintro e w2 ⟨aSB, nSB, cSB, rfl, hSB2, hb2⟩
      have lt_A_SB := hA1.lt
      have lt_B_SB := hB1.lt
      have lt_SA_SB := hSA1.below'
      have hz2 := hb2.size
      have hA2 := hA1.below hb2
      clear hA1
      have hB2 := hB1.below hb2
      clear hB1
      have hSA2 := hSA1.below hb2
      clear hSA1
      have hBase2 := hBase1.trans (hb2.mono (by omega))
      clear hBase1
      clear hb2
      have s_SB := hSB2.2.1
      go_wp2_with fail
      refine (sHopCollisions_c _ hSA2.rd hSB2.rd).mono ?_; rintro e w3 ⟨rfl, hq3⟩
      have hb3 := hq3.below w2.heap.size
      have hz3 := hb3.size
      have hA3 := hA2.below hb3
      clear hA2
      have hB3 := hB2.below hb3
      clear hB2
      have hSA3 := hSA2.below hb3
      clear hSA2
      have hSB3 := hSB2.below hb3
      clear hSB2
      have hBase3 := hBase2.trans (hb3.mono (by omega))
      clear hBase2
      clear hb3
      clear hSA3
      clear hSB3
      go_wp2_with fail
      refine (toIntS_c hA3).mono ?_; rintro e w4 ⟨aXA, nXA, cXA, rfl, hXA4, hb4⟩
      have lt_A_XA := hA3.lt
      have lt_B_XA := hB3.lt
      have hz4 := hb4.size
      have hA4 := hA3.below hb4
      clear hA3
      have hB4 := hB3.below hb4
      clear hB3
      have hBase4 := hBase3.trans (hb4.mono (by omega))
      clear hBase3
      clear hb4
      have s_XA := hXA4.2.1
      go_wp2_with fail
      refine (toIntS_c hB4).mono ?_; rintro e w5 ⟨aXB, nXB, cXB, rfl, hXB5, hb5⟩
      have lt_A_XB := hA4.lt
      have lt_B_XB := hB4.lt
      have lt_XA_XB := hXA4.below'
      have hz5 := hb5.size
      have hA5 := hA4.below hb5
      clear hA4
      have hB5 := hB4.below hb5
      clear hB4
      have hXA5 := hXA4.below hb5
      clear hXA4
      have hBase5 := hBase4.trans (hb5.mono (by omega))
      clear hBase4
      clear hb5
      have s_XB := hXB5.2.1
      go_wp2_with fail
      refine (HopCollisions_c _ hXA5.rd hXB5.rd hXB5.cap).mono ?_; rintro e w6 ⟨rfl, hb6⟩
      have hz6 := hb6.size
      have hA6 := hA5.below hb6
      clear hA5
      have hB6 := hB5.below hb6
      clear hB5
      have hXA6 := hXA5.below hb6
      clear hXA5
      have hXB6 := hXB5.below hb6
      clear hXB5
      have hBase6 := hBase5.trans (hb6.mono (by omega))
      clear hBase5
      clear hb6
      go_wp2_with fail
      refine (toIntS_c hA6).mono ?_; rintro e w7 ⟨aCA, nCA, cCA, rfl, hCA7, hb7⟩
      have lt_A_CA := hA6.lt
      have lt_B_CA := hB6.lt
      have lt_XA_CA := hXA6.below'
      have lt_XB_CA := hXB6.below'
      have hz7 := hb7.size
      have hA7 := hA6.below hb7
      clear hA6
      have hB7 := hB6.below hb7
      clear hB6
      have hXA7 := hXA6.below hb7
      clear hXA6
      have hXB7 := hXB6.below hb7
      clear hXB6
      have hBase7 := hBase6.trans (hb7.mono (by omega))
      clear hBase6
      clear hb7
      have s_CA := hCA7.2.1
      go_wp2_with fail
      refine (eqIntS_same hXA7.rd hCA7.rd).mono ?_; rintro e w8 ⟨rfl, hq8⟩
      have hb8 := hq8.below w7.heap.size
      have hz8 := hb8.size
      have hA8 := hA7.below hb8
      clear hA7
      have hB8 := hB7.below hb8
      clear hB7
      have hXA8 := hXA7.below hb8
      clear hXA7
      have hXB8 := hXB7.below hb8
      clear hXB7
      have hCA8 := hCA7.below hb8
      clear hCA7
      have hBase8 := hBase7.trans (hb8.mono (by omega))
      clear hBase7
      clear hb8
      clear hCA8
      go_wp2_with fail
      refine (toIntS_c hB8).mono ?_; rintro e w9 ⟨aCB, nCB, cCB, rfl, hCB9, hb9⟩
      have lt_A_CB := hA8.lt
      have lt_B_CB := hB8.lt
      have lt_XA_CB := hXA8.below'
      have lt_XB_CB := hXB8.below'
      have hz9 := hb9.size
      have hA9 := hA8.below hb9
      clear hA8
      have hB9 := hB8.below hb9
      clear hB8
      have hXA9 := hXA8.below hb9
      clear hXA8
      have hXB9 := hXB8.below hb9
      clear hXB8
      have hBase9 := hBase8.trans (hb9.mono (by omega))
      clear hBase8
      clear hb9
      have s_CB := hCB9.2.1
      go_wp2_with fail
      refine (eqIntS_same hXB9.rd hCB9.rd).mono ?_; rintro e w10 ⟨rfl, hq10⟩
      have hb10 := hq10.below w9.heap.size
      have hz10 := hb10.size
      have hA10 := hA9.below hb10
      clear hA9
      have hB10 := hB9.below hb10
      clear hB9
      have hXA10 := hXA9.below hb10
      clear hXA9
      have hXB10 := hXB9.below hb10
      clear hXB9
      have hCB10 := hCB9.below hb10
      clear hCB9
      have hBase10 := hBase9.trans (hb10.mono (by omega))
      clear hBase9
      clear hb10
      clear hCB10
      go_wp2_with fail
      go_ret
      exact ⟨rfl, hBase10⟩
    · have hn' : (1048576 : Int) < (len1 : Int) := by omega
      go_enter Try.func3, Try.ntmps3
      go_wp2
      go_ret
      exact ⟨rfl, Below.refl _ _⟩
  · have hn' : (1048576 : Int) < (len0 : Int) := by omega
    go_enter Try.func3, Try.ntmps3
    go_wp2
    go_ret
    exact ⟨rfl, Below.refl _ _⟩

/-! ### THE ROW's STEP: WRITTEN OUT: LEAVE IT -/
set_option maxRecDepth 100000 in
theorem lifted (os : Os) (started : os.Started) (H : Type) (enc : TypeId × Value → H) :
    ReturnsInHanded {} Try.checked os 3 .any (Rows.fnExactHopCollisionsSpec.pre6 enc Try.prog Try.f3 Rows.fnExactHopCollisionsRow.domain false) (Rows.fnExactHopCollisionsSpec.post enc Try.prog Try.f3 false true false false) := by
  refine returnsInHanded_of_change (C := Try.checked) own started (by kernel_rfl) Try.func3
    (ChangeSpec.witness6 (enc := enc) (C := Try.checked) false ⟨#[], #[.slice none 0 0, .slice none 0 0, .int .i64 0], []⟩ 8 (by kernel_rfl) (by kernel_rfl) (by kernel_rfl) (by kernel_rfl)) ?_
  intro W base args ds gs before hval0 hW hcnd _
  have hval : ∀ (j : Nat) t v, Try.f3.params[j]? = some t → args[j]? = some v → Value.okWide Try.prog W .any base t v := hval0
  have hW' := hW
  obtain ⟨p, q, hA0, hV, rfl, hfz, hnd⟩ := hW
  have hA : DataW.TrodAll enc Try.prog W 0 (fun _ => true) true Try.f3.params.toList args.toList ds p := hA0
  rw [Try.params3] at hA hval
  obtain ⟨v0, vs0, d0, ds0, p0, q0, hargs, rfl, rfl, h0, r0⟩ := trodAll_cons hA
  obtain ⟨v1, vs1, d1, ds1, p1, q1, rfl, rfl, rfl, h1, r1⟩ := trodAll_cons r0
  obtain ⟨v2, vs2, d2, ds2, p2, q2, rfl, rfl, rfl, h2, r2⟩ := trodAll_cons r1
  obtain ⟨rfl, rfl, rfl⟩ := trodAll_nil r2
  obtain rfl : args = #[v0, v1, v2] := by cases args; simp_all
  obtain ⟨rfl, rfl⟩ := trodVars_none hV
  obtain ⟨a0, len0, cap0, rfl⟩ := okWide_slice Try.underlying22 (hval 0 22 v0 rfl rfl)
  have k0 := h0
  have lt0 : ∀ x ∈ p0, x.block < W.heap.size := by obtain ⟨m, hm⟩ := k0; exact DataW.trod_lt m _ _ _ hm
  obtain ⟨z0, w0⟩ : ∃ zs, IsRow .i64 W a0 len0 cap0 zs := by
    obtain ⟨fuel, hf⟩ := h0
    rcases open_ints Try.underlying22 Try.underlying3 (by kernel_rfl) hf with ⟨hcs, _⟩ | ⟨x, l, c, zs, hcs, _, hl, hm, hz, _, hcell, hwz⟩
    · simp [Value.cells] at hcs
      obtain ⟨rfl, rfl, rfl⟩ := hcs
      exact ⟨[], .inl ⟨rfl, rfl, rfl, rfl⟩⟩
    · simp [Value.cells] at hcs
      obtain ⟨rfl, rfl, rfl⟩ := hcs
      exact ⟨zs, .inr ⟨_, rfl, hl, hm, by simpa using hz, hcell, hwz⟩⟩
  obtain ⟨a1, len1, cap1, rfl⟩ := okWide_slice Try.underlying22 (hval 1 22 v1 rfl rfl)
  have k1 := h1
  have lt1 : ∀ x ∈ p1, x.block < W.heap.size := by obtain ⟨m, hm⟩ := k1; exact DataW.trod_lt m _ _ _ hm
  obtain ⟨z1, w1⟩ : ∃ zs, IsRow .i64 W a1 len1 cap1 zs := by
    obtain ⟨fuel, hf⟩ := h1
    rcases open_ints Try.underlying22 Try.underlying3 (by kernel_rfl) hf with ⟨hcs, _⟩ | ⟨x, l, c, zs, hcs, _, hl, hm, hz, _, hcell, hwz⟩
    · simp [Value.cells] at hcs
      obtain ⟨rfl, rfl, rfl⟩ := hcs
      exact ⟨[], .inl ⟨rfl, rfl, rfl, rfl⟩⟩
    · simp [Value.cells] at hcs
      obtain ⟨rfl, rfl, rfl⟩ := hcs
      exact ⟨zs, .inr ⟨_, rfl, hl, hm, by simpa using hz, hcell, hwz⟩⟩
  obtain ⟨a2, rfl, rfl, rfl, w2⟩ := open_int Try.underlying3 (hval 2 3 v2 rfl rfl) h2
  clear hA0 hval0
  refine (walk a0 len0 cap0 z0 a1 len1 cap1 z1 a2 W w0 w1 w2).mono fun e W' ⟨he, bel⟩ => ?_
  subst he
  exact ⟨_, rfl, _, _, _, [], _, [], hW', trodAll_mk1 (shut_bool Try.underlying4 _), (trodAll_cons_mk (Below.trod laidOut (by kernel_rfl) (of_decide_eq_true (by kernel_rfl)) k0 bel lt0) (trodAll_cons_mk (Below.trod laidOut (by kernel_rfl) (of_decide_eq_true (by kernel_rfl)) k1 bel lt1) (trodAll_cons_mk (shut_int Try.underlying3 w2) trodAll_mk0))), rfl, bel.frame _, fun h => by cases h⟩

theorem over : Rows.fnExactHopCollisionsRow.holds Try.pinned (OpenSpec.ofChange Rows.fnExactHopCollisionsSpec) :=
  OpenClaim.holds_of_wide 3 Try.f3 rfl rfl rfl rfl rfl rfl rfl ⟨rfl, rfl, rfl, rfl, rfl⟩ rfl rfl rfl rfl rfl (by kernel_rfl) Try.func3 (by kernel_rfl)
    (of_decide_eq_true (by kernel_rfl)) (by unfold Func.isWrapper; first | (rw [if_pos (by decide +kernel)]; kernel_rfl) | (rw [if_neg (by decide +kernel)]; exact ⟨rfl, rfl⟩))
    (fun os started H enc _ => lifted os started H enc)

/-- ████ THE STATEMENT ████ -/
theorem proved : Rows.FnExactHopCollisionsSaid := over
#print axioms proved
end Go.Proofs.Ytlbpoodjaljmnab.fnExactHopCollisions
