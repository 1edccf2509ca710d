/- The law FnParseFrame holds for every input that the given row lets in: the program's answer is the reference's. No condition of its own. -/
import Derived.Test.YtaoahgngpjoekaaRows
import Derived.WalkKit
import Derived.ProofKit
import Derived.OpenShut
import Derived.ShutString
import Derived.ChangeOld
import Derived.Below
import Derived.Lib.SmallJoins
import Derived.Test.YtaoahgngpjoekaaKf
import Derived.Test.YtaoahgngpjoekaaLw
namespace Go.Proofs.Ytaoahgngpjoekaa.fnParseFrame
open Go.ChangeShapes Go.WideShapes Go.ChangeAt Go.RowKit
open Go.ChangeMaps (open_string shut_string)
set_option linter.unusedVariables false

theorem own : ownKnob Try.prog.godebug = none := by kernel_rfl
theorem laidOut : laidOutB Try.prog = true := by kernel_rfl

/-- A slice of integers that came in: nil, or a row of 'cap' cells that hold the numbers zs. -/
def IsRow (k : IntKind) (w : World) (a : Option Addr) (len cap : Nat) (zs : List Int) : Prop :=
  (a = none ∧ len = 0 ∧ cap = 0 ∧ zs = []) ∨
  ∃ x, a = some x ∧ len ≤ cap ∧ cap ≤ maxLen ∧ zs.length = cap ∧ (∀ i, i < zs.length → w.cell? (x.add i) = some (.int k (zs.getD i 0))) ∧ ∀ n ∈ zs, (Lit.int k n).wf = true

set_option maxRecDepth 100000
set_option maxHeartbeats 4000000 in
theorem walk (a0 : Option Addr) (len0 cap0 : Nat) (z0 : List Int) (w : World) (w0 : IsRow .u8 w a0 len0 cap0 z0) :
    Calls Try.prog 3 #[.slice a0 len0 cap0] w fun e w' => e = .returned (.bool true) ∧ Below w.heap.size w w' := by
  by_cases hn : len0 ≤ 1048576
  · have hC := codeW_of_row w0 (by omega)
    clear w0
    go_enter Try.func3, Try.ntmps3
    go_wp2_with fail
    refine (DrawParseFrame_c hC).mono ?_; rintro e w1 ⟨s, a, rfl, hs, ha0, ha1, hb1⟩
    clear hC
    cases hq : parseR s a with
    | none =>
      have HT := Lib.hid hq
      clear hq
      go_wp2_with fail
      refine (ParseFrame_c s a _).mono ?_; rintro e w2 ⟨rfl, hb2⟩
      have hbA := hb1.trans (hb2.mono hb1.size)
      rw [HT.out]
      simp only [Option.map_none, Option.getD_none, Option.isSome_none]
      go_wp2_with fail
      refine (sParseFrame_c s a _ (by omega)).mono ?_; rintro e w3 ⟨rfl, hb3⟩
      have hbB := hbA.trans (hb3.mono hbA.size)
      rw [HT.out]
      simp only [Option.map_none, Option.getD_none, Option.isSome_none]
      go_wp2_with fail
      go_ret
      exact ⟨by simp, hbB⟩
    | some pn =>
      obtain ⟨p, n⟩ := pn
      obtain ⟨b, rfl, hn1, hn2, hpay, hfr, hbits⟩ := parse_is hq
      have HT := Lib.hid hq
      have HF := Lib.hid (find_here hq)
      have HFR := Lib.hid (frameR_yes hpay)
      have h600 := bits_le hbits
      have hbn : b ≤ n := by omega
      obtain ⟨F, hF⟩ : ∃ F, F = frameT p := ⟨_, rfl⟩
      rw [← hF] at hfr HFR
      have hcmp : ((s.extract b n).toList == F.toList) = true := by rw [hfr]; simp
      clear hq hpay hbits hF hn1 hfr
      go_wp2_with fail
      refine (ParseFrame_c s (b : Int) _).mono ?_; rintro e w2 ⟨rfl, hb2⟩
      have hbA := hb1.trans (hb2.mono hb1.size)
      clear hb1 hb2
      rw [HT.out]
      simp only [Option.map_some, Option.getD_some, Option.isSome_some]
      go_wp2_with fail
      refine (sParseFrame_c s (b : Int) _ (by omega)).mono ?_; rintro e w3 ⟨rfl, hb3⟩
      have hbB := hbA.trans (hb3.mono hbA.size)
      clear hbA hb3
      rw [HT.out]
      simp only [Option.map_some, Option.getD_some, Option.isSome_some]
      go_wp2_with fail
      refine (FrameOf_c p _).mono ?_; rintro e w4 ⟨rfl, hb4⟩
      have hbC := hbB.trans (hb4.mono hbB.size)
      clear hbB hb4
      rw [HFR.out]
      simp only [Option.getD_some, Option.isSome_some]
      go_wp2_with fail
      refine (FindFrame_c s (b : Int) _).mono ?_; rintro e w5 ⟨rfl, hb5⟩
      have hbD := hbC.trans (hb5.mono hbC.size)
      rw [HF.out]
      go_wp2_with fail
      go_ret
      exact ⟨by simp, hbD⟩
  · have hn' : (1048576 : Int) < (len0 : Int) := by omega
    go_enter Try.func3, Try.ntmps3
    go_wp2_with fail
    go_ret
    exact ⟨rfl, Below.refl _ _⟩

set_option maxRecDepth 100000 in
theorem lifted (os : Os) (started : os.Started) (H : Type) (enc : TypeId × Value → H) :
    ReturnsInHanded {} Try.checked os 3 .any (Rows.fnParseFrameSpec.pre6 enc Try.prog Try.f3 Rows.fnParseFrameRow.domain false) (Rows.fnParseFrameSpec.post enc Try.prog Try.f3 false true false false) := by
  refine returnsInHanded_of_change (C := Try.checked) own started (by kernel_rfl) Try.func3
    (ChangeSpec.witness6 (enc := enc) (C := Try.checked) false ⟨#[], #[.slice none 0 0], []⟩ 8 (by kernel_rfl) (by kernel_rfl) (by kernel_rfl) (by kernel_rfl)) ?_
  intro W base args ds gs before hval0 hW hcnd _
  have hval : ∀ (j : Nat) t v, Try.f3.params[j]? = some t → args[j]? = some v → Value.okWide Try.prog W .any base t v := hval0
  have hW' := hW
  obtain ⟨p, q, hA0, hV, rfl, hfz, hnd⟩ := hW
  have hA : DataW.TrodAll enc Try.prog W 0 (fun _ => true) true Try.f3.params.toList args.toList ds p := hA0
  rw [Try.params3] at hA hval
  obtain ⟨v0, vs0, d0, ds0, p0, q0, hargs, rfl, rfl, h0, r0⟩ := trodAll_cons hA
  obtain ⟨rfl, rfl, rfl⟩ := trodAll_nil r0
  obtain rfl : args = #[v0] := by cases args; simp_all
  obtain ⟨rfl, rfl⟩ := trodVars_none hV
  have k0 := h0
  have lt0 : ∀ x ∈ p0, x.block < W.heap.size := by obtain ⟨m, hm⟩ := k0; exact DataW.trod_lt m _ _ _ hm
  obtain ⟨a0, len0, cap0, rfl⟩ := okWide_slice Try.underlying22 (hval 0 22 v0 rfl rfl)
  obtain ⟨z0, w0⟩ : ∃ zs, IsRow .u8 W a0 len0 cap0 zs := by
    obtain ⟨fuel, hf⟩ := h0
    rcases open_ints Try.underlying22 Try.underlying5 (by kernel_rfl) hf with ⟨hcs, _⟩ | ⟨x, l, c, zs, hcs, _, hl, hm, hz, _, hcell, hwz⟩
    · simp [Value.cells] at hcs
      obtain ⟨rfl, rfl, rfl⟩ := hcs
      exact ⟨[], .inl ⟨rfl, rfl, rfl, rfl⟩⟩
    · simp [Value.cells] at hcs
      obtain ⟨rfl, rfl, rfl⟩ := hcs
      exact ⟨zs, .inr ⟨_, rfl, hl, hm, by simpa using hz, hcell, hwz⟩⟩
  clear hA0 hval0
  refine (walk a0 len0 cap0 z0 W w0).mono fun e W' ⟨he, bel⟩ => ?_
  subst he
  exact ⟨_, rfl, _, _, _, [], _, [], hW', trodAll_mk1 (shut_bool Try.underlying4 _), (trodAll_cons_mk (Below.trod laidOut (by kernel_rfl) (of_decide_eq_true (by kernel_rfl)) k0 bel lt0) trodAll_mk0), rfl, bel.frame _, fun h => by cases h⟩

theorem over : Rows.fnParseFrameRow.holds Try.pinned (OpenSpec.ofChange Rows.fnParseFrameSpec) :=
  OpenClaim.holds_of_wide 3 Try.f3 rfl rfl rfl rfl rfl rfl rfl ⟨rfl, rfl, rfl, rfl, rfl⟩ rfl rfl rfl rfl rfl (by kernel_rfl) Try.func3 (by kernel_rfl)
    (of_decide_eq_true (by kernel_rfl)) (by unfold Func.isWrapper; first | (rw [if_pos (by decide +kernel)]; kernel_rfl) | (rw [if_neg (by decide +kernel)]; exact ⟨rfl, rfl⟩))
    (fun os started H enc _ => lifted os started H enc)

theorem proved : Rows.FnParseFrameSaid := over
#print axioms proved
end Go.Proofs.Ytaoahgngpjoekaa.fnParseFrame
