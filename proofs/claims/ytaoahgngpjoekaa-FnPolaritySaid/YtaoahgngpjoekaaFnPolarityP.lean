/- The law FnPolarity holds for every input that the given row lets in: the program's answer is the reference's. No condition of its own. -/
import Derived.Test.YtaoahgngpjoekaaRows
import Derived.WalkKit
import Derived.ProofKit
import Derived.OpenShut
import Derived.ShutString
import Derived.ChangeOld
import Derived.Below
import Derived.Lib.SmallJoins
import Derived.Test.YtaoahgngpjoekaaKf
import Derived.Test.YtaoahgngpjoekaaKh
import Derived.Test.YtaoahgngpjoekaaLw
namespace Go.Proofs.Ytaoahgngpjoekaa.fnPolarity
open Go.ChangeShapes Go.WideShapes Go.ChangeAt Go.RowKit
open Go.ChangeMaps (open_string shut_string)
set_option linter.unusedVariables false

theorem own : ownKnob Try.prog.godebug = none := by kernel_rfl
theorem laidOut : laidOutB Try.prog = true := by kernel_rfl

/-- A slice of integers that came in: nil, or a row of 'cap' cells that hold the numbers zs. -/
def IsRow (k : IntKind) (w : World) (a : Option Addr) (len cap : Nat) (zs : List Int) : Prop :=
  (a = none ∧ len = 0 ∧ cap = 0 ∧ zs = []) ∨
  ∃ x, a = some x ∧ len ≤ cap ∧ cap ≤ maxLen ∧ zs.length = cap ∧ (∀ i, i < zs.length → w.cell? (x.add i) = some (.int k (zs.getD i 0))) ∧ ∀ n ∈ zs, (Lit.int k n).wf = true

theorem seq_bits {s : ByteArray} (h : seqB s = true) : bitsB s = true := by unfold seqB at h; rw [Bool.and_eq_true] at h; exact h.1
set_option maxRecDepth 100000
set_option maxHeartbeats 4000000 in
theorem walk (a0 : Option Addr) (len0 cap0 : Nat) (z0 : List Int) (w : World) (w0 : IsRow .u8 w a0 len0 cap0 z0) :
    Calls Try.prog 5 #[.slice a0 len0 cap0] w fun e w' => e = .returned (.bool true) ∧ Below w.heap.size w w' := by
  by_cases hn : len0 ≤ 1048576
  · have hC := codeW_of_row w0 (by omega)
    clear w0
    go_enter Try.func5, Try.ntmps5
    go_wp2_with fail
    refine (DrawFixPolarity_c hC).mono ?_; rintro e w1 ⟨s, rfl, hs, hb1⟩
    clear hC
    by_cases hq : seqB s = true
    · have hbits := seq_bits hq
      have hib := inv_bits hbits
      have hii := inv_inv (bits_all hbits)
      have HI := Lib.hid (invR_yes hq)
      have hiz := inv_size s
      obtain ⟨x, hx⟩ : ∃ x, x = invT s := ⟨_, rfl⟩
      rw [← hx] at hib hii HI hiz
      obtain ⟨f, hf⟩ : ∃ f, findR s 0 = f := ⟨_, rfl⟩
      obtain ⟨g, hg⟩ : ∃ g, findR x 0 = g := ⟨_, rfl⟩
      have HF := Lib.hid hf
      have HG := Lib.hid hg
      clear hq
      have heqs : (s.toList == s.toList) = true := by simp
      have heqx : (x.toList == x.toList) = true := by simp
      by_cases h1 : 0 ≤ f
      · have HPS := Lib.hid (pol_1 hbits (by rw [hf]; exact h1))
        by_cases h2 : 0 ≤ g
        · have HPX := Lib.hid (pol_1 hib (by rw [hg]; exact h2))
          clear hf hg hx hbits hib hii
          go_wp2_with fail
          refine (FixPolarity_c s _).mono ?_; rintro e w2 ⟨rfl, hb2⟩
          have hbA := hb1.trans (hb2.mono hb1.size)
          clear hb1 hb2
          rw [HPS.out]
          simp only [Option.getD_some, Option.isSome_some]
          go_wp2_with fail
          refine (sFixPolarity_c s _ (by omega)).mono ?_; rintro e w3 ⟨rfl, hb3⟩
          have hbB := hbA.trans (hb3.mono hbA.size)
          clear hbA hb3
          rw [HPS.out]
          simp only [Option.getD_some, Option.isSome_some]
          go_wp2_with fail
          refine (InvertBits_c s _).mono ?_; rintro e w4 ⟨rfl, hb4⟩
          have hbC := hbB.trans (hb4.mono hbB.size)
          clear hbB hb4
          rw [HI.out]
          simp only [Option.getD_some, Option.isSome_some]
          go_wp2_with fail
          refine (FixPolarity_c x _).mono ?_; rintro e w5 ⟨rfl, hb5⟩
          have hbD := hbC.trans (hb5.mono hbC.size)
          clear hbC hb5
          rw [HPX.out]
          simp only [Option.getD_some, Option.isSome_some]
          go_wp2_with fail
          refine (FindFrame_c s 0 _).mono ?_; rintro e w6 ⟨rfl, hb6⟩
          have hbE := hbD.trans (hb6.mono hbD.size)
          rw [HF.out]
          go_wp2_with fail
          refine (FindFrame_c x 0 _).mono ?_; rintro e w7 ⟨rfl, hb7⟩
          have hbF := hbE.trans (hb7.mono hbE.size)
          rw [HG.out]
          go_wp2_with fail
          refine (FindFrame_c s 0 _).mono ?_; rintro e w8 ⟨rfl, hb8⟩
          have hbG := hbF.trans (hb8.mono hbF.size)
          rw [HF.out]
          go_wp2_with fail
          go_ret
          exact ⟨by simp; try omega, hbG⟩
        · have HPX := Lib.hid (pol_2 hib (by rw [hg]; exact h2) (by rw [hii, hf]; exact h1))
          rw [hii] at HPX
          clear hf hg hx hbits hib hii
          go_wp2_with fail
          refine (FixPolarity_c s _).mono ?_; rintro e w2 ⟨rfl, hb2⟩
          have hbA := hb1.trans (hb2.mono hb1.size)
          clear hb1 hb2
          rw [HPS.out]
          simp only [Option.getD_some, Option.isSome_some]
          go_wp2_with fail
          refine (sFixPolarity_c s _ (by omega)).mono ?_; rintro e w3 ⟨rfl, hb3⟩
          have hbB := hbA.trans (hb3.mono hbA.size)
          clear hbA hb3
          rw [HPS.out]
          simp only [Option.getD_some, Option.isSome_some]
          go_wp2_with fail
          refine (InvertBits_c s _).mono ?_; rintro e w4 ⟨rfl, hb4⟩
          have hbC := hbB.trans (hb4.mono hbB.size)
          clear hbB hb4
          rw [HI.out]
          simp only [Option.getD_some, Option.isSome_some]
          go_wp2_with fail
          refine (FixPolarity_c x _).mono ?_; rintro e w5 ⟨rfl, hb5⟩
          have hbD := hbC.trans (hb5.mono hbC.size)
          clear hbC hb5
          rw [HPX.out]
          simp only [Option.getD_some, Option.isSome_some]
          go_wp2_with fail
          refine (FindFrame_c s 0 _).mono ?_; rintro e w6 ⟨rfl, hb6⟩
          have hbE := hbD.trans (hb6.mono hbD.size)
          rw [HF.out]
          go_wp2_with fail
          refine (FindFrame_c x 0 _).mono ?_; rintro e w7 ⟨rfl, hb7⟩
          have hbF := hbE.trans (hb7.mono hbE.size)
          rw [HG.out]
          go_wp2_with fail
          refine (FindFrame_c s 0 _).mono ?_; rintro e w8 ⟨rfl, hb8⟩
          have hbG := hbF.trans (hb8.mono hbF.size)
          rw [HF.out]
          go_wp2_with fail
          go_ret
          exact ⟨by simp; try omega, hbG⟩
      · by_cases h2 : 0 ≤ g
        · have HPS := Lib.hid (pol_2 hbits (by rw [hf]; exact h1) (by rw [← hx, hg]; exact h2))
          rw [← hx] at HPS
          have HPX := Lib.hid (pol_1 hib (by rw [hg]; exact h2))
          clear hf hg hx hbits hib hii
          go_wp2_with fail
          refine (FixPolarity_c s _).mono ?_; rintro e w2 ⟨rfl, hb2⟩
          have hbA := hb1.trans (hb2.mono hb1.size)
          clear hb1 hb2
          rw [HPS.out]
          simp only [Option.getD_some, Option.isSome_some]
          go_wp2_with fail
          refine (sFixPolarity_c s _ (by omega)).mono ?_; rintro e w3 ⟨rfl, hb3⟩
          have hbB := hbA.trans (hb3.mono hbA.size)
          clear hbA hb3
          rw [HPS.out]
          simp only [Option.getD_some, Option.isSome_some]
          go_wp2_with fail
          refine (InvertBits_c s _).mono ?_; rintro e w4 ⟨rfl, hb4⟩
          have hbC := hbB.trans (hb4.mono hbB.size)
          clear hbB hb4
          rw [HI.out]
          simp only [Option.getD_some, Option.isSome_some]
          go_wp2_with fail
          refine (FixPolarity_c x _).mono ?_; rintro e w5 ⟨rfl, hb5⟩
          have hbD := hbC.trans (hb5.mono hbC.size)
          clear hbC hb5
          rw [HPX.out]
          simp only [Option.getD_some, Option.isSome_some]
          by_cases he : (x.toList == s.toList) = true
          · go_wp2_with fail
            refine (FindFrame_c s 0 _).mono ?_; rintro e w6 ⟨rfl, hb6⟩
            have hbE := hbD.trans (hb6.mono hbD.size)
            rw [HF.out]
            go_wp2_with fail
            refine (FindFrame_c x 0 _).mono ?_; rintro e w8 ⟨rfl, hb8⟩
            have hbG := hbE.trans (hb8.mono hbE.size)
            rw [HG.out]
            go_wp2_with fail
            go_ret
            exact ⟨by simp; try omega, hbG⟩
          · have he' : (x.toList == s.toList) = false := by simpa using he
            clear he
            go_wp2_with fail
            refine (FindFrame_c s 0 _).mono ?_; rintro e w6 ⟨rfl, hb6⟩
            have hbE := hbD.trans (hb6.mono hbD.size)
            rw [HF.out]
            go_wp2_with fail
            refine (FindFrame_c x 0 _).mono ?_; rintro e w8 ⟨rfl, hb8⟩
            have hbG := hbE.trans (hb8.mono hbE.size)
            rw [HG.out]
            go_wp2_with fail
            go_ret
            exact ⟨by simp; try omega, hbG⟩
        · have HPS := Lib.hid (pol_3 hbits (by rw [hf]; exact h1) (by rw [← hx, hg]; exact h2))
          have HPX := Lib.hid (pol_3 hib (by rw [hg]; exact h2) (by rw [hii, hf]; exact h1))
          clear hf hg hx hbits hib hii
          go_wp2_with fail
          refine (FixPolarity_c s _).mono ?_; rintro e w2 ⟨rfl, hb2⟩
          have hbA := hb1.trans (hb2.mono hb1.size)
          clear hb1 hb2
          rw [HPS.out]
          simp only [Option.getD_none, Option.isSome_none]
          go_wp2_with fail
          refine (sFixPolarity_c s _ (by omega)).mono ?_; rintro e w3 ⟨rfl, hb3⟩
          have hbB := hbA.trans (hb3.mono hbA.size)
          clear hbA hb3
          rw [HPS.out]
          simp only [Option.getD_none, Option.isSome_none]
          go_wp2_with fail
          refine (InvertBits_c s _).mono ?_; rintro e w4 ⟨rfl, hb4⟩
          have hbC := hbB.trans (hb4.mono hbB.size)
          clear hbB hb4
          rw [HI.out]
          simp only [Option.getD_some, Option.isSome_some]
          go_wp2_with fail
          refine (FixPolarity_c x _).mono ?_; rintro e w5 ⟨rfl, hb5⟩
          have hbD := hbC.trans (hb5.mono hbC.size)
          rw [HPX.out]
          simp only [Option.getD_none, Option.isSome_none]
          go_wp2_with fail
          go_ret
          exact ⟨by simp, hbD⟩
    · have hq' : seqB s = false := by simpa using hq
      have HI := Lib.hid (invR_no hq')
      clear hq hq'
      go_wp2_with fail
      refine (FixPolarity_c s _).mono ?_; rintro e w2 ⟨rfl, hb2⟩
      have hbA := hb1.trans (hb2.mono hb1.size)
      clear hb1 hb2
      go_wp2_with fail
      refine (sFixPolarity_c s _ (by omega)).mono ?_; rintro e w3 ⟨rfl, hb3⟩
      have hbB := hbA.trans (hb3.mono hbA.size)
      generalize (polR s).getD ByteArray.empty = r0
      generalize (polR s).isSome = r1
      go_wp2_with fail
      refine (InvertBits_c s _).mono ?_; rintro e w4 ⟨rfl, hb4⟩
      have hbC := hbB.trans (hb4.mono hbB.size)
      rw [HI.out]
      simp only [Option.getD_none, Option.isSome_none]
      go_wp2_with fail
      go_ret
      exact ⟨by simp, hbC⟩
  · have hn' : (1048576 : Int) < (len0 : Int) := by omega
    go_enter Try.func5, Try.ntmps5
    go_wp2_with fail
    go_ret
    exact ⟨rfl, Below.refl _ _⟩

set_option maxRecDepth 100000 in
theorem lifted (os : Os) (started : os.Started) (H : Type) (enc : TypeId × Value → H) :
    ReturnsInHanded {} Try.checked os 5 .any (Rows.fnPolaritySpec.pre6 enc Try.prog Try.f5 Rows.fnPolarityRow.domain false) (Rows.fnPolaritySpec.post enc Try.prog Try.f5 false true false false) := by
  refine returnsInHanded_of_change (C := Try.checked) own started (by kernel_rfl) Try.func5
    (ChangeSpec.witness6 (enc := enc) (C := Try.checked) false ⟨#[], #[.slice none 0 0], []⟩ 8 (by kernel_rfl) (by kernel_rfl) (by kernel_rfl) (by kernel_rfl)) ?_
  intro W base args ds gs before hval0 hW hcnd _
  have hval : ∀ (j : Nat) t v, Try.f5.params[j]? = some t → args[j]? = some v → Value.okWide Try.prog W .any base t v := hval0
  have hW' := hW
  obtain ⟨p, q, hA0, hV, rfl, hfz, hnd⟩ := hW
  have hA : DataW.TrodAll enc Try.prog W 0 (fun _ => true) true Try.f5.params.toList args.toList ds p := hA0
  rw [Try.params5] at hA hval
  obtain ⟨v0, vs0, d0, ds0, p0, q0, hargs, rfl, rfl, h0, r0⟩ := trodAll_cons hA
  obtain ⟨rfl, rfl, rfl⟩ := trodAll_nil r0
  obtain rfl : args = #[v0] := by cases args; simp_all
  obtain ⟨rfl, rfl⟩ := trodVars_none hV
  have k0 := h0
  have lt0 : ∀ x ∈ p0, x.block < W.heap.size := by obtain ⟨m, hm⟩ := k0; exact DataW.trod_lt m _ _ _ hm
  obtain ⟨a0, len0, cap0, rfl⟩ := okWide_slice Try.underlying22 (hval 0 22 v0 rfl rfl)
  obtain ⟨z0, w0⟩ : ∃ zs, IsRow .u8 W a0 len0 cap0 zs := by
    obtain ⟨fuel, hf⟩ := h0
    rcases open_ints Try.underlying22 Try.underlying5 (by kernel_rfl) hf with ⟨hcs, _⟩ | ⟨x, l, c, zs, hcs, _, hl, hm, hz, _, hcell, hwz⟩
    · simp [Value.cells] at hcs
      obtain ⟨rfl, rfl, rfl⟩ := hcs
      exact ⟨[], .inl ⟨rfl, rfl, rfl, rfl⟩⟩
    · simp [Value.cells] at hcs
      obtain ⟨rfl, rfl, rfl⟩ := hcs
      exact ⟨zs, .inr ⟨_, rfl, hl, hm, by simpa using hz, hcell, hwz⟩⟩
  clear hA0 hval0
  refine (walk a0 len0 cap0 z0 W w0).mono fun e W' ⟨he, bel⟩ => ?_
  subst he
  exact ⟨_, rfl, _, _, _, [], _, [], hW', trodAll_mk1 (shut_bool Try.underlying4 _), (trodAll_cons_mk (Below.trod laidOut (by kernel_rfl) (of_decide_eq_true (by kernel_rfl)) k0 bel lt0) trodAll_mk0), rfl, bel.frame _, fun h => by cases h⟩

theorem over : Rows.fnPolarityRow.holds Try.pinned (OpenSpec.ofChange Rows.fnPolaritySpec) :=
  OpenClaim.holds_of_wide 5 Try.f5 rfl rfl rfl rfl rfl rfl rfl ⟨rfl, rfl, rfl, rfl, rfl⟩ rfl rfl rfl rfl rfl (by kernel_rfl) Try.func5 (by kernel_rfl)
    (of_decide_eq_true (by kernel_rfl)) (by unfold Func.isWrapper; first | (rw [if_pos (by decide +kernel)]; kernel_rfl) | (rw [if_neg (by decide +kernel)]; exact ⟨rfl, rfl⟩))
    (fun os started H enc _ => lifted os started H enc)

theorem proved : Rows.FnPolaritySaid := over
#print axioms proved
end Go.Proofs.Ytaoahgngpjoekaa.fnPolarity
