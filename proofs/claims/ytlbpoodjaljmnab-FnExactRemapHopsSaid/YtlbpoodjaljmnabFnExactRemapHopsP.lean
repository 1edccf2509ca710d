/- The law FnExactRemapHops holds for every input that the given row lets in: the program's answer is the reference's. No condition of its own.
   The frame of this text was written by the kit's proof-skeleton.mjs; the walk is ours. -/
import Derived.Test.YtlbpoodjaljmnabRows
import Derived.WalkKit
import Derived.ProofKit
import Derived.OpenShut
import Derived.ShutString
import Derived.ChangeOld
import Derived.Below
import Derived.Test.YtlbpoodjaljmnabHr
namespace Go.Proofs.Ytlbpoodjaljmnab.fnExactRemapHops
open Go.ChangeShapes Go.WideShapes Go.ChangeAt Go.RowKit
open Go.ChangeMaps (open_string shut_string)
set_option linter.unusedVariables false

theorem own : ownKnob Try.prog.godebug = none := by kernel_rfl
theorem laidOut : laidOutB Try.prog = true := by kernel_rfl

/-- WHAT THE WALK IS TOLD OF A SLICE OF INTEGERS THAT CAME IN: it is nil; or it leads to a row of 'cap' cells, the numbers 'zs' (the first 'len' are its elements, the rest its spare room), each fitting its kind. -/
def IsRow (k : IntKind) (w : World) (a : Option Addr) (len cap : Nat) (zs : List Int) : Prop :=
  (a = none ∧ len = 0 ∧ cap = 0 ∧ zs = []) ∨
  ∃ x, a = some x ∧ len ≤ cap ∧ cap ≤ maxLen ∧ zs.length = cap ∧ (∀ i, i < zs.length → w.cell? (x.add i) = some (.int k (zs.getD i 0))) ∧ ∀ n ∈ zs, (Lit.int k n).wf = true

/-! ### STEP 1: THE WALK: the Go text returns true, AND WRITES NOTHING THAT WAS THERE: 'Below w.heap.size w w'' (Derived/Below.lean: '.refl', '.alloc', '.drew', '.setCell' at a new block, '.trans'). Open each 'IsRow' by 'rcases' AHEAD of 'go_enter'; part every test ahead of the walk. -/
set_option maxHeartbeats 1000000 in
theorem walk (a0 : Option Addr) (len0 cap0 : Nat) (z0 : List Int) (a1 : Int) (a2 : Option Addr) (len2 cap2 : Nat) (z2 : List Int) (w : World) (w0 : IsRow .i64 w a0 len0 cap0 z0) (w1 : (Lit.int .i64 a1).wf = true) (w2 : IsRow .i64 w a2 len2 cap2 z2) :
    Calls Try.prog 5 #[.slice a0 len0 cap0, .int .i64 a1, .slice a2 len2 cap2] w fun e w' => e = .returned (.bool true) ∧ Below w.heap.size w w' := by
  by_cases hnH : len0 ≤ 1048576
  · by_cases hnBad : len2 ≤ 1048576
    · have hH0 := rd_of_row w0 (by omega)
      have hBad0 := rd_of_row w2 (by omega)
      clear w0
      clear w2
      go_enter Try.func5, Try.ntmps5
      go_wp2_with fail
      refine (toIntS_c hH0).mono ?_; rintro e w1 ⟨aSH, nSH, cSH, rfl, hSH1, hb1⟩
      have lt_H_SH := hH0.lt
      have lt_Bad_SH := hBad0.lt
      have hz1 := hb1.size
      have hH1 := hH0.below hb1
      clear hH0
      have hBad1 := hBad0.below hb1
      clear hBad0
      have hBase1 : Below w.heap.size w w1 := (hb1.mono (by omega))
      clear hb1
      have s_SH := hSH1.2.1
      go_wp2_with fail
      refine (toIntS_c hBad1).mono ?_; rintro e w2 ⟨aSBad, nSBad, cSBad, rfl, hSBad2, hb2⟩
      have lt_H_SBad := hH1.lt
      have lt_Bad_SBad := hBad1.lt
      have lt_SH_SBad := hSH1.below'
      have hz2 := hb2.size
      have hH2 := hH1.below hb2
      clear hH1
      have hBad2 := hBad1.below hb2
      clear hBad1
      have hSH2 := hSH1.below hb2
      clear hSH1
      have hBase2 := hBase1.trans (hb2.mono (by omega))
      clear hBase1
      clear hb2
      have s_SBad := hSBad2.2.1
      go_wp2_with fail
      refine (sRemapHops_c _ hSH2.rd hSBad2.rd).mono ?_; rintro e w3 ⟨aRW, nRW, cRW, rfl, hRW3, hb3⟩
      have lt_H_RW := hH2.lt
      have lt_Bad_RW := hBad2.lt
      have lt_SH_RW := hSH2.below'
      have lt_SBad_RW := hSBad2.below'
      have hz3 := hb3.size
      have hH3 := hH2.below hb3
      clear hH2
      have hBad3 := hBad2.below hb3
      clear hBad2
      have hSH3 := hSH2.below hb3
      clear hSH2
      have hSBad3 := hSBad2.below hb3
      clear hSBad2
      have hBase3 := hBase2.trans (hb3.mono (by omega))
      clear hBase2
      clear hb3
      have s_RW := hRW3.2.1
      clear hSH3
      clear hSBad3
      go_wp2_with fail
      refine (toIntS_c hH3).mono ?_; rintro e w4 ⟨aXH, nXH, cXH, rfl, hXH4, hb4⟩
      have lt_H_XH := hH3.lt
      have lt_Bad_XH := hBad3.lt
      have lt_RW_XH := hRW3.below'
      have hz4 := hb4.size
      have hH4 := hH3.below hb4
      clear hH3
      have hBad4 := hBad3.below hb4
      clear hBad3
      have hRW4 := hRW3.below hb4
      clear hRW3
      have hBase4 := hBase3.trans (hb4.mono (by omega))
      clear hBase3
      clear hb4
      have s_XH := hXH4.2.1
      go_wp2_with fail
      refine (toIntS_c hBad4).mono ?_; rintro e w5 ⟨aXBad, nXBad, cXBad, rfl, hXBad5, hb5⟩
      have lt_H_XBad := hH4.lt
      have lt_Bad_XBad := hBad4.lt
      have lt_RW_XBad := hRW4.below'
      have lt_XH_XBad := hXH4.below'
      have hz5 := hb5.size
      have hH5 := hH4.below hb5
      clear hH4
      have hBad5 := hBad4.below hb5
      clear hBad4
      have hRW5 := hRW4.below hb5
      clear hRW4
      have hXH5 := hXH4.below hb5
      clear hXH4
      have hBase5 := hBase4.trans (hb5.mono (by omega))
      clear hBase4
      clear hb5
      have s_XBad := hXBad5.2.1
      go_wp2_with fail
      refine (RemapHops_c _ hXH5.rd hXBad5.rd).mono ?_; rintro e w6 ⟨aRG, nRG, cRG, rfl, hRG6, hb6⟩
      have lt_H_RG := hH5.lt
      have lt_Bad_RG := hBad5.lt
      have lt_RW_RG := hRW5.below'
      have lt_XH_RG := hXH5.below'
      have lt_XBad_RG := hXBad5.below'
      have hz6 := hb6.size
      have hH6 := hH5.below hb6
      clear hH5
      have hBad6 := hBad5.below hb6
      clear hBad5
      have hRW6 := hRW5.below hb6
      clear hRW5
      have hXH6 := hXH5.below hb6
      clear hXH5
      have hXBad6 := hXBad5.below hb6
      clear hXBad5
      have hBase6 := hBase5.trans (hb6.mono (by omega))
      clear hBase5
      clear hb6
      have s_RG := hRG6.2.1
      go_wp2_with fail
      refine (eqIntS_same hRG6.rd hRW6.rd).mono ?_; rintro e w7 ⟨rfl, hq7⟩
      have hb7 := hq7.below w6.heap.size
      have hz7 := hb7.size
      have hH7 := hH6.below hb7
      clear hH6
      have hBad7 := hBad6.below hb7
      clear hBad6
      have hRW7 := hRW6.below hb7
      clear hRW6
      have hXH7 := hXH6.below hb7
      clear hXH6
      have hXBad7 := hXBad6.below hb7
      clear hXBad6
      have hRG7 := hRG6.below hb7
      clear hRG6
      have hBase7 := hBase6.trans (hb7.mono (by omega))
      clear hBase6
      clear hb7
      go_wp2_with fail
      refine (toIntS_c hH7).mono ?_; rintro e w8 ⟨aCH, nCH, cCH, rfl, hCH8, hb8⟩
      have lt_H_CH := hH7.lt
      have lt_Bad_CH := hBad7.lt
      have lt_RW_CH := hRW7.below'
      have lt_XH_CH := hXH7.below'
      have lt_XBad_CH := hXBad7.below'
      have lt_RG_CH := hRG7.below'
      have hz8 := hb8.size
      have hH8 := hH7.below hb8
      clear hH7
      have hBad8 := hBad7.below hb8
      clear hBad7
      have hRW8 := hRW7.below hb8
      clear hRW7
      have hXH8 := hXH7.below hb8
      clear hXH7
      have hXBad8 := hXBad7.below hb8
      clear hXBad7
      have hRG8 := hRG7.below hb8
      clear hRG7
      have hBase8 := hBase7.trans (hb8.mono (by omega))
      clear hBase7
      clear hb8
      have s_CH := hCH8.2.1
      go_wp2_with fail
      refine (eqIntS_same hXH8.rd hCH8.rd).mono ?_; rintro e w9 ⟨rfl, hq9⟩
      have hb9 := hq9.below w8.heap.size
      have hz9 := hb9.size
      have hH9 := hH8.below hb9
      clear hH8
      have hBad9 := hBad8.below hb9
      clear hBad8
      have hRW9 := hRW8.below hb9
      clear hRW8
      have hXH9 := hXH8.below hb9
      clear hXH8
      have hXBad9 := hXBad8.below hb9
      clear hXBad8
      have hRG9 := hRG8.below hb9
      clear hRG8
      have hCH9 := hCH8.below hb9
      clear hCH8
      have hBase9 := hBase8.trans (hb9.mono (by omega))
      clear hBase8
      clear hb9
      clear hCH9
      go_wp2_with fail
      refine (toIntS_c hBad9).mono ?_; rintro e w10 ⟨aCBad, nCBad, cCBad, rfl, hCBad10, hb10⟩
      have lt_H_CBad := hH9.lt
      have lt_Bad_CBad := hBad9.lt
      have lt_RW_CBad := hRW9.below'
      have lt_XH_CBad := hXH9.below'
      have lt_XBad_CBad := hXBad9.below'
      have lt_RG_CBad := hRG9.below'
      have hz10 := hb10.size
      have hH10 := hH9.below hb10
      clear hH9
      have hBad10 := hBad9.below hb10
      clear hBad9
      have hRW10 := hRW9.below hb10
      clear hRW9
      have hXH10 := hXH9.below hb10
      clear hXH9
      have hXBad10 := hXBad9.below hb10
      clear hXBad9
      have hRG10 := hRG9.below hb10
      clear hRG9
      have hBase10 := hBase9.trans (hb10.mono (by omega))
      clear hBase9
      clear hb10
      have s_CBad := hCBad10.2.1
      go_wp2_with fail
      refine (eqIntS_same hXBad10.rd hCBad10.rd).mono ?_; rintro e w11 ⟨rfl, hq11⟩
      have hb11 := hq11.below w10.heap.size
      have hz11 := hb11.size
      have hH11 := hH10.below hb11
      clear hH10
      have hBad11 := hBad10.below hb11
      clear hBad10
      have hRW11 := hRW10.below hb11
      clear hRW10
      have hXH11 := hXH10.below hb11
      clear hXH10
      have hXBad11 := hXBad10.below hb11
      clear hXBad10
      have hRG11 := hRG10.below hb11
      clear hRG10
      have hCBad11 := hCBad10.below hb11
      clear hCBad10
      have hBase11 := hBase10.trans (hb11.mono (by omega))
      clear hBase10
      clear hb11
      clear hCBad11
      go_wp2_with fail
      refine (markIntS_c (1) hXH11 (by omega) (by omega)).mono ?_; rintro e w12 ⟨rfl, hXH12, hw12⟩
      have hH12 := hH11.wr hXH11 hw12 lt_H_XH
      clear hH11
      have hBad12 := hBad11.wr hXH11 hw12 lt_Bad_XH
      clear hBad11
      have hRW12 := hRW11.wrNew hXH11 hw12 lt_RW_XH
      clear hRW11
      have hXBad12 := hXBad11.wrOld hXH11 hw12 lt_XH_XBad
      clear hXBad11
      have hRG12 := hRG11.wrOld hXH11 hw12 lt_XH_RG
      clear hRG11
      have hz12 := hw12.size
      have hBase12 := hBase11.trans ((hw12.below hXH11 (by omega)).mono (by omega))
      clear hBase11
      clear hXH11 hw12
      go_wp2_with fail
      refine (markIntS_c (1 + nXH) hXBad12 (by omega) (by omega)).mono ?_; rintro e w13 ⟨rfl, hXBad13, hw13⟩
      have hH13 := hH12.wr hXBad12 hw13 lt_H_XBad
      clear hH12
      have hBad13 := hBad12.wr hXBad12 hw13 lt_Bad_XBad
      clear hBad12
      have hRW13 := hRW12.wrNew hXBad12 hw13 lt_RW_XBad
      clear hRW12
      have hXH13 := hXH12.wrNew hXBad12 hw13 lt_XH_XBad
      clear hXH12
      have hRG13 := hRG12.wrOld hXBad12 hw13 lt_XBad_RG
      clear hRG12
      have hz13 := hw13.size
      have hBase13 := hBase12.trans ((hw13.below hXBad12 (by omega)).mono (by omega))
      clear hBase12
      clear hXBad12 hw13
      go_wp2_with fail
      refine (eqIntS_same hRG13.rd hRW13.rd).mono ?_; rintro e w14 ⟨rfl, hq14⟩
      have hb14 := hq14.below w13.heap.size
      have hz14 := hb14.size
      have hH14 := hH13.below hb14
      clear hH13
      have hBad14 := hBad13.below hb14
      clear hBad13
      have hRW14 := hRW13.below hb14
      clear hRW13
      have hXH14 := hXH13.below hb14
      clear hXH13
      have hXBad14 := hXBad13.below hb14
      clear hXBad13
      have hRG14 := hRG13.below hb14
      clear hRG13
      have hBase14 := hBase13.trans (hb14.mono (by omega))
      clear hBase13
      clear hb14
      clear hXH14
      clear hXBad14
      go_wp2_with fail
      refine (markIntS_c (1) hRG14 (by omega) (by omega)).mono ?_; rintro e w15 ⟨rfl, hRG15, hw15⟩
      have hH15 := hH14.wr hRG14 hw15 lt_H_RG
      clear hH14
      have hBad15 := hBad14.wr hRG14 hw15 lt_Bad_RG
      clear hBad14
      have hRW15 := hRW14.wrNew hRG14 hw15 lt_RW_RG
      clear hRW14
      have hz15 := hw15.size
      have hBase15 := hBase14.trans ((hw15.below hRG14 (by omega)).mono (by omega))
      clear hBase14
      clear hRG14 hw15
      go_wp2_with fail
      refine (heldIntS_c (1) hRG15.rd (by omega) (by omega)).mono ?_; rintro e w' ⟨rfl, rfl⟩
      go_wp2_with fail
      refine (toIntS_c hH15).mono ?_; rintro e w16 ⟨aYH, nYH, cYH, rfl, hYH16, hb16⟩
      have lt_H_YH := hH15.lt
      have lt_Bad_YH := hBad15.lt
      have lt_RW_YH := hRW15.below'
      have lt_RG_YH := hRG15.below'
      have hz16 := hb16.size
      have hH16 := hH15.below hb16
      clear hH15
      have hBad16 := hBad15.below hb16
      clear hBad15
      have hRW16 := hRW15.below hb16
      clear hRW15
      have hRG16 := hRG15.below hb16
      clear hRG15
      have hBase16 := hBase15.trans (hb16.mono (by omega))
      clear hBase15
      clear hb16
      have s_YH := hYH16.2.1
      go_wp2_with fail
      refine (toIntS_c hBad16).mono ?_; rintro e w17 ⟨aYBad, nYBad, cYBad, rfl, hYBad17, hb17⟩
      have lt_H_YBad := hH16.lt
      have lt_Bad_YBad := hBad16.lt
      have lt_RW_YBad := hRW16.below'
      have lt_RG_YBad := hRG16.below'
      have lt_YH_YBad := hYH16.below'
      have hz17 := hb17.size
      have hH17 := hH16.below hb17
      clear hH16
      have hBad17 := hBad16.below hb17
      clear hBad16
      have hRW17 := hRW16.below hb17
      clear hRW16
      have hRG17 := hRG16.below hb17
      clear hRG16
      have hYH17 := hYH16.below hb17
      clear hYH16
      have hBase17 := hBase16.trans (hb17.mono (by omega))
      clear hBase16
      clear hb17
      have s_YBad := hYBad17.2.1
      go_wp2_with fail
      refine (RemapHops_c _ hYH17.rd hYBad17.rd).mono ?_; rintro e w18 ⟨aRH, nRH, cRH, rfl, hRH18, hb18⟩
      have lt_H_RH := hH17.lt
      have lt_Bad_RH := hBad17.lt
      have lt_RW_RH := hRW17.below'
      have lt_RG_RH := hRG17.below'
      have lt_YH_RH := hYH17.below'
      have lt_YBad_RH := hYBad17.below'
      have hz18 := hb18.size
      have hH18 := hH17.below hb18
      clear hH17
      have hBad18 := hBad17.below hb18
      clear hBad17
      have hRW18 := hRW17.below hb18
      clear hRW17
      have hRG18 := hRG17.below hb18
      clear hRG17
      have hYH18 := hYH17.below hb18
      clear hYH17
      have hYBad18 := hYBad17.below hb18
      clear hYBad17
      have hBase18 := hBase17.trans (hb18.mono (by omega))
      clear hBase17
      clear hb18
      have s_RH := hRH18.2.1
      clear hYH18
      clear hYBad18
      go_wp2_with fail
      refine (eqIntS_same hRH18.rd hRW18.rd).mono ?_; rintro e w19 ⟨rfl, hq19⟩
      have hb19 := hq19.below w18.heap.size
      have hz19 := hb19.size
      have hH19 := hH18.below hb19
      clear hH18
      have hBad19 := hBad18.below hb19
      clear hBad18
      have hRW19 := hRW18.below hb19
      clear hRW18
      have hRG19 := hRG18.below hb19
      clear hRG18
      have hRH19 := hRH18.below hb19
      clear hRH18
      have hBase19 := hBase18.trans (hb19.mono (by omega))
      clear hBase18
      clear hb19
      go_wp2_with fail
      refine (heldIntS_c (1) hRG19.rd (by omega) (by omega)).mono ?_; rintro e w' ⟨rfl, rfl⟩
      go_wp2_with fail
      go_ret
      exact ⟨rfl, hBase19⟩
    · have hn' : (1048576 : Int) < (len2 : Int) := by omega
      go_enter Try.func5, Try.ntmps5
      go_wp2
      go_ret
      exact ⟨rfl, Below.refl _ _⟩
  · have hn' : (1048576 : Int) < (len0 : Int) := by omega
    go_enter Try.func5, Try.ntmps5
    go_wp2
    go_ret
    exact ⟨rfl, Below.refl _ _⟩

/-! ### THE ROW's STEP: WRITTEN OUT: LEAVE IT -/
set_option maxRecDepth 100000 in
theorem lifted (os : Os) (started : os.Started) (H : Type) (enc : TypeId × Value → H) :
    ReturnsInHanded {} Try.checked os 5 .any (Rows.fnExactRemapHopsSpec.pre6 enc Try.prog Try.f5 Rows.fnExactRemapHopsRow.domain false) (Rows.fnExactRemapHopsSpec.post enc Try.prog Try.f5 false true false false) := by
  refine returnsInHanded_of_change (C := Try.checked) own started (by kernel_rfl) Try.func5
    (ChangeSpec.witness6 (enc := enc) (C := Try.checked) false ⟨#[], #[.slice none 0 0, .int .i64 0, .slice none 0 0], []⟩ 8 (by kernel_rfl) (by kernel_rfl) (by kernel_rfl) (by kernel_rfl)) ?_
  intro W base args ds gs before hval0 hW hcnd _
  have hval : ∀ (j : Nat) t v, Try.f5.params[j]? = some t → args[j]? = some v → Value.okWide Try.prog W .any base t v := hval0
  have hW' := hW
  obtain ⟨p, q, hA0, hV, rfl, hfz, hnd⟩ := hW
  have hA : DataW.TrodAll enc Try.prog W 0 (fun _ => true) true Try.f5.params.toList args.toList ds p := hA0
  rw [Try.params5] at hA hval
  obtain ⟨v0, vs0, d0, ds0, p0, q0, hargs, rfl, rfl, h0, r0⟩ := trodAll_cons hA
  obtain ⟨v1, vs1, d1, ds1, p1, q1, rfl, rfl, rfl, h1, r1⟩ := trodAll_cons r0
  obtain ⟨v2, vs2, d2, ds2, p2, q2, rfl, rfl, rfl, h2, r2⟩ := trodAll_cons r1
  obtain ⟨rfl, rfl, rfl⟩ := trodAll_nil r2
  obtain rfl : args = #[v0, v1, v2] := by cases args; simp_all
  obtain ⟨rfl, rfl⟩ := trodVars_none hV
  obtain ⟨a0, len0, cap0, rfl⟩ := okWide_slice Try.underlying22 (hval 0 22 v0 rfl rfl)
  have k0 := h0
  have lt0 : ∀ x ∈ p0, x.block < W.heap.size := by obtain ⟨m, hm⟩ := k0; exact DataW.trod_lt m _ _ _ hm
  obtain ⟨z0, w0⟩ : ∃ zs, IsRow .i64 W a0 len0 cap0 zs := by
    obtain ⟨fuel, hf⟩ := h0
    rcases open_ints Try.underlying22 Try.underlying3 (by kernel_rfl) hf with ⟨hcs, _⟩ | ⟨x, l, c, zs, hcs, _, hl, hm, hz, _, hcell, hwz⟩
    · simp [Value.cells] at hcs
      obtain ⟨rfl, rfl, rfl⟩ := hcs
      exact ⟨[], .inl ⟨rfl, rfl, rfl, rfl⟩⟩
    · simp [Value.cells] at hcs
      obtain ⟨rfl, rfl, rfl⟩ := hcs
      exact ⟨zs, .inr ⟨_, rfl, hl, hm, by simpa using hz, hcell, hwz⟩⟩
  obtain ⟨a1, rfl, rfl, rfl, w1⟩ := open_int Try.underlying3 (hval 1 3 v1 rfl rfl) h1
  obtain ⟨a2, len2, cap2, rfl⟩ := okWide_slice Try.underlying22 (hval 2 22 v2 rfl rfl)
  have k2 := h2
  have lt2 : ∀ x ∈ p2, x.block < W.heap.size := by obtain ⟨m, hm⟩ := k2; exact DataW.trod_lt m _ _ _ hm
  obtain ⟨z2, w2⟩ : ∃ zs, IsRow .i64 W a2 len2 cap2 zs := by
    obtain ⟨fuel, hf⟩ := h2
    rcases open_ints Try.underlying22 Try.underlying3 (by kernel_rfl) hf with ⟨hcs, _⟩ | ⟨x, l, c, zs, hcs, _, hl, hm, hz, _, hcell, hwz⟩
    · simp [Value.cells] at hcs
      obtain ⟨rfl, rfl, rfl⟩ := hcs
      exact ⟨[], .inl ⟨rfl, rfl, rfl, rfl⟩⟩
    · simp [Value.cells] at hcs
      obtain ⟨rfl, rfl, rfl⟩ := hcs
      exact ⟨zs, .inr ⟨_, rfl, hl, hm, by simpa using hz, hcell, hwz⟩⟩
  clear hA0 hval0
  refine (walk a0 len0 cap0 z0 a1 a2 len2 cap2 z2 W w0 w1 w2).mono fun e W' ⟨he, bel⟩ => ?_
  subst he
  exact ⟨_, rfl, _, _, _, [], _, [], hW', trodAll_mk1 (shut_bool Try.underlying4 _), (trodAll_cons_mk (Below.trod laidOut (by kernel_rfl) (of_decide_eq_true (by kernel_rfl)) k0 bel lt0) (trodAll_cons_mk (shut_int Try.underlying3 w1) (trodAll_cons_mk (Below.trod laidOut (by kernel_rfl) (of_decide_eq_true (by kernel_rfl)) k2 bel lt2) trodAll_mk0))), rfl, bel.frame _, fun h => by cases h⟩

theorem over : Rows.fnExactRemapHopsRow.holds Try.pinned (OpenSpec.ofChange Rows.fnExactRemapHopsSpec) :=
  OpenClaim.holds_of_wide 5 Try.f5 rfl rfl rfl rfl rfl rfl rfl ⟨rfl, rfl, rfl, rfl, rfl⟩ rfl rfl rfl rfl rfl (by kernel_rfl) Try.func5 (by kernel_rfl)
    (of_decide_eq_true (by kernel_rfl)) (by unfold Func.isWrapper; first | (rw [if_pos (by decide +kernel)]; kernel_rfl) | (rw [if_neg (by decide +kernel)]; exact ⟨rfl, rfl⟩))
    (fun os started H enc _ => lifted os started H enc)

/-- ████ THE STATEMENT ████ -/
theorem proved : Rows.FnExactRemapHopsSaid := over
#print axioms proved
end Go.Proofs.Ytlbpoodjaljmnab.fnExactRemapHops
