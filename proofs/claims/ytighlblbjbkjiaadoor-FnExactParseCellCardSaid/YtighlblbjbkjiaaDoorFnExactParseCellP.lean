/- The law FnExactParseCell holds for every input that the given row lets in: the program's answer is the reference's. No condition of its own. -/
import Derived.Test.YtighlblbjbkjiaaDoorRows
import Derived.WalkKit
import Derived.ProofKit
import Derived.OpenShut
import Derived.ShutString
import Derived.ChangeOld
import Derived.Below
import Derived.Lib.SmallJoins
import Derived.LaidMore
import Derived.Lay
import Derived.Stop.Joined
import Derived.SevenTiedAt
import Derived.Shelf.Vars
import Derived.Test.YtighlblbjbkjiaaDoorCards
import Derived.Test.YtighlblbjbkjiaaDoorTie
import Derived.Test.YtighlblbjbkjiaaDoorTm
import Derived.Test.YtighlblbjbkjiaaDoorMk
import Derived.Test.YtighlblbjbkjiaaDoorCl
namespace Go.Proofs.YtighlblbjbkjiaaDoor.fnExactParseCell
open Go.ChangeShapes Go.WideShapes Go.ChangeAt Go.RowKit
open Go.ChangeMaps (open_string shut_string)
set_option linter.unusedVariables false

theorem own : ownKnob Tryd.prog.godebug = none := by kernel_rfl
theorem laidOut : laidOutB Tryd.prog = true := by kernel_rfl

/-- A slice of integers that came in: nil, or a row of 'cap' cells that hold the numbers zs. -/
def IsRow (k : IntKind) (w : World) (a : Option Addr) (len cap : Nat) (zs : List Int) : Prop :=
  (a = none ∧ len = 0 ∧ cap = 0 ∧ zs = []) ∨
  ∃ x, a = some x ∧ len ≤ cap ∧ cap ≤ maxLen ∧ zs.length = cap ∧ (∀ i, i < zs.length → w.cell? (x.add i) = some (.int k (zs.getD i 0))) ∧ ∀ n ∈ zs, (Lit.int k n).wf = true

set_option maxRecDepth 100000
set_option maxHeartbeats 4000000 in
theorem walk (a0 : ByteArray) (w : World) (hmax : ∃ m, w.cell? ⟨1, 0, none⟩ = some (.int .i64 m)) (w0 : a0.size ≤ maxLen) :
    Calls Tryd.prog 4 #[.string a0] w fun e w' => e = .returned (.bool true) ∧ Below w.heap.size w w' := by
  by_cases hn : a0.size ≤ 1048576
  · have hmw : MaxW w := hmax
    have HSP := Lib.hid (fun c => (show Calls Tryd.prog 11 #[.string a0] c (RetSB c (parT a0)) by rw [← sp_par]; exact sParseCell_c a0 c (by omega)))
    have HIP := Lib.hid (fun c (h : MaxW c) => ParseCell_c a0 c h (by omega))
    generalize parT a0 = r at *
    have hbb : (r.isSome != r.isSome) = false := by simp
    have hbc : (r.isSome == r.isSome) = true := by simp
    clear hmax
    go_enter Tryd.func4, Tryd.ntmps4
    go_wp2_with fail
    refine (HSP.out _).mono ?_; rintro e w1 ⟨aW, nW, cW, rfl, hW, hb1⟩
    have hm1 := hmw.below hb1
    go_wp2_with fail
    refine (HIP.out _ hm1).mono ?_; rintro e w2 ⟨aG, nG, cG, rfl, hG, hb2⟩
    have lt_W_G := hW.below'
    have hW2 := hW.below hb2
    have hm2 := hm1.below hb2
    have hB2 := hb1.trans (hb2.mono hb1.size)
    have hz1 := hb1.size
    have hzA := hb2.size
    clear hW hb1 hb2 hm1
    go_wp2_with fail
    refine (eqStationS_same hG.rd hW2.rd).mono ?_; rintro e w3 ⟨rfl, hb3⟩
    have hW3 := hW2.below hb3
    have hG3 := hG.below hb3
    have hm3 := hm2.below hb3
    have hB3 := hB2.trans (hb3.mono hB2.size)
    have hzB := hb3.size
    clear hW2 hG hb3 hm2 hB2
    have hz3 := hB3.size
    go_wp2_with fail
    refine (markStationS_c (1) hG3 (by omega) (by omega)).mono ?_; rintro e w4 ⟨rfl, hG4, hw4⟩
    have hW4 := hW3.wrNew hG3 hw4 lt_W_G
    have hB4 := hB3.trans ((hw4.belowS hG3 (by have := hw4.size; omega)).mono (by omega))
    have hm4 := hmw.below hB4
    clear hW3 hm3 hB3 hG3 hw4
    have hz4 := hB4.size
    go_wp2_with fail
    refine (heldStationS_c (1) hG4.rd (by omega) (by omega)).mono ?_; rintro e w5 ⟨rfl, hb5⟩
    have hW5 := hW4.below hb5
    have hG5 := hG4.below hb5
    have hm5 := hm4.below hb5
    have hB5 := hB4.trans (hb5.mono hB4.size)
    clear hW4 hG4 hb5 hm4 hB4
    have hz5 := hB5.size
    go_wp2_with fail
    refine (HIP.out _ hm5).mono ?_; rintro e w6 ⟨aH, nH, cH, rfl, hH, hb6⟩
    have hW6 := hW5.below hb6
    have hG6 := hG5.below hb6
    have hB6 := hB5.trans (hb6.mono hB5.size)
    clear hW5 hG5 hb6 hB5
    go_wp2_with fail
    refine (eqStationS_same hH.rd hW6.rd).mono ?_; rintro e w7 ⟨rfl, hb7⟩
    have hG7 := hG6.below hb7
    have hB7 := hB6.trans (hb7.mono hB6.size)
    clear hW6 hG6 hb7 hB6 hH
    go_wp2_with fail
    refine (heldStationS_c (1) hG7.rd (by omega) (by omega)).mono ?_; rintro e w8 ⟨rfl, hb8⟩
    have hB8 := hB7.trans (hb8.mono hB7.size)
    clear hG7 hb8 hB7
    go_wp2_with fail
    go_ret
    exact ⟨rfl, hB8⟩
  · have hn' : (1048576 : Int) < (a0.size : Int) := by omega
    go_enter Tryd.func4, Tryd.ntmps4
    go_wp2_with fail
    go_ret
    exact ⟨rfl, Below.refl _ _⟩

def laidL : List (String × DataW Unit) := [("unicode/utf8.acceptRanges", Rows.laid_unicode_utf8_acceptRanges), ("unicode/utf8.first", Rows.laid_unicode_utf8_first)]
theorem returns_door {H : Type} {enc : TypeId × Value → H} {a : Assume} {C : Checked} {os : Os} {f : FuncId} {fn : Func} {s : ChangeSpec} {conds : List PathCond} {apart fresh handsOn again : Bool} {X : World → Array Value → Prop}
    (hX : ∀ (w w' : World) (args : Array Value), w.heap = w'.heap → X w args → X w' args)
    (own : ownKnob C.prog.godebug = none) (started : os.Started) (noInit : C.prog.inits.idxOf? f = none) (hfn : C.prog.funcs[f]? = some fn)
    (witness : ∃ (w : World) (tape : Tape) (i : Input), w.os = os ∧ (w.forCall tape i).Shaped C.prog ∧ i.vars = [] ∧ Input.okWide C.prog (w.forCall tape i) .any w.heap.size f i ∧
      ((s.pre enc C.prog fn conds apart (w.forCall tape i).memory i.args ∧ X (w.forCall tape i).memory i.args) ∧ sizedMet enc C.prog fn (OpenSpec.ofChange s) apart (w.forCall tape i).memory i.args) ∧ a.holds C.prog (lone (Frame.enter C.prog f i.args .normal) [] (w.forCall tape i)))
    (contract : ∀ (W : World) (base : Nat) (args : Array Value) (ds gs : List (DataW H)) (before : List MemPlace),
      (∀ (j : Nat) t v, fn.params[j]? = some t → args[j]? = some v → Value.okWide C.prog W .any base t v) →
      DataW.Whole enc C.prog fn.params.toList s.vars apart W args.toList ds gs before →
      conds.all (PathCond.test C.prog ⟨fn.params.toList, ds, s.plain.varTypes C.prog, gs⟩) = true →
      X W args → W.ShapedOpen C.prog →
      Calls C.prog f args W fun e W' => ∃ v, e = .returned v ∧ s.post enc C.prog fn apart fresh handsOn again W args v W') :
    ReturnsInHanded a C os f .any (fun w args => (s.pre enc C.prog fn conds apart w args ∧ X w args) ∧ sizedMet enc C.prog fn (OpenSpec.ofChange s) apart w args) (s.post enc C.prog fn apart fresh handsOn again) := by
  refine returnsInHanded_of_calls own started noInit witness ?_
  intro w tape i _ hsh _ hok hpre hholds
  obtain ⟨_, _, _, fn', hfn', _, _, _, _, hval⟩ := hok
  have e : fn' = fn := Option.some.inj (hfn'.symm.trans hfn)
  subst e
  obtain ⟨⟨⟨ds, gs, before, hw, hc⟩, hx⟩, hz⟩ := hpre
  have hw' := DataW.Whole.of_heap (w' := w.forCall tape i) (by rfl) hw
  refine (contract (w.forCall tape i) w.heap.size i.args ds gs before hval hw' hc (hX _ _ _ (by rfl) hx) hsh).mono fun e W' ⟨v, he, hp⟩ => ?_
  subst he
  exact ChangeSpec.post_blind hp

set_option maxRecDepth 100000 in
theorem lifted (os : Os) (started : os.Started) (H : Type) (enc : TypeId × Value → H) :
    ReturnsInHanded {} Tryd.checked os 4 .any (fun w args => (Rows.fnExactParseCellSpec.pre enc Tryd.prog Tryd.f4 [] false w args ∧ laidMetH Tryd.prog laidL w) ∧ sizedMet enc Tryd.prog Tryd.f4 (OpenSpec.ofChange Rows.fnExactParseCellSpec) false w args)
      (Rows.fnExactParseCellSpec.post enc Tryd.prog Tryd.f4 false true false false) := by
  refine returns_door (C := Tryd.checked) (X := fun w _ => laidMetH Tryd.prog laidL w) (fun _ _ _ hh h => h.of_heap hh) own started (by kernel_rfl) Tryd.func4
    (ChangeSpec.witness_shaped (enc := enc) (C := Tryd.checked) (os := os) (X := fun w _ => laidMetH Tryd.prog laidL w) false (World.laidAll Tryd.prog os laidL) #[.string ByteArray.empty] 8 (World.laidAll_os _ _ _)
      (World.shaped_of_ZipB (by kernel_rfl) (by kernel_rfl)) (by kernel_rfl) (by kernel_rfl) (by kernel_rfl)
      (by rw [MakeChecks.laidMetH_plain _ _ _ (by kernel_rfl)]; exact laidMet_laidAll _ (by kernel_rfl) (by kernel_rfl))) ?_
  intro W base args ds gs before hval0 hW hcnd hLd hSh
  have hval : ∀ (j : Nat) t v, Tryd.f4.params[j]? = some t → args[j]? = some v → Value.okWide Tryd.prog W .any base t v := hval0
  have hW' := hW
  obtain ⟨p, q, hA0, hV, rfl, hfz, hnd⟩ := hW
  have hA : DataW.TrodAll enc Tryd.prog W 0 (fun _ => true) true Tryd.f4.params.toList args.toList ds p := hA0
  rw [Tryd.params4] at hA hval
  obtain ⟨v0, vs0, d0, ds0, p0, q0, hargs, rfl, rfl, h0, r0⟩ := trodAll_cons hA
  obtain ⟨rfl, rfl, rfl⟩ := trodAll_nil r0
  obtain rfl : args = #[v0] := by cases args; simp_all
  obtain ⟨rfl, rfl⟩ := trodVars_none hV
  have k0 := h0
  have lt0 : ∀ x ∈ p0, x.block < W.heap.size := by obtain ⟨m, hm⟩ := k0; exact DataW.trod_lt m _ _ _ hm
  obtain ⟨a0, rfl, rfl, rfl, w0⟩ := open_string Tryd.underlying9 (hval 0 9 v0 rfl rfl) h0
  have hmax : ∃ m, W.cell? ⟨1, 0, none⟩ = some (.int .i64 m) := cell_of_shapedOpen_int (zero := #[.int .i64 0]) (t := 3) hSh (of_decide_eq_true (by kernel_rfl)) (by kernel_rfl) rfl (by kernel_rfl) (by kernel_rfl) Tryd.underlying3
  clear hA0 hval0
  refine (walk a0 W hmax w0).mono fun e W' ⟨he, bel⟩ => ?_
  subst he
  exact ⟨_, rfl, _, _, _, [], _, [], hW', trodAll_mk1 (shut_bool Tryd.underlying4 _), (trodAll_cons_mk (Below.trod laidOut (by kernel_rfl) (of_decide_eq_true (by kernel_rfl)) k0 bel lt0) trodAll_mk0), rfl, bel.frame _, fun h => by cases h⟩

theorem over : Rows.fnExactParseCellRow.holds Tryd.pinned (OpenSpec.ofChange Rows.fnExactParseCellSpec) :=
  OpenClaim.holds_of_wide 4 Tryd.f4 rfl rfl rfl rfl rfl rfl rfl ⟨rfl, rfl, rfl, rfl, rfl⟩ rfl rfl rfl rfl rfl (by kernel_rfl) Tryd.func4 (by kernel_rfl)
    (of_decide_eq_true (by kernel_rfl)) (by unfold Func.isWrapper; first | (rw [if_pos (by decide +kernel)]; kernel_rfl) | (rw [if_neg (by decide +kernel)]; exact ⟨rfl, rfl⟩))
    (fun os started H enc _ => lifted os started H enc)

theorem card_holds : Rows.FnExactParseCellCardSaid :=
  Claim7.holds_tied_plain_at .later [] [.data, .pinned] true (true, "1dc42ca199bc7d3f9aef1c99d4026fd3d7b29d264c37f4c050091fa56b6a34f2") false
    over (fun _ h => by cases h) (by kernel_rfl) (fun _ h => by cases h) fnExactParseCell_row_tie rfl ⟨rfl, rfl⟩ (by kernel_rfl) rfl
    (fun f fn hf hfn => by
      obtain rfl : f = 4 := Option.some.inj ((show Tryd.prog.funcNamed "loop.example/spreadspectrum/laws.FnExactParseCell" = some 4 by kernel_rfl).symm.trans hf) |>.symm
      obtain rfl : fn = Tryd.f4 := (Option.some.inj (Tryd.func4.symm.trans hfn)).symm
      exact ⟨by kernel_rfl, fun j t ht => by
        rw [Tryd.params4] at ht
        have hm : t ∈ ([9] : List TypeId) := by simpa using Array.mem_of_getElem? ht
        have hall : (([9] : List TypeId).all fun u => !Tryd.prog.wantsStandIn u) = true := by kernel_rfl
        exact (show Tryd.prog.wantsStandIn t = false by simpa using List.all_eq_true.1 hall t hm)⟩)
    (by kernel_rfl)
#print axioms card_holds
end Go.Proofs.YtighlblbjbkjiaaDoor.fnExactParseCell
