/- The law FnExactFormatCell holds for every input that the given row lets in: the program's answer is the reference's. No condition of its own. -/
import Derived.Test.YtighlblbjbkjiaaDoorRows
import Derived.WalkKit
import Derived.ProofKit
import Derived.OpenShut
import Derived.ShutString
import Derived.ChangeOld
import Derived.Below
import Derived.Lib.SmallJoins
import Derived.LaidMore
import Derived.Lay
import Derived.Stop.Joined
import Derived.SevenTiedAt
import Derived.Shelf.Vars
import Derived.Test.YtighlblbjbkjiaaDoorCards
import Derived.Test.YtighlblbjbkjiaaDoorTie
import Derived.Test.YtighlblbjbkjiaaDoorTk
import Derived.Test.YtighlblbjbkjiaaDoorFs
import Derived.Test.YtighlblbjbkjiaaDoorCl
namespace Go.Proofs.YtighlblbjbkjiaaDoor.fnExactFormatCell
open Go.ChangeShapes Go.WideShapes Go.ChangeAt Go.RowKit
open Go.ChangeMaps (open_string shut_string)
set_option linter.unusedVariables false

theorem own : ownKnob Tryd.prog.godebug = none := by kernel_rfl
theorem laidOut : laidOutB Tryd.prog = true := by kernel_rfl

/-- A slice of integers that came in: nil, or a row of 'cap' cells that hold the numbers zs. -/
def IsRow (k : IntKind) (w : World) (a : Option Addr) (len cap : Nat) (zs : List Int) : Prop :=
  (a = none ∧ len = 0 ∧ cap = 0 ∧ zs = []) ∨
  ∃ x, a = some x ∧ len ≤ cap ∧ cap ≤ maxLen ∧ zs.length = cap ∧ (∀ i, i < zs.length → w.cell? (x.add i) = some (.int k (zs.getD i 0))) ∧ ∀ n ∈ zs, (Lit.int k n).wf = true

set_option maxRecDepth 100000
set_option maxHeartbeats 4000000 in
theorem walk (a0 : Option Addr) (len0 cap0 : Nat) (z0 : List Stn) (w : World) (hmax : ∃ m, w.cell? ⟨1, 0, none⟩ = some (.int .i64 m)) (htab : Lib.TabIs Tryd.prog w "internal/strconv.uint64pow10" .u64 Lib.pow10Tab) (w0 : IsStns w a0 len0 cap0 z0) :
    Calls Tryd.prog 3 #[.slice a0 len0 cap0] w fun e w' => e = .returned (.bool true) ∧ Below w.heap.size w w' := by
  have HTB := Lib.hid (show TabW w from htab)
  clear htab hmax
  have hcm : len0 ≤ maxLen := by
    rcases w0 with ⟨_, h1, _⟩ | ⟨x, _, h1, h2, _⟩
    · rw [h1]; exact Nat.zero_le _
    · exact Nat.le_trans h1 h2
  by_cases hnH : len0 ≤ 1048576
  · obtain ⟨hH0, hSm, hcap⟩ := rdS_of w0 (by omega)
    clear w0 hcap hcm
    by_cases hsz : ((z0.take len0).length : Int) + szL (z0.take len0) ≤ 1048576
    · have hr := Lib.hid (szR_yes hsz)
      have hnn : ¬ (1048576 : Int) - ((z0.take len0).length : Int) - szL (z0.take len0) < 0 := by omega
      have HB : ∀ i (h : i < (z0.take len0).length), ((z0.take len0)[i]'h).nm.size ≤ 1099511627776 ∧ ((z0.take len0)[i]'h).ph.size ≤ 1099511627776 := by
        intro i h
        have := szL_mem (z0.take len0) (List.getElem_mem h)
        omega
      generalize z0.take len0 = l at *
      have HBH := Lib.hid HB; clear HB
      clear hsz
      go_enter Tryd.func3, Tryd.ntmps3
      go_wp2_with fail
      refine (szStationS_c hH0 hSm 1048576 (by omega) (by omega)).mono ?_; rintro e w1 ⟨rfl, hb1⟩
      rw [hr.out]
      have hH1 := hH0.below hb1
      clear hH0
      go_wp2_with fail
      refine (toStationS_c hH1).mono ?_; rintro e w2 ⟨aS, nS, cS, rfl, hS2, hb2⟩
      have hz2 := hb2.size
      have hH2 := hH1.below hb2
      have hBase2 := hb1.trans (hb2.mono hb1.size)
      clear hH1 hb1 hb2
      go_wp2_with fail
      refine (sFormatCell_c hS2.rd HBH.out).mono ?_; rintro e w3 ⟨rfl, hb3⟩
      have hH3 := hH2.below hb3
      have hBase3 := hBase2.trans (hb3.mono hBase2.size)
      clear hH2 hBase2 hb3 hS2
      go_wp2_with fail
      refine (toStationS_c hH3).mono ?_; rintro e w4 ⟨aX, nX, cX, rfl, hX4, hb4⟩
      have hcX := hX4.cap
      have hH4 := hH3.below hb4
      have hBase4 := hBase3.trans (hb4.mono hBase3.size)
      clear hH3 hBase3 hb4
      go_wp2_with fail
      refine (FormatCell_c hX4.rd hcX (HTB.out.below hBase4)).mono ?_; rintro e w5 ⟨rfl, hb5⟩
      have hX5 := hX4.below hb5
      have hH5 := hH4.below hb5
      have hBase5 := hBase4.trans (hb5.mono hBase4.size)
      clear hH4 hX4 hBase4 hb5
      have hne : ((fmtT l).toList != (fmtT l).toList) = false := by simp
      go_wp2_with fail
      clear hne
      refine (toStationS_c hH5).mono ?_; rintro e w6 ⟨aC, nC, cC, rfl, hC6, hb6⟩
      have hX6 := hX5.below hb6
      have hBase6 := hBase5.trans (hb6.mono hBase5.size)
      clear hH5 hX5 hBase5 hb6
      go_wp2_with fail
      refine (eqStationS_same hX6.rd hC6.rd).mono ?_; rintro e w7 ⟨rfl, hb7⟩
      have hBase7 := hBase6.trans (hb7.mono hBase6.size)
      clear hX6 hC6 hBase6 hb7
      go_wp2_with fail
      go_ret
      exact ⟨rfl, hBase7⟩
    · have hr := Lib.hid (szR_no (l := z0.take len0) (left := 1048576) (by omega))
      generalize z0.take len0 = l at *
      clear hsz
      go_enter Tryd.func3, Tryd.ntmps3
      go_wp2_with fail
      refine (szStationS_c hH0 hSm 1048576 (by omega) (by omega)).mono ?_; rintro e w1 ⟨rfl, hb1⟩
      rw [hr.out]
      clear hH0
      go_wp2_with fail
      go_ret
      exact ⟨rfl, hb1⟩
  · clear w0
    go_enter Tryd.func3, Tryd.ntmps3
    go_wp2_with fail
    refine (szStationS_long 1048576 (by omega) (by omega) hcm).mono ?_; rintro e w1 ⟨rfl, rfl⟩
    go_wp2_with fail
    go_ret
    exact ⟨rfl, Below.refl _ _⟩

def laidL : List (String × DataW Unit) := [("math/bits.deBruijn32tab", Rows.laid_math_bits_deBruijn32tab), ("math/bits.deBruijn64tab", Rows.laid_math_bits_deBruijn64tab), ("internal/strconv.uint64pow10", Rows.laid_internal_strconv_uint64pow10)]
theorem returns_door {H : Type} {enc : TypeId × Value → H} {a : Assume} {C : Checked} {os : Os} {f : FuncId} {fn : Func} {s : ChangeSpec} {conds : List PathCond} {apart fresh handsOn again : Bool} {X : World → Array Value → Prop}
    (hX : ∀ (w w' : World) (args : Array Value), w.heap = w'.heap → X w args → X w' args)
    (own : ownKnob C.prog.godebug = none) (started : os.Started) (noInit : C.prog.inits.idxOf? f = none) (hfn : C.prog.funcs[f]? = some fn)
    (witness : ∃ (w : World) (tape : Tape) (i : Input), w.os = os ∧ (w.forCall tape i).Shaped C.prog ∧ i.vars = [] ∧ Input.okWide C.prog (w.forCall tape i) .any w.heap.size f i ∧
      ((s.pre enc C.prog fn conds apart (w.forCall tape i).memory i.args ∧ X (w.forCall tape i).memory i.args) ∧ sizedMet enc C.prog fn (OpenSpec.ofChange s) apart (w.forCall tape i).memory i.args) ∧ a.holds C.prog (lone (Frame.enter C.prog f i.args .normal) [] (w.forCall tape i)))
    (contract : ∀ (W : World) (base : Nat) (args : Array Value) (ds gs : List (DataW H)) (before : List MemPlace),
      (∀ (j : Nat) t v, fn.params[j]? = some t → args[j]? = some v → Value.okWide C.prog W .any base t v) →
      DataW.Whole enc C.prog fn.params.toList s.vars apart W args.toList ds gs before →
      conds.all (PathCond.test C.prog ⟨fn.params.toList, ds, s.plain.varTypes C.prog, gs⟩) = true →
      X W args → W.ShapedOpen C.prog →
      Calls C.prog f args W fun e W' => ∃ v, e = .returned v ∧ s.post enc C.prog fn apart fresh handsOn again W args v W') :
    ReturnsInHanded a C os f .any (fun w args => (s.pre enc C.prog fn conds apart w args ∧ X w args) ∧ sizedMet enc C.prog fn (OpenSpec.ofChange s) apart w args) (s.post enc C.prog fn apart fresh handsOn again) := by
  refine returnsInHanded_of_calls own started noInit witness ?_
  intro w tape i _ hsh _ hok hpre hholds
  obtain ⟨_, _, _, fn', hfn', _, _, _, _, hval⟩ := hok
  have e : fn' = fn := Option.some.inj (hfn'.symm.trans hfn)
  subst e
  obtain ⟨⟨⟨ds, gs, before, hw, hc⟩, hx⟩, hz⟩ := hpre
  have hw' := DataW.Whole.of_heap (w' := w.forCall tape i) (by rfl) hw
  refine (contract (w.forCall tape i) w.heap.size i.args ds gs before hval hw' hc (hX _ _ _ (by rfl) hx) hsh).mono fun e W' ⟨v, he, hp⟩ => ?_
  subst he
  exact ChangeSpec.post_blind hp

theorem tab_of_laid {W : World} (h : laidMetH Tryd.prog laidL W) : Lib.TabIs Tryd.prog W "internal/strconv.uint64pow10" .u64 Lib.pow10Tab := by
  have h1 := h.filter (fun x => x.1 == "internal/strconv.uint64pow10")
  rw [show laidL.filter (fun x => x.1 == "internal/strconv.uint64pow10") = [("internal/strconv.uint64pow10", Lib.tabData .u64 Lib.pow10Tab)] by kernel_rfl, MakeChecks.laidMetH_plain _ _ _ (by kernel_rfl)] at h1
  exact Lib.tabIs_of_head (g := 0) (t := 103) (e := 88) (n := 20) (by kernel_rfl) (by kernel_rfl) Tryd.underlying103 Tryd.underlying88 (by kernel_rfl) (by kernel_rfl) h1

set_option maxRecDepth 100000 in
theorem lifted (os : Os) (started : os.Started) (H : Type) (enc : TypeId × Value → H) :
    ReturnsInHanded {} Tryd.checked os 3 .any (fun w args => (Rows.fnExactFormatCellSpec.pre enc Tryd.prog Tryd.f3 [] false w args ∧ laidMetH Tryd.prog laidL w) ∧ sizedMet enc Tryd.prog Tryd.f3 (OpenSpec.ofChange Rows.fnExactFormatCellSpec) false w args)
      (Rows.fnExactFormatCellSpec.post enc Tryd.prog Tryd.f3 false true false false) := by
  refine returns_door (C := Tryd.checked) (X := fun w _ => laidMetH Tryd.prog laidL w) (fun _ _ _ hh h => h.of_heap hh) own started (by kernel_rfl) Tryd.func3
    (ChangeSpec.witness_shaped (enc := enc) (C := Tryd.checked) (os := os) (X := fun w _ => laidMetH Tryd.prog laidL w) false (World.laidAll Tryd.prog os laidL) #[.slice none 0 0] 8 (World.laidAll_os _ _ _)
      (World.shaped_of_ZipB (by kernel_rfl) (by kernel_rfl)) (by kernel_rfl) (by kernel_rfl) (by kernel_rfl)
      (by rw [MakeChecks.laidMetH_plain _ _ _ (by kernel_rfl)]; exact laidMet_laidAll _ (by kernel_rfl) (by kernel_rfl))) ?_
  intro W base args ds gs before hval0 hW hcnd hLd hSh
  have hval : ∀ (j : Nat) t v, Tryd.f3.params[j]? = some t → args[j]? = some v → Value.okWide Tryd.prog W .any base t v := hval0
  have hW' := hW
  obtain ⟨p, q, hA0, hV, rfl, hfz, hnd⟩ := hW
  have hA : DataW.TrodAll enc Tryd.prog W 0 (fun _ => true) true Tryd.f3.params.toList args.toList ds p := hA0
  rw [Tryd.params3] at hA hval
  obtain ⟨v0, vs0, d0, ds0, p0, q0, hargs, rfl, rfl, h0, r0⟩ := trodAll_cons hA
  obtain ⟨rfl, rfl, rfl⟩ := trodAll_nil r0
  obtain rfl : args = #[v0] := by cases args; simp_all
  obtain ⟨rfl, rfl⟩ := trodVars_none hV
  have k0 := h0
  have lt0 : ∀ x ∈ p0, x.block < W.heap.size := by obtain ⟨m, hm⟩ := k0; exact DataW.trod_lt m _ _ _ hm
  obtain ⟨a0, len0, cap0, rfl⟩ := okWide_slice Tryd.underlying22 (hval 0 22 v0 rfl rfl)
  obtain ⟨z0, w0⟩ : ∃ zs, IsStns W a0 len0 cap0 zs := by
    obtain ⟨fuel, hf⟩ := h0
    exact open_stns Tryd.underlying22 Tryd.underlying40 (by kernel_rfl) (by kernel_rfl) Tryd.underlying9 Tryd.underlying9 Tryd.underlying3 Tryd.underlying3 hf
  have hmax : ∃ m, W.cell? ⟨1, 0, none⟩ = some (.int .i64 m) := cell_of_shapedOpen_int (zero := #[.int .i64 0]) (t := 3) hSh (of_decide_eq_true (by kernel_rfl)) (by kernel_rfl) rfl (by kernel_rfl) (by kernel_rfl) Tryd.underlying3
  have htab := tab_of_laid hLd
  clear hA0 hval0
  refine (walk a0 len0 cap0 z0 W hmax htab w0).mono fun e W' ⟨he, bel⟩ => ?_
  subst he
  exact ⟨_, rfl, _, _, _, [], _, [], hW', trodAll_mk1 (shut_bool Tryd.underlying4 _), (trodAll_cons_mk (Below.trod laidOut (by kernel_rfl) (of_decide_eq_true (by kernel_rfl)) k0 bel lt0) trodAll_mk0), rfl, bel.frame _, fun h => by cases h⟩

theorem over : Rows.fnExactFormatCellRow.holds Tryd.pinned (OpenSpec.ofChange Rows.fnExactFormatCellSpec) :=
  OpenClaim.holds_of_wide 3 Tryd.f3 rfl rfl rfl rfl rfl rfl rfl ⟨rfl, rfl, rfl, rfl, rfl⟩ rfl rfl rfl rfl rfl (by kernel_rfl) Tryd.func3 (by kernel_rfl)
    (of_decide_eq_true (by kernel_rfl)) (by unfold Func.isWrapper; first | (rw [if_pos (by decide +kernel)]; kernel_rfl) | (rw [if_neg (by decide +kernel)]; exact ⟨rfl, rfl⟩))
    (fun os started H enc _ => lifted os started H enc)

theorem card_holds : Rows.FnExactFormatCellCardSaid :=
  Claim7.holds_tied_plain_at .later [] [.data, .data, .data] true (true, "1dc42ca199bc7d3f9aef1c99d4026fd3d7b29d264c37f4c050091fa56b6a34f2") false
    over (fun _ h => by cases h) (by kernel_rfl) (fun _ h => by cases h) fnExactFormatCell_row_tie rfl ⟨rfl, rfl⟩ (by kernel_rfl) rfl
    (fun f fn hf hfn => by
      obtain rfl : f = 3 := Option.some.inj ((show Tryd.prog.funcNamed "loop.example/spreadspectrum/laws.FnExactFormatCell" = some 3 by kernel_rfl).symm.trans hf) |>.symm
      obtain rfl : fn = Tryd.f3 := (Option.some.inj (Tryd.func3.symm.trans hfn)).symm
      exact ⟨by kernel_rfl, fun j t ht => by
        rw [Tryd.params3] at ht
        have hm : t ∈ ([22] : List TypeId) := by simpa using Array.mem_of_getElem? ht
        have hall : (([22] : List TypeId).all fun u => !Tryd.prog.wantsStandIn u) = true := by kernel_rfl
        exact (show Tryd.prog.wantsStandIn t = false by simpa using List.all_eq_true.1 hall t hm)⟩)
    (by kernel_rfl)
#print axioms card_holds
end Go.Proofs.YtighlblbjbkjiaaDoor.fnExactFormatCell
