/- The law FnExactCopiesNeeded holds for every input that the given row lets in: the program's answer is the reference's. No condition of its own. -/
import Derived.Test.YtgoimpphimclcaaDoorRows
import Derived.WalkKit
import Derived.ProofKit
import Derived.OpenShut
import Derived.ShutString
import Derived.ChangeOld
import Derived.Below
import Derived.Lib.SmallJoins
import Derived.LaidMore
import Derived.Lay
import Derived.Stop.Joined
import Derived.SevenTiedAt
import Derived.Shelf.Vars
import Derived.Test.YtgoimpphimclcaaDoorCards
import Derived.Test.YtgoimpphimclcaaDoorTie
import Derived.Test.YtgoimpphimclcaaDoorEf
namespace Go.Proofs.YtgoimpphimclcaaDoor.fnExactCopiesNeeded
open Go.ChangeShapes Go.WideShapes Go.ChangeAt Go.RowKit
open Go.ChangeMaps (open_string shut_string)
set_option linter.unusedVariables false

theorem own : ownKnob Tryd.prog.godebug = none := by kernel_rfl
theorem laidOut : laidOutB Tryd.prog = true := by kernel_rfl

/-- A slice of integers that came in: nil, or a row of 'cap' cells that hold the numbers zs. -/
def IsRow (k : IntKind) (w : World) (a : Option Addr) (len cap : Nat) (zs : List Int) : Prop :=
  (a = none ∧ len = 0 ∧ cap = 0 ∧ zs = []) ∨
  ∃ x, a = some x ∧ len ≤ cap ∧ cap ≤ maxLen ∧ zs.length = cap ∧ (∀ i, i < zs.length → w.cell? (x.add i) = some (.int k (zs.getD i 0))) ∧ ∀ n ∈ zs, (Lit.int k n).wf = true

set_option maxHeartbeats 4000000 in
theorem walk (a0 : ByteArray) (a1 : Option Addr) (len1 cap1 : Nat) (z1 : List Int) (a2 : Option Addr) (len2 cap2 : Nat) (z2 : List Int) (a3 : Int) (w : World) (hmax : ∃ m, w.cell? ⟨0, 0, none⟩ = some (.int .i64 m)) (w0 : a0.size ≤ maxLen) (w1 : IsRow .i64 w a1 len1 cap1 z1) (w2 : IsRow .i64 w a2 len2 cap2 z2) (w3 : (Lit.int .i64 a3).wf = true) :
    Calls Tryd.prog 5 #[.string a0, .slice a1 len1 cap1, .slice a2 len2 cap2, .int .i64 a3] w fun e w' => e = .returned (.bool true) ∧ Below w.heap.size w w' := by
  have hm : MaxOk w := hmax
  clear hmax
  by_cases hnD : a0.size ≤ 1048576
  · by_cases hnH : len1 ≤ 1048576
    · by_cases hnJ : len2 ≤ 1048576
      · have hH0 := rd_of_row w1 (by omega)
        have hJ0 := rd_of_row w2 (by omega)
        clear w1
        clear w2
        go_enter Tryd.func5, Tryd.ntmps5
        go_wp2_with fail
        refine (toIntS_c hH0).mono ?_; rintro e w1 ⟨aSH, nSH, cSH, rfl, hSH1, hb1⟩
        have lt_H_SH := hH0.lt
        have lt_J_SH := hJ0.lt
        have hz1 := hb1.size
        have hH1 := hH0.below hb1
        clear hH0
        have hJ1 := hJ0.below hb1
        clear hJ0
        have hBase1 : Below w.heap.size w w1 := (hb1.mono (by omega))
        clear hb1
        have s_SH := hSH1.2.1
        go_wp2_with fail
        refine (toIntS_c hJ1).mono ?_; rintro e w2 ⟨aSJ, nSJ, cSJ, rfl, hSJ2, hb2⟩
        have lt_H_SJ := hH1.lt
        have lt_J_SJ := hJ1.lt
        have lt_SH_SJ := hSH1.below'
        have hz2 := hb2.size
        have hH2 := hH1.below hb2
        clear hH1
        have hJ2 := hJ1.below hb2
        clear hJ1
        have hSH2 := hSH1.below hb2
        clear hSH1
        have hBase2 := hBase1.trans (hb2.mono (by omega))
        clear hBase1
        clear hb2
        have s_SJ := hSJ2.2.1
        go_wp2_with fail
        refine (sCopiesNeeded_c _ _ hSH2.rd hSJ2.rd (by omega)).mono ?_; rintro e w3 ⟨rfl, hb3⟩
        have hz3 := hb3.size
        have hH3 := hH2.below hb3
        clear hH2
        have hJ3 := hJ2.below hb3
        clear hJ2
        have hSH3 := hSH2.below hb3
        clear hSH2
        have hSJ3 := hSJ2.below hb3
        clear hSJ2
        have hBase3 := hBase2.trans (hb3.mono (by omega))
        clear hBase2
        clear hb3
        clear hSH3
        clear hSJ3
        go_wp2_with fail
        refine (toIntS_c hH3).mono ?_; rintro e w4 ⟨aXH, nXH, cXH, rfl, hXH4, hb4⟩
        have lt_H_XH := hH3.lt
        have lt_J_XH := hJ3.lt
        have hz4 := hb4.size
        have hH4 := hH3.below hb4
        clear hH3
        have hJ4 := hJ3.below hb4
        clear hJ3
        have hBase4 := hBase3.trans (hb4.mono (by omega))
        clear hBase3
        clear hb4
        have s_XH := hXH4.2.1
        go_wp2_with fail
        refine (toIntS_c hJ4).mono ?_; rintro e w5 ⟨aXJ, nXJ, cXJ, rfl, hXJ5, hb5⟩
        have lt_H_XJ := hH4.lt
        have lt_J_XJ := hJ4.lt
        have lt_XH_XJ := hXH4.below'
        have hz5 := hb5.size
        have hH5 := hH4.below hb5
        clear hH4
        have hJ5 := hJ4.below hb5
        clear hJ4
        have hXH5 := hXH4.below hb5
        clear hXH4
        have hBase5 := hBase4.trans (hb5.mono (by omega))
        clear hBase4
        clear hb5
        have s_XJ := hXJ5.2.1
        go_wp2_with fail
        refine (CopiesNeeded_c _ _ hXH5.rd hXJ5.rd (hm.below hBase5)).mono ?_; rintro e w6 ⟨rfl, hb6⟩
        have hz6 := hb6.size
        have hH6 := hH5.below hb6
        clear hH5
        have hJ6 := hJ5.below hb6
        clear hJ5
        have hXH6 := hXH5.below hb6
        clear hXH5
        have hXJ6 := hXJ5.below hb6
        clear hXJ5
        have hBase6 := hBase5.trans (hb6.mono (by omega))
        clear hBase5
        clear hb6
        go_wp2_with fail
        refine (toIntS_c hH6).mono ?_; rintro e w7 ⟨aCH, nCH, cCH, rfl, hCH7, hb7⟩
        have lt_H_CH := hH6.lt
        have lt_J_CH := hJ6.lt
        have lt_XH_CH := hXH6.below'
        have lt_XJ_CH := hXJ6.below'
        have hz7 := hb7.size
        have hH7 := hH6.below hb7
        clear hH6
        have hJ7 := hJ6.below hb7
        clear hJ6
        have hXH7 := hXH6.below hb7
        clear hXH6
        have hXJ7 := hXJ6.below hb7
        clear hXJ6
        have hBase7 := hBase6.trans (hb7.mono (by omega))
        clear hBase6
        clear hb7
        have s_CH := hCH7.2.1
        go_wp2_with fail
        refine (eqIntS_same hXH7.rd hCH7.rd).mono ?_; rintro e w8 ⟨rfl, hq8⟩
        have hb8 := hq8.below w7.heap.size
        have hz8 := hb8.size
        have hH8 := hH7.below hb8
        clear hH7
        have hJ8 := hJ7.below hb8
        clear hJ7
        have hXH8 := hXH7.below hb8
        clear hXH7
        have hXJ8 := hXJ7.below hb8
        clear hXJ7
        have hCH8 := hCH7.below hb8
        clear hCH7
        have hBase8 := hBase7.trans (hb8.mono (by omega))
        clear hBase7
        clear hb8
        clear hCH8
        go_wp2_with fail
        refine (toIntS_c hJ8).mono ?_; rintro e w9 ⟨aCJ, nCJ, cCJ, rfl, hCJ9, hb9⟩
        have lt_H_CJ := hH8.lt
        have lt_J_CJ := hJ8.lt
        have lt_XH_CJ := hXH8.below'
        have lt_XJ_CJ := hXJ8.below'
        have hz9 := hb9.size
        have hH9 := hH8.below hb9
        clear hH8
        have hJ9 := hJ8.below hb9
        clear hJ8
        have hXH9 := hXH8.below hb9
        clear hXH8
        have hXJ9 := hXJ8.below hb9
        clear hXJ8
        have hBase9 := hBase8.trans (hb9.mono (by omega))
        clear hBase8
        clear hb9
        have s_CJ := hCJ9.2.1
        go_wp2_with fail
        refine (eqIntS_same hXJ9.rd hCJ9.rd).mono ?_; rintro e w10 ⟨rfl, hq10⟩
        have hb10 := hq10.below w9.heap.size
        have hz10 := hb10.size
        have hH10 := hH9.below hb10
        clear hH9
        have hJ10 := hJ9.below hb10
        clear hJ9
        have hXH10 := hXH9.below hb10
        clear hXH9
        have hXJ10 := hXJ9.below hb10
        clear hXJ9
        have hCJ10 := hCJ9.below hb10
        clear hCJ9
        have hBase10 := hBase9.trans (hb10.mono (by omega))
        clear hBase9
        clear hb10
        clear hCJ10
        go_wp2_with fail
        go_ret
        exact ⟨rfl, hBase10⟩
      · have hn' : (1048576 : Int) < (len2 : Int) := by omega
        go_enter Tryd.func5, Tryd.ntmps5
        go_wp2
        go_ret
        exact ⟨rfl, Below.refl _ _⟩
    · have hn' : (1048576 : Int) < (len1 : Int) := by omega
      go_enter Tryd.func5, Tryd.ntmps5
      go_wp2
      go_ret
      exact ⟨rfl, Below.refl _ _⟩
  · have hn' : (1048576 : Int) < (a0.size : Int) := by omega
    go_enter Tryd.func5, Tryd.ntmps5
    go_wp2
    go_ret
    exact ⟨rfl, Below.refl _ _⟩

def laidL : List (String × DataW Unit) := [("unicode/utf8.acceptRanges", Rows.laid_unicode_utf8_acceptRanges), ("unicode/utf8.first", Rows.laid_unicode_utf8_first)]
theorem returns_door {H : Type} {enc : TypeId × Value → H} {a : Assume} {C : Checked} {os : Os} {f : FuncId} {fn : Func} {s : ChangeSpec} {conds : List PathCond} {apart fresh handsOn again : Bool} {X : World → Array Value → Prop}
    (hX : ∀ (w w' : World) (args : Array Value), w.heap = w'.heap → X w args → X w' args)
    (own : ownKnob C.prog.godebug = none) (started : os.Started) (noInit : C.prog.inits.idxOf? f = none) (hfn : C.prog.funcs[f]? = some fn)
    (witness : ∃ (w : World) (tape : Tape) (i : Input), w.os = os ∧ (w.forCall tape i).Shaped C.prog ∧ i.vars = [] ∧ Input.okWide C.prog (w.forCall tape i) .any w.heap.size f i ∧
      ((s.pre enc C.prog fn conds apart (w.forCall tape i).memory i.args ∧ X (w.forCall tape i).memory i.args) ∧ sizedMet enc C.prog fn (OpenSpec.ofChange s) apart (w.forCall tape i).memory i.args) ∧ a.holds C.prog (lone (Frame.enter C.prog f i.args .normal) [] (w.forCall tape i)))
    (contract : ∀ (W : World) (base : Nat) (args : Array Value) (ds gs : List (DataW H)) (before : List MemPlace),
      (∀ (j : Nat) t v, fn.params[j]? = some t → args[j]? = some v → Value.okWide C.prog W .any base t v) →
      DataW.Whole enc C.prog fn.params.toList s.vars apart W args.toList ds gs before →
      conds.all (PathCond.test C.prog ⟨fn.params.toList, ds, s.plain.varTypes C.prog, gs⟩) = true →
      X W args → W.ShapedOpen C.prog →
      Calls C.prog f args W fun e W' => ∃ v, e = .returned v ∧ s.post enc C.prog fn apart fresh handsOn again W args v W') :
    ReturnsInHanded a C os f .any (fun w args => (s.pre enc C.prog fn conds apart w args ∧ X w args) ∧ sizedMet enc C.prog fn (OpenSpec.ofChange s) apart w args) (s.post enc C.prog fn apart fresh handsOn again) := by
  refine returnsInHanded_of_calls own started noInit witness ?_
  intro w tape i _ hsh _ hok hpre hholds
  obtain ⟨_, _, _, fn', hfn', _, _, _, _, hval⟩ := hok
  have e : fn' = fn := Option.some.inj (hfn'.symm.trans hfn)
  subst e
  obtain ⟨⟨⟨ds, gs, before, hw, hc⟩, hx⟩, hz⟩ := hpre
  have hw' := DataW.Whole.of_heap (w' := w.forCall tape i) (by rfl) hw
  refine (contract (w.forCall tape i) w.heap.size i.args ds gs before hval hw' hc (hX _ _ _ (by rfl) hx) hsh).mono fun e W' ⟨v, he, hp⟩ => ?_
  subst he
  exact ChangeSpec.post_blind hp

set_option maxRecDepth 100000 in
theorem lifted (os : Os) (started : os.Started) (H : Type) (enc : TypeId × Value → H) :
    ReturnsInHanded {} Tryd.checked os 5 .any (fun w args => (Rows.fnExactCopiesNeededSpec.pre enc Tryd.prog Tryd.f5 [] false w args ∧ laidMetH Tryd.prog laidL w) ∧ sizedMet enc Tryd.prog Tryd.f5 (OpenSpec.ofChange Rows.fnExactCopiesNeededSpec) false w args)
      (Rows.fnExactCopiesNeededSpec.post enc Tryd.prog Tryd.f5 false true false false) := by
  refine returns_door (C := Tryd.checked) (X := fun w _ => laidMetH Tryd.prog laidL w) (fun _ _ _ hh h => h.of_heap hh) own started (by kernel_rfl) Tryd.func5
    (ChangeSpec.witness_shaped (enc := enc) (C := Tryd.checked) (os := os) (X := fun w _ => laidMetH Tryd.prog laidL w) false (World.laidAll Tryd.prog os laidL) #[.string ByteArray.empty, .slice none 0 0, .slice none 0 0, .int .i64 0] 8 (World.laidAll_os _ _ _)
      (World.shaped_of_ZipB (by kernel_rfl) (by kernel_rfl)) (by kernel_rfl) (by kernel_rfl) (by kernel_rfl)
      (by rw [MakeChecks.laidMetH_plain _ _ _ (by kernel_rfl)]; exact laidMet_laidAll _ (by kernel_rfl) (by kernel_rfl))) ?_
  intro W base args ds gs before hval0 hW hcnd _ hSh
  have hval : ∀ (j : Nat) t v, Tryd.f5.params[j]? = some t → args[j]? = some v → Value.okWide Tryd.prog W .any base t v := hval0
  have hW' := hW
  obtain ⟨p, q, hA0, hV, rfl, hfz, hnd⟩ := hW
  have hA : DataW.TrodAll enc Tryd.prog W 0 (fun _ => true) true Tryd.f5.params.toList args.toList ds p := hA0
  rw [Tryd.params5] at hA hval
  obtain ⟨v0, vs0, d0, ds0, p0, q0, hargs, rfl, rfl, h0, r0⟩ := trodAll_cons hA
  obtain ⟨v1, vs1, d1, ds1, p1, q1, rfl, rfl, rfl, h1, r1⟩ := trodAll_cons r0
  obtain ⟨v2, vs2, d2, ds2, p2, q2, rfl, rfl, rfl, h2, r2⟩ := trodAll_cons r1
  obtain ⟨v3, vs3, d3, ds3, p3, q3, rfl, rfl, rfl, h3, r3⟩ := trodAll_cons r2
  obtain ⟨rfl, rfl, rfl⟩ := trodAll_nil r3
  obtain rfl : args = #[v0, v1, v2, v3] := by cases args; simp_all
  obtain ⟨rfl, rfl⟩ := trodVars_none hV
  have k0 := h0
  have lt0 : ∀ x ∈ p0, x.block < W.heap.size := by obtain ⟨m, hm⟩ := k0; exact DataW.trod_lt m _ _ _ hm
  have k1 := h1
  have lt1 : ∀ x ∈ p1, x.block < W.heap.size := by obtain ⟨m, hm⟩ := k1; exact DataW.trod_lt m _ _ _ hm
  have k2 := h2
  have lt2 : ∀ x ∈ p2, x.block < W.heap.size := by obtain ⟨m, hm⟩ := k2; exact DataW.trod_lt m _ _ _ hm
  have k3 := h3
  have lt3 : ∀ x ∈ p3, x.block < W.heap.size := by obtain ⟨m, hm⟩ := k3; exact DataW.trod_lt m _ _ _ hm
  obtain ⟨a0, rfl, rfl, rfl, w0⟩ := open_string Tryd.underlying9 (hval 0 9 v0 rfl rfl) h0
  obtain ⟨a1, len1, cap1, rfl⟩ := okWide_slice Tryd.underlying31 (hval 1 31 v1 rfl rfl)
  obtain ⟨z1, w1⟩ : ∃ zs, IsRow .i64 W a1 len1 cap1 zs := by
    obtain ⟨fuel, hf⟩ := h1
    rcases open_ints Tryd.underlying31 Tryd.underlying3 (by kernel_rfl) hf with ⟨hcs, _⟩ | ⟨x, l, c, zs, hcs, _, hl, hm, hz, _, hcell, hwz⟩
    · simp [Value.cells] at hcs
      obtain ⟨rfl, rfl, rfl⟩ := hcs
      exact ⟨[], .inl ⟨rfl, rfl, rfl, rfl⟩⟩
    · simp [Value.cells] at hcs
      obtain ⟨rfl, rfl, rfl⟩ := hcs
      exact ⟨zs, .inr ⟨_, rfl, hl, hm, by simpa using hz, hcell, hwz⟩⟩
  obtain ⟨a2, len2, cap2, rfl⟩ := okWide_slice Tryd.underlying31 (hval 2 31 v2 rfl rfl)
  obtain ⟨z2, w2⟩ : ∃ zs, IsRow .i64 W a2 len2 cap2 zs := by
    obtain ⟨fuel, hf⟩ := h2
    rcases open_ints Tryd.underlying31 Tryd.underlying3 (by kernel_rfl) hf with ⟨hcs, _⟩ | ⟨x, l, c, zs, hcs, _, hl, hm, hz, _, hcell, hwz⟩
    · simp [Value.cells] at hcs
      obtain ⟨rfl, rfl, rfl⟩ := hcs
      exact ⟨[], .inl ⟨rfl, rfl, rfl, rfl⟩⟩
    · simp [Value.cells] at hcs
      obtain ⟨rfl, rfl, rfl⟩ := hcs
      exact ⟨zs, .inr ⟨_, rfl, hl, hm, by simpa using hz, hcell, hwz⟩⟩
  obtain ⟨a3, rfl, rfl, rfl, w3⟩ := open_int Tryd.underlying3 (hval 3 3 v3 rfl rfl) h3
  have hmax : ∃ m, W.cell? ⟨0, 0, none⟩ = some (.int .i64 m) := cell_of_shapedOpen_int (zero := #[.int .i64 0]) (t := 3) hSh (of_decide_eq_true (by kernel_rfl)) (by kernel_rfl) rfl (by kernel_rfl) (by kernel_rfl) Tryd.underlying3
  clear hA0 hval0
  refine (walk a0 a1 len1 cap1 z1 a2 len2 cap2 z2 a3 W hmax w0 w1 w2 w3).mono fun e W' ⟨he, bel⟩ => ?_
  subst he
  exact ⟨_, rfl, _, _, _, [], _, [], hW', trodAll_mk1 (shut_bool Tryd.underlying4 _), (trodAll_cons_mk (Below.trod laidOut (by kernel_rfl) (of_decide_eq_true (by kernel_rfl)) k0 bel lt0) (trodAll_cons_mk (Below.trod laidOut (by kernel_rfl) (of_decide_eq_true (by kernel_rfl)) k1 bel lt1) (trodAll_cons_mk (Below.trod laidOut (by kernel_rfl) (of_decide_eq_true (by kernel_rfl)) k2 bel lt2) (trodAll_cons_mk (Below.trod laidOut (by kernel_rfl) (of_decide_eq_true (by kernel_rfl)) k3 bel lt3) trodAll_mk0)))), rfl, bel.frame _, fun h => by cases h⟩

theorem over : Rows.fnExactCopiesNeededRow.holds Tryd.pinned (OpenSpec.ofChange Rows.fnExactCopiesNeededSpec) :=
  OpenClaim.holds_of_wide 5 Tryd.f5 rfl rfl rfl rfl rfl rfl rfl ⟨rfl, rfl, rfl, rfl, rfl⟩ rfl rfl rfl rfl rfl (by kernel_rfl) Tryd.func5 (by kernel_rfl)
    (of_decide_eq_true (by kernel_rfl)) (by unfold Func.isWrapper; first | (rw [if_pos (by decide +kernel)]; kernel_rfl) | (rw [if_neg (by decide +kernel)]; exact ⟨rfl, rfl⟩))
    (fun os started H enc _ => lifted os started H enc)

theorem card_holds : Rows.FnExactCopiesNeededCardSaid :=
  Claim7.holds_tied_plain_at .later [] [.data, .pinned] true (true, "a0f043568dfd1c0ed91f1be1126a178ae9c1aefab42058263372e6b54435501c") false
    over (fun _ h => by cases h) (by kernel_rfl) (fun _ h => by cases h) fnExactCopiesNeeded_row_tie rfl ⟨rfl, rfl⟩ (by kernel_rfl) rfl
    (fun f fn hf hfn => by
      obtain rfl : f = 5 := Option.some.inj ((show Tryd.prog.funcNamed "loop.example/spreadspectrum/laws.FnExactCopiesNeeded" = some 5 by kernel_rfl).symm.trans hf) |>.symm
      obtain rfl : fn = Tryd.f5 := (Option.some.inj (Tryd.func5.symm.trans hfn)).symm
      exact ⟨by kernel_rfl, fun j t ht => by
        rw [Tryd.params5] at ht
        have hm : t ∈ ([9, 31, 31, 3] : List TypeId) := by simpa using Array.mem_of_getElem? ht
        have hall : (([9, 31, 31, 3] : List TypeId).all fun u => !Tryd.prog.wantsStandIn u) = true := by kernel_rfl
        exact (show Tryd.prog.wantsStandIn t = false by simpa using List.all_eq_true.1 hall t hm)⟩)
    (by kernel_rfl)
#print axioms card_holds
end Go.Proofs.YtgoimpphimclcaaDoor.fnExactCopiesNeeded
