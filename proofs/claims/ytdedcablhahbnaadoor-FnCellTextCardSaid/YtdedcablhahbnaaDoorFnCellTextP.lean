/- The law FnCellText holds for every input that the given row lets in: the program's answer is the reference's. No condition of its own. -/
import Derived.Test.YtdedcablhahbnaaDoorRows
import Derived.WalkKit
import Derived.ProofKit
import Derived.OpenShut
import Derived.ShutString
import Derived.ChangeOld
import Derived.Below
import Derived.Lib.SmallJoins
import Derived.LaidMore
import Derived.Lay
import Derived.Stop.Joined
import Derived.SevenTiedAt
import Derived.Shelf.Vars
import Derived.Test.YtdedcablhahbnaaDoorCards
import Derived.Test.YtdedcablhahbnaaDoorTie
import Derived.Test.YtdedcablhahbnaaDoorTn
import Derived.Test.YtdedcablhahbnaaDoorLs
import Derived.Test.YtdedcablhahbnaaDoorLw
import Derived.Test.YtdedcablhahbnaaDoorTl
import Derived.Test.YtdedcablhahbnaaDoorTm
namespace Go.Proofs.YtdedcablhahbnaaDoor.fnCellText
open Go.ChangeShapes Go.WideShapes Go.ChangeAt Go.RowKit
open Go.ChangeMaps (open_string shut_string)
set_option linter.unusedVariables false

theorem own : ownKnob Tryd.prog.godebug = none := by kernel_rfl
theorem laidOut : laidOutB Tryd.prog = true := by kernel_rfl

/-- A slice of integers that came in: nil, or a row of 'cap' cells that hold the numbers zs. -/
def IsRow (k : IntKind) (w : World) (a : Option Addr) (len cap : Nat) (zs : List Int) : Prop :=
  (a = none ∧ len = 0 ∧ cap = 0 ∧ zs = []) ∨
  ∃ x, a = some x ∧ len ≤ cap ∧ cap ≤ maxLen ∧ zs.length = cap ∧ (∀ i, i < zs.length → w.cell? (x.add i) = some (.int k (zs.getD i 0))) ∧ ∀ n ∈ zs, (Lit.int k n).wf = true

theorem ne_emp {t : ByteArray} (h : 1 ≤ t.size) : (t.toList != ([] : List UInt8)) = true := by
  rw [bne, tl_ne (bts_size (by omega))]; rfl
set_option maxRecDepth 100000
set_option maxHeartbeats 4000000 in
theorem walk (a0 : Option Addr) (len0 cap0 : Nat) (z0 : List Int) (a1 : Option Addr) (len1 cap1 : Nat) (z1 : List Int) (w : World) (hmax : ∃ m, w.cell? ⟨1, 0, none⟩ = some (.int .i64 m)) (htab : Lib.TabIs Tryd.prog w "internal/strconv.uint64pow10" .u64 Lib.pow10Tab) (w0 : IsRow .u8 w a0 len0 cap0 z0) (w1 : IsRow .u8 w a1 len1 cap1 z1) :
    Calls Tryd.prog 3 #[.slice a0 len0 cap0, .slice a1 len1 cap1] w fun e w' => e = .returned (.bool true) ∧ Below w.heap.size w w' := by
  have HTB := Lib.hid (show TabW w from htab)
  have hmw : MaxW w := hmax
  clear htab hmax
  by_cases hn : len0 ≤ 1048576
  · by_cases hnM : len1 ≤ 1048576
    · have hC := codeW_of_row w0 (by omega)
      have hD := codeW_of_row w1 (by omega)
      clear w0 w1
      go_enter Tryd.func3, Tryd.ntmps3
      go_wp2_with fail
      refine (DrawFormatCell_c hC).mono ?_; rintro e w1 ⟨ao, n, c, l, rfl, hL1, hb1⟩
      have hm1 := hmw.below hb1
      have hD1 := hD.below hb1
      clear hC hD hmw
      have hT1 := fmt_489 l
      go_wp2_with fail
      refine (FormatCell_c hL1.1 hL1.2.1 (HTB.out.below hb1)).mono ?_; rintro e w2 ⟨rfl, hb2⟩
      have hL2 := hL1.below hb2
      have hm2 := hm1.below hb2
      have hD2 := hD1.below hb2
      have hB2 := hb1.trans (hb2.mono hb1.size)
      clear hL1 hm1 hD1 hb1 hb2
      go_wp2_with fail
      refine (sFormatCell_c hL2.1 hL2.2.2.2.2.big).mono ?_; rintro e w3 ⟨rfl, hb3⟩
      have hL3 := hL2.below hb3
      have hm3 := hm2.below hb3
      have hD3 := hD2.below hb3
      have hB3 := hB2.trans (hb3.mono hB2.size)
      clear hL2 hm2 hD2 hB2 hb3
      by_cases hcb : cellB l = true
      · have HC := Lib.hid hcb
        have HPF := Lib.hid (par_fmt hcb)
        have hpos := fmt_pos hcb
        have e1 := ne_emp hpos
        have e2 := tl_ne (l := []) (bts_size (s := fmtT l) (by omega))
        have e3 : (fmtT l).toList.isEmpty = false := by rw [tl_bts]; simpa using bts_size (s := fmtT l) (by omega)
        clear hcb
        generalize fmtT l = T at *
        have hne : (T.toList != T.toList) = false := by simp
        go_wp2_with fail
        refine (CellValid_c hL3.1 hL3.2.1).mono ?_; rintro e w4 ⟨rfl, hb4⟩
        rw [HC.out]
        have hL4 := hL3.below hb4
        have hm4 := hm3.below hb4
        have hD4 := hD3.below hb4
        have hB4 := hB3.trans (hb4.mono hB3.size)
        clear hL3 hm3 hD3 hB3 hb4
        go_wp2_with fail
        refine (ParseCell_c T _ hm4 (by omega)).mono ?_; rintro e w5 hret
        rw [HPF.out] at hret; obtain ⟨a5, n5, c5, rfl, ho5, hb5⟩ := hret.some
        have hL5 := hL4.below hb5
        have hm5 := hm4.below hb5
        have hD5 := hD4.below hb5
        have hB5 := hB4.trans (hb5.mono hB4.size)
        clear hL4 hm4 hD4 hB4 hb5 hret
        go_wp2_with fail
        refine (ssCells_same ho5.rd hL5.1).mono ?_; rintro e w5b ⟨rfl, hq5⟩
        have hm5 := hm5.below (hq5.below _)
        have hD5 := hD5.below (hq5.below _)
        have hB5 := hB5.trans ((hq5.below w5.heap.size).mono hB5.size)
        clear hL5 ho5 hq5 e1 e2 e3 hne
        go_wp2_with fail
        refine (DrawParseCell_c hD5).mono ?_; rintro e w6 ⟨X, rfl, hX, hb6⟩
        have hm6 := hm5.below hb6
        have hB6 := hB5.trans (hb6.mono hB5.size)
        clear hD5 hm5 hB5 hb6
        have HIP := Lib.hid (fun c (h : MaxW c) => ParseCell_c X c h (by omega))
        have HSP := Lib.hid (fun c => (show Calls Tryd.prog 11 #[.string X] c (RetSB c (parT X)) by rw [← sp_par]; exact sParseCell_c X c (by omega)))
        cases hp : parT X with
        | none =>
          have HP := Lib.hid hp
          clear hp
          go_wp2_with fail
          refine (HIP.out _ hm6).mono ?_; rintro e w7 hret
          rw [HP.out] at hret; obtain ⟨a7, n7, c7, rfl, ho7, hb7⟩ := hret.none
          have hB7 := hB6.trans (hb7.mono hB6.size)
          clear hm6 hB6 hb7
          go_wp2_with fail
          refine (HSP.out _).mono ?_; rintro e w8 hret
          rw [HP.out] at hret; obtain ⟨a8, n8, c8, rfl, ho8, hb8⟩ := hret.none
          have ho78 := ho7.below hb8
          have hB8 := hB7.trans (hb8.mono hB7.size)
          clear hB7 hb8 ho7
          go_wp2_with fail
          refine (ssCells_same ho78.rd ho8.rd).mono ?_; rintro e w9 ⟨rfl, hq9⟩
          have hB9 := hB8.trans ((hq9.below w8.heap.size).mono hB8.size)
          clear hB8 hq9
          go_wp2_with fail
          go_ret
          exact ⟨rfl, hB9⟩
        | some L =>
          have HP := Lib.hid hp
          have HF := Lib.hid (fmt_par hp)
          clear hp
          go_wp2_with fail
          refine (HIP.out _ hm6).mono ?_; rintro e w7 hret
          rw [HP.out] at hret; obtain ⟨a7, n7, c7, rfl, ho7, hb7⟩ := hret.some
          have hB7 := hB6.trans (hb7.mono hB6.size)
          clear hm6 hB6 hb7
          go_wp2_with fail
          refine (HSP.out _).mono ?_; rintro e w8 hret
          rw [HP.out] at hret; obtain ⟨a8, n8, c8, rfl, ho8, hb8⟩ := hret.some
          have ho78 := ho7.below hb8
          have hB8 := hB7.trans (hb8.mono hB7.size)
          clear hB7 hb8 ho7
          go_wp2_with fail
          refine (ssCells_same ho78.rd ho8.rd).mono ?_; rintro e w9 ⟨rfl, hq9⟩
          have ho9 := ho78.below (hq9.below _)
          have hB9 := hB8.trans ((hq9.below w8.heap.size).mono hB8.size)
          clear hB8 hq9 ho78 ho8
          go_wp2_with fail
          refine (FormatCell_c ho9.rd ho9.cap'.1 (HTB.out.below hB9)).mono ?_; rintro e w10 ⟨rfl, hb10⟩
          rw [HF.out]
          have hBZ := hB9.trans (hb10.mono hB9.size)
          have hxx : (X.toList == X.toList) = true := by simp
          go_wp2_with fail
          go_ret
          exact ⟨rfl, hBZ⟩
      · have hcb' : cellB l = false := by simpa using hcb
        have HC := Lib.hid hcb'
        have HT := Lib.hid (fmt_no hcb')
        clear hcb hcb' hT1
        rw [HT.out]
        go_wp2_with fail
        refine (CellValid_c hL3.1 hL3.2.1).mono ?_; rintro e w4 ⟨rfl, hb4⟩
        rw [HC.out]
        have hm5 := hm3.below hb4
        have hD5 := hD3.below hb4
        have hB5 := hB3.trans (hb4.mono hB3.size)
        clear hL3 hm3 hD3 hB3 hb4
        go_wp2_with fail
        refine (DrawParseCell_c hD5).mono ?_; rintro e w6 ⟨X, rfl, hX, hb6⟩
        have hm6 := hm5.below hb6
        have hB6 := hB5.trans (hb6.mono hB5.size)
        clear hD5 hm5 hB5 hb6
        have HIP := Lib.hid (fun c (h : MaxW c) => ParseCell_c X c h (by omega))
        have HSP := Lib.hid (fun c => (show Calls Tryd.prog 11 #[.string X] c (RetSB c (parT X)) by rw [← sp_par]; exact sParseCell_c X c (by omega)))
        cases hp : parT X with
        | none =>
          have HP := Lib.hid hp
          clear hp
          go_wp2_with fail
          refine (HIP.out _ hm6).mono ?_; rintro e w7 hret
          rw [HP.out] at hret; obtain ⟨a7, n7, c7, rfl, ho7, hb7⟩ := hret.none
          have hB7 := hB6.trans (hb7.mono hB6.size)
          clear hm6 hB6 hb7
          go_wp2_with fail
          refine (HSP.out _).mono ?_; rintro e w8 hret
          rw [HP.out] at hret; obtain ⟨a8, n8, c8, rfl, ho8, hb8⟩ := hret.none
          have ho78 := ho7.below hb8
          have hB8 := hB7.trans (hb8.mono hB7.size)
          clear hB7 hb8 ho7
          go_wp2_with fail
          refine (ssCells_same ho78.rd ho8.rd).mono ?_; rintro e w9 ⟨rfl, hq9⟩
          have hB9 := hB8.trans ((hq9.below w8.heap.size).mono hB8.size)
          clear hB8 hq9
          go_wp2_with fail
          go_ret
          exact ⟨rfl, hB9⟩
        | some L =>
          have HP := Lib.hid hp
          have HF := Lib.hid (fmt_par hp)
          clear hp
          go_wp2_with fail
          refine (HIP.out _ hm6).mono ?_; rintro e w7 hret
          rw [HP.out] at hret; obtain ⟨a7, n7, c7, rfl, ho7, hb7⟩ := hret.some
          have hB7 := hB6.trans (hb7.mono hB6.size)
          clear hm6 hB6 hb7
          go_wp2_with fail
          refine (HSP.out _).mono ?_; rintro e w8 hret
          rw [HP.out] at hret; obtain ⟨a8, n8, c8, rfl, ho8, hb8⟩ := hret.some
          have ho78 := ho7.below hb8
          have hB8 := hB7.trans (hb8.mono hB7.size)
          clear hB7 hb8 ho7
          go_wp2_with fail
          refine (ssCells_same ho78.rd ho8.rd).mono ?_; rintro e w9 ⟨rfl, hq9⟩
          have ho9 := ho78.below (hq9.below _)
          have hB9 := hB8.trans ((hq9.below w8.heap.size).mono hB8.size)
          clear hB8 hq9 ho78 ho8
          go_wp2_with fail
          refine (FormatCell_c ho9.rd ho9.cap'.1 (HTB.out.below hB9)).mono ?_; rintro e w10 ⟨rfl, hb10⟩
          rw [HF.out]
          have hBZ := hB9.trans (hb10.mono hB9.size)
          have hxx : (X.toList == X.toList) = true := by simp
          go_wp2_with fail
          go_ret
          exact ⟨rfl, hBZ⟩
    · clear w0 w1
      go_enter Tryd.func3, Tryd.ntmps3
      go_wp2
      go_ret
      exact ⟨rfl, Below.refl _ _⟩
  · clear w0 w1
    go_enter Tryd.func3, Tryd.ntmps3
    go_wp2
    go_ret
    exact ⟨rfl, Below.refl _ _⟩

def laidL : List (String × DataW Unit) := [("math/bits.deBruijn32tab", Rows.laid_math_bits_deBruijn32tab), ("math/bits.deBruijn64tab", Rows.laid_math_bits_deBruijn64tab), ("internal/strconv.uint64pow10", Rows.laid_internal_strconv_uint64pow10), ("unicode/utf8.acceptRanges", Rows.laid_unicode_utf8_acceptRanges), ("unicode/utf8.first", Rows.laid_unicode_utf8_first)]
theorem returns_door {H : Type} {enc : TypeId × Value → H} {a : Assume} {C : Checked} {os : Os} {f : FuncId} {fn : Func} {s : ChangeSpec} {conds : List PathCond} {apart fresh handsOn again : Bool} {X : World → Array Value → Prop}
    (hX : ∀ (w w' : World) (args : Array Value), w.heap = w'.heap → X w args → X w' args)
    (own : ownKnob C.prog.godebug = none) (started : os.Started) (noInit : C.prog.inits.idxOf? f = none) (hfn : C.prog.funcs[f]? = some fn)
    (witness : ∃ (w : World) (tape : Tape) (i : Input), w.os = os ∧ (w.forCall tape i).Shaped C.prog ∧ i.vars = [] ∧ Input.okWide C.prog (w.forCall tape i) .any w.heap.size f i ∧
      ((s.pre enc C.prog fn conds apart (w.forCall tape i).memory i.args ∧ X (w.forCall tape i).memory i.args) ∧ sizedMet enc C.prog fn (OpenSpec.ofChange s) apart (w.forCall tape i).memory i.args) ∧ a.holds C.prog (lone (Frame.enter C.prog f i.args .normal) [] (w.forCall tape i)))
    (contract : ∀ (W : World) (base : Nat) (args : Array Value) (ds gs : List (DataW H)) (before : List MemPlace),
      (∀ (j : Nat) t v, fn.params[j]? = some t → args[j]? = some v → Value.okWide C.prog W .any base t v) →
      DataW.Whole enc C.prog fn.params.toList s.vars apart W args.toList ds gs before →
      conds.all (PathCond.test C.prog ⟨fn.params.toList, ds, s.plain.varTypes C.prog, gs⟩) = true →
      X W args → W.ShapedOpen C.prog →
      Calls C.prog f args W fun e W' => ∃ v, e = .returned v ∧ s.post enc C.prog fn apart fresh handsOn again W args v W') :
    ReturnsInHanded a C os f .any (fun w args => (s.pre enc C.prog fn conds apart w args ∧ X w args) ∧ sizedMet enc C.prog fn (OpenSpec.ofChange s) apart w args) (s.post enc C.prog fn apart fresh handsOn again) := by
  refine returnsInHanded_of_calls own started noInit witness ?_
  intro w tape i _ hsh _ hok hpre hholds
  obtain ⟨_, _, _, fn', hfn', _, _, _, _, hval⟩ := hok
  have e : fn' = fn := Option.some.inj (hfn'.symm.trans hfn)
  subst e
  obtain ⟨⟨⟨ds, gs, before, hw, hc⟩, hx⟩, hz⟩ := hpre
  have hw' := DataW.Whole.of_heap (w' := w.forCall tape i) (by rfl) hw
  refine (contract (w.forCall tape i) w.heap.size i.args ds gs before hval hw' hc (hX _ _ _ (by rfl) hx) hsh).mono fun e W' ⟨v, he, hp⟩ => ?_
  subst he
  exact ChangeSpec.post_blind hp

theorem tab_of_laid {W : World} (h : laidMetH Tryd.prog laidL W) : Lib.TabIs Tryd.prog W "internal/strconv.uint64pow10" .u64 Lib.pow10Tab := by
  have h1 := h.filter (fun x => x.1 == "internal/strconv.uint64pow10")
  rw [show laidL.filter (fun x => x.1 == "internal/strconv.uint64pow10") = [("internal/strconv.uint64pow10", Lib.tabData .u64 Lib.pow10Tab)] by kernel_rfl, MakeChecks.laidMetH_plain _ _ _ (by kernel_rfl)] at h1
  exact Lib.tabIs_of_head (g := 0) (t := 94) (e := 79) (n := 20) (by kernel_rfl) (by kernel_rfl) Tryd.underlying94 Tryd.underlying79 (by kernel_rfl) (by kernel_rfl) h1

set_option maxRecDepth 100000 in
theorem lifted (os : Os) (started : os.Started) (H : Type) (enc : TypeId × Value → H) :
    ReturnsInHanded {} Tryd.checked os 3 .any (fun w args => (Rows.fnCellTextSpec.pre enc Tryd.prog Tryd.f3 [] false w args ∧ laidMetH Tryd.prog laidL w) ∧ sizedMet enc Tryd.prog Tryd.f3 (OpenSpec.ofChange Rows.fnCellTextSpec) false w args)
      (Rows.fnCellTextSpec.post enc Tryd.prog Tryd.f3 false true false false) := by
  refine returns_door (C := Tryd.checked) (X := fun w _ => laidMetH Tryd.prog laidL w) (fun _ _ _ hh h => h.of_heap hh) own started (by kernel_rfl) Tryd.func3
    (ChangeSpec.witness_shaped (enc := enc) (C := Tryd.checked) (os := os) (X := fun w _ => laidMetH Tryd.prog laidL w) false (World.laidAll Tryd.prog os laidL) #[.slice none 0 0, .slice none 0 0] 8 (World.laidAll_os _ _ _)
      (World.shaped_of_ZipB (by kernel_rfl) (by kernel_rfl)) (by kernel_rfl) (by kernel_rfl) (by kernel_rfl)
      (by rw [MakeChecks.laidMetH_plain _ _ _ (by kernel_rfl)]; exact laidMet_laidAll _ (by kernel_rfl) (by kernel_rfl))) ?_
  intro W base args ds gs before hval0 hW hcnd hLd hSh
  have hval : ∀ (j : Nat) t v, Tryd.f3.params[j]? = some t → args[j]? = some v → Value.okWide Tryd.prog W .any base t v := hval0
  have hW' := hW
  obtain ⟨p, q, hA0, hV, rfl, hfz, hnd⟩ := hW
  have hA : DataW.TrodAll enc Tryd.prog W 0 (fun _ => true) true Tryd.f3.params.toList args.toList ds p := hA0
  rw [Tryd.params3] at hA hval
  obtain ⟨v0, vs0, d0, ds0, p0, q0, hargs, rfl, rfl, h0, r0⟩ := trodAll_cons hA
  obtain ⟨v1, vs1, d1, ds1, p1, q1, rfl, rfl, rfl, h1, r1⟩ := trodAll_cons r0
  obtain ⟨rfl, rfl, rfl⟩ := trodAll_nil r1
  obtain rfl : args = #[v0, v1] := by cases args; simp_all
  obtain ⟨rfl, rfl⟩ := trodVars_none hV
  have k0 := h0
  have lt0 : ∀ x ∈ p0, x.block < W.heap.size := by obtain ⟨m, hm⟩ := k0; exact DataW.trod_lt m _ _ _ hm
  have k1 := h1
  have lt1 : ∀ x ∈ p1, x.block < W.heap.size := by obtain ⟨m, hm⟩ := k1; exact DataW.trod_lt m _ _ _ hm
  obtain ⟨a0, len0, cap0, rfl⟩ := okWide_slice Tryd.underlying22 (hval 0 22 v0 rfl rfl)
  obtain ⟨z0, w0⟩ : ∃ zs, IsRow .u8 W a0 len0 cap0 zs := by
    obtain ⟨fuel, hf⟩ := h0
    rcases open_ints Tryd.underlying22 Tryd.underlying5 (by kernel_rfl) hf with ⟨hcs, _⟩ | ⟨x, l, c, zs, hcs, _, hl, hm, hz, _, hcell, hwz⟩
    · simp [Value.cells] at hcs
      obtain ⟨rfl, rfl, rfl⟩ := hcs
      exact ⟨[], .inl ⟨rfl, rfl, rfl, rfl⟩⟩
    · simp [Value.cells] at hcs
      obtain ⟨rfl, rfl, rfl⟩ := hcs
      exact ⟨zs, .inr ⟨_, rfl, hl, hm, by simpa using hz, hcell, hwz⟩⟩
  obtain ⟨a1, len1, cap1, rfl⟩ := okWide_slice Tryd.underlying22 (hval 1 22 v1 rfl rfl)
  obtain ⟨z1, w1⟩ : ∃ zs, IsRow .u8 W a1 len1 cap1 zs := by
    obtain ⟨fuel, hf⟩ := h1
    rcases open_ints Tryd.underlying22 Tryd.underlying5 (by kernel_rfl) hf with ⟨hcs, _⟩ | ⟨x, l, c, zs, hcs, _, hl, hm, hz, _, hcell, hwz⟩
    · simp [Value.cells] at hcs
      obtain ⟨rfl, rfl, rfl⟩ := hcs
      exact ⟨[], .inl ⟨rfl, rfl, rfl, rfl⟩⟩
    · simp [Value.cells] at hcs
      obtain ⟨rfl, rfl, rfl⟩ := hcs
      exact ⟨zs, .inr ⟨_, rfl, hl, hm, by simpa using hz, hcell, hwz⟩⟩
  have hmax : ∃ m, W.cell? ⟨1, 0, none⟩ = some (.int .i64 m) := cell_of_shapedOpen_int (zero := #[.int .i64 0]) (t := 3) hSh (of_decide_eq_true (by kernel_rfl)) (by kernel_rfl) rfl (by kernel_rfl) (by kernel_rfl) Tryd.underlying3
  have htab := tab_of_laid hLd
  clear hA0 hval0
  refine (walk a0 len0 cap0 z0 a1 len1 cap1 z1 W hmax htab w0 w1).mono fun e W' ⟨he, bel⟩ => ?_
  subst he
  exact ⟨_, rfl, _, _, _, [], _, [], hW', trodAll_mk1 (shut_bool Tryd.underlying4 _), (trodAll_cons_mk (Below.trod laidOut (by kernel_rfl) (of_decide_eq_true (by kernel_rfl)) k0 bel lt0) (trodAll_cons_mk (Below.trod laidOut (by kernel_rfl) (of_decide_eq_true (by kernel_rfl)) k1 bel lt1) trodAll_mk0)), rfl, bel.frame _, fun h => by cases h⟩

theorem over : Rows.fnCellTextRow.holds Tryd.pinned (OpenSpec.ofChange Rows.fnCellTextSpec) :=
  OpenClaim.holds_of_wide 3 Tryd.f3 rfl rfl rfl rfl rfl rfl rfl ⟨rfl, rfl, rfl, rfl, rfl⟩ rfl rfl rfl rfl rfl (by kernel_rfl) Tryd.func3 (by kernel_rfl)
    (of_decide_eq_true (by kernel_rfl)) (by unfold Func.isWrapper; first | (rw [if_pos (by decide +kernel)]; kernel_rfl) | (rw [if_neg (by decide +kernel)]; exact ⟨rfl, rfl⟩))
    (fun os started H enc _ => lifted os started H enc)

theorem card_holds : Rows.FnCellTextCardSaid :=
  Claim7.holds_tied_plain_at .later [] [.data, .data, .data, .data, .pinned] true (true, "d935880446cf56cbdc689d3bf5da2c7071a89f190bdf39432523a24dad87c2d6") false
    over (fun _ h => by cases h) (by kernel_rfl) (fun _ h => by cases h) fnCellText_row_tie rfl ⟨rfl, rfl⟩ (by kernel_rfl) rfl
    (fun f fn hf hfn => by
      obtain rfl : f = 3 := Option.some.inj ((show Tryd.prog.funcNamed "loop.example/spreadspectrum/laws.FnCellText" = some 3 by kernel_rfl).symm.trans hf) |>.symm
      obtain rfl : fn = Tryd.f3 := (Option.some.inj (Tryd.func3.symm.trans hfn)).symm
      exact ⟨by kernel_rfl, fun j t ht => by
        rw [Tryd.params3] at ht
        have hm : t ∈ ([22, 22] : List TypeId) := by simpa using Array.mem_of_getElem? ht
        have hall : (([22, 22] : List TypeId).all fun u => !Tryd.prog.wantsStandIn u) = true := by kernel_rfl
        exact (show Tryd.prog.wantsStandIn t = false by simpa using List.all_eq_true.1 hall t hm)⟩)
    (by kernel_rfl)
#print axioms card_holds
end Go.Proofs.YtdedcablhahbnaaDoor.fnCellText
