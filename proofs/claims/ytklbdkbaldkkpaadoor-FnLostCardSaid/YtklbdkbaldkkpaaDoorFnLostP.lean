/- The law FnLost holds for every input that the given row lets in: the program's answer is the reference's. No condition of its own. -/
import Derived.Test.YtklbdkbaldkkpaaDoorRows
import Derived.WalkKit
import Derived.ProofKit
import Derived.OpenShut
import Derived.ShutString
import Derived.ChangeOld
import Derived.Below
import Derived.Lib.SmallJoins
import Derived.LaidMore
import Derived.Lay
import Derived.Stop.Joined
import Derived.SevenTiedAt
import Derived.Shelf.Vars
import Derived.Test.YtklbdkbaldkkpaaDoorCards
import Derived.Test.YtklbdkbaldkkpaaDoorTie
import Derived.Test.YtklbdkbaldkkpaaDoorEa
import Derived.Test.YtklbdkbaldkkpaaDoorEe
import Derived.Test.YtklbdkbaldkkpaaDoorLw
namespace Go.Proofs.YtklbdkbaldkkpaaDoor.fnLost
open Go.ChangeShapes Go.WideShapes Go.ChangeAt Go.RowKit
open Go.ChangeMaps (open_string shut_string)
set_option linter.unusedVariables false

theorem own : ownKnob Tryd.prog.godebug = none := by kernel_rfl
theorem laidOut : laidOutB Tryd.prog = true := by kernel_rfl

/-- A slice of integers that came in: nil, or a row of 'cap' cells that hold the numbers zs. -/
def IsRow (k : IntKind) (w : World) (a : Option Addr) (len cap : Nat) (zs : List Int) : Prop :=
  (a = none ∧ len = 0 ∧ cap = 0 ∧ zs = []) ∨
  ∃ x, a = some x ∧ len ≤ cap ∧ cap ≤ maxLen ∧ zs.length = cap ∧ (∀ i, i < zs.length → w.cell? (x.add i) = some (.int k (zs.getD i 0))) ∧ ∀ n ∈ zs, (Lit.int k n).wf = true

theorem ba_ext {a b : ByteArray} (h : a.data.toList = b.data.toList) : a = b := by
  cases a; cases b; congr; exact Array.ext' h
/-- The bits that are not lost, of the first k. -/
def restK (s : ByteArray) (k : Nat) : ByteArray := ⟨((s.data.toList.take k).filter (fun x => !(x == 63))).toArray⟩
theorem restK_yes {s : ByteArray} {k : Nat} (h : k < s.size) (h1 : ((s[k].toNat : Int) == 63) = false) : restK s (k + 1) = restK s k ++ s.extract k (k + 1) := by
  have e : ¬ s[k] = 63 := by intro e; rw [e] at h1; simp at h1
  apply ba_ext
  have hx : (s.extract k (k + 1)).data.toList = [s[k]] := by
    rw [ByteArray.data_extract, Array.toList_extract]
    have hl : k < s.data.toList.length := by simpa using h
    simp only [List.extract, Nat.add_sub_cancel_left]
    rw [List.drop_eq_getElem_cons hl]
    rfl
  rw [ByteArray.data_append, Array.toList_append, hx]
  unfold restK
  rw [take_snocS s k h]
  simp [List.filter_append, e]
theorem restK_no {s : ByteArray} {k : Nat} (h : k < s.size) (h1 : ((s[k].toNat : Int) == 63) = true) : restK s (k + 1) = restK s k := by
  have e : s[k] = 63 := by apply UInt8.toNat_inj.1; show s[k].toNat = 63; have := beq_iff_eq.1 h1; omega
  unfold restK
  rw [take_snocS s k h]
  simp [List.filter_append, e]
theorem filter_count : ∀ l : List UInt8, (l.filter (fun x => !(x == 63))).length + l.count 63 = l.length
  | [] => rfl
  | x :: l => by
    have ih := filter_count l
    by_cases h : x = 63
    · subst h
      rw [List.count_cons_self, List.filter_cons]
      simp only [beq_self_eq_true, Bool.not_true, Bool.false_eq_true, if_false, List.length_cons]
      omega
    · have hb : (x == 63) = false := by simpa using h
      rw [List.count_cons_of_ne (by simpa using h), List.filter_cons, hb]
      simp only [Bool.not_false, if_true, List.length_cons]
      omega
theorem restK_size (s : ByteArray) {k : Nat} (hk : k ≤ s.size) : (restK s k).size + lostK s k = k := by
  have h := filter_count (s.data.toList.take k)
  have h1 : (s.data.toList.take k).length = k := by rw [List.length_take]; simp; omega
  have h2 : (restK s k).size = ((s.data.toList.take k).filter (fun x => !(x == 63))).length := by
    show (List.toArray _).size = _
    rw [List.size_toArray]
  unfold lostK
  omega
theorem rest_lost {s : ByteArray} (h : copyB s = true) : lostR (restK s s.size) = 0 := by
  have hm : (restK s s.size).data.toList = s.data.toList.filter (fun x => !(x == 63)) := by
    unfold restK
    rw [List.take_of_length_le (by simp)]
  have hz := restK_size s (Nat.le_refl s.size)
  have hc : copyB (restK s s.size) = true := by
    have h6 := copyB_600 h
    unfold copyB at *
    rw [Bool.and_eq_true] at *
    refine ⟨decide_eq_true (by omega), ?_⟩
    have h2 := h.2
    unfold allS at *
    rw [hm, List.all_eq_true]
    intro x hx
    exact List.all_eq_true.1 h2 x (List.mem_filter.1 hx).1
  rw [lostR_yes hc]
  have : lostN (restK s s.size) = 0 := by
    unfold lostN
    rw [hm, List.count_eq_zero]
    intro hx
    have := (List.mem_filter.1 hx).2
    simp at this
  rw [this]; rfl
set_option maxRecDepth 100000
set_option maxHeartbeats 4000000 in
theorem walk (a0 : Option Addr) (len0 cap0 : Nat) (z0 : List Int) (w : World) (hmax : ∃ m, w.cell? ⟨0, 0, none⟩ = some (.int .i64 m)) (w0 : IsRow .u8 w a0 len0 cap0 z0) :
    Calls Tryd.prog 4 #[.slice a0 len0 cap0] w fun e w' => e = .returned (.bool true) ∧ Below w.heap.size w w' := by
  have hm : MaxOk w := hmax
  by_cases hn : len0 ≤ 1048576
  · have hC := codeW_of_row w0 (by omega)
    clear w0 hmax
    go_enter Tryd.func4, Tryd.ntmps4
    go_wp2_with fail
    refine (DrawLostBits_c hC).mono ?_; rintro e w1 ⟨⟨s, rfl, hs⟩, hb1⟩
    have hm1 := hm.below hb1
    clear hC hm
    by_cases h : copyB s = true
    · have HL := Lib.hid (lostR_yes h)
      have HR := Lib.hid (rest_lost h)
      have HZ := Lib.hid (restK_size s (Nat.le_refl s.size))
      have hnn : lostN s ≤ s.size := by rw [← lostK_all]; exact lostK_le _ _
      have hsub : (0 : Int) ≤ (s.size : Int) - (lostN s : Int) := by omega
      clear h
      go_wp2_with fail
      refine (LostBits_c s _ hm1 (by omega)).mono ?_; rintro e w2 ⟨rfl, hb2⟩
      have hm2 := hm1.below hb2
      have hbA := hb1.trans (hb2.mono hb1.size)
      clear hm1 hb1 hb2
      rw [HL.out]
      go_wp2_with fail
      refine (sLostBits_c s _ (by omega)).mono ?_; rintro e w3 ⟨rfl, rfl⟩
      rw [HL.out]
      go_wp2_with fail
      go_loop [5, 6] (fun r i => ∃ k : Nat, k ≤ s.size ∧ i = .int .i64 k ∧ r = .string (restK s k)) (fun _ i => s.size - (intOf i).toNat)
      case atStart => exact ⟨0, Nat.zero_le _, rfl, rfl⟩
      case round =>
        obtain ⟨k, hk, rfl, rfl⟩ := hrel
        have hle : (restK s k).size ≤ 601 := by have := restK_size s hk; omega
        by_cases hlt : k < s.size
        · by_cases h3 : ((s[k].toNat : Int) == 63) = true
          · have h3' : ((s[k].toNat : Int) != 63) = false := by simp [bne, h3]
            have HT := Lib.hid (restK_no hlt h3)
            clear h3
            go_wp2_with fail
            go_round
            case rel => exact ⟨k + 1, by omega, by go_num, by rw [HT.out]⟩
            case measure => simp [intOf]; omega
          · have h3a : ((s[k].toNat : Int) == 63) = false := by simpa using h3
            have h3' : ((s[k].toNat : Int) != 63) = true := by simp [bne, h3a]
            have HT := Lib.hid (restK_yes hlt h3a)
            clear h3
            go_wp2_with fail
            go_round
            case rel => exact ⟨k + 1, by omega, by go_num, by rw [HT.out]⟩
            case measure => simp [intOf]; omega
        · obtain rfl : k = s.size := by omega
          have hsz : ((restK s s.size).size : Int) = (s.size : Int) - (lostN s : Int) := by have := HZ.out; rw [lostK_all] at this; omega
          go_wp2_with fail
          refine (LostBits_c (restK s s.size) _ hm2 (by omega)).mono ?_; rintro e w4 ⟨rfl, hb4⟩
          rw [HR.out]
          go_wp2_with fail
          go_ret
          exact ⟨by simp, hbA.trans (hb4.mono hbA.size)⟩
    · have h' : copyB s = false := by simpa using h
      have HL := Lib.hid (lostR_no h')
      clear h h'
      go_wp2_with fail
      refine (LostBits_c s _ hm1 (by omega)).mono ?_; rintro e w2 ⟨rfl, hb2⟩
      have hbA := hb1.trans (hb2.mono hb1.size)
      rw [HL.out]
      go_wp2_with fail
      refine (sLostBits_c s _ (by omega)).mono ?_; rintro e w3 ⟨rfl, rfl⟩
      rw [HL.out]
      go_wp2_with fail
      refine (sLostBits_c s _ (by omega)).mono ?_; rintro e w3 ⟨rfl, rfl⟩
      rw [HL.out]
      go_wp2_with fail
      go_ret
      exact ⟨rfl, hbA⟩
  · clear w0 hmax
    go_enter Tryd.func4, Tryd.ntmps4
    go_wp2_with fail
    go_ret
    exact ⟨rfl, Below.refl _ _⟩

def laidL : List (String × DataW Unit) := [("unicode/utf8.acceptRanges", Rows.laid_unicode_utf8_acceptRanges), ("unicode/utf8.first", Rows.laid_unicode_utf8_first)]
theorem returns_door {H : Type} {enc : TypeId × Value → H} {a : Assume} {C : Checked} {os : Os} {f : FuncId} {fn : Func} {s : ChangeSpec} {conds : List PathCond} {apart fresh handsOn again : Bool} {X : World → Array Value → Prop}
    (hX : ∀ (w w' : World) (args : Array Value), w.heap = w'.heap → X w args → X w' args)
    (own : ownKnob C.prog.godebug = none) (started : os.Started) (noInit : C.prog.inits.idxOf? f = none) (hfn : C.prog.funcs[f]? = some fn)
    (witness : ∃ (w : World) (tape : Tape) (i : Input), w.os = os ∧ (w.forCall tape i).Shaped C.prog ∧ i.vars = [] ∧ Input.okWide C.prog (w.forCall tape i) .any w.heap.size f i ∧
      ((s.pre enc C.prog fn conds apart (w.forCall tape i).memory i.args ∧ X (w.forCall tape i).memory i.args) ∧ sizedMet enc C.prog fn (OpenSpec.ofChange s) apart (w.forCall tape i).memory i.args) ∧ a.holds C.prog (lone (Frame.enter C.prog f i.args .normal) [] (w.forCall tape i)))
    (contract : ∀ (W : World) (base : Nat) (args : Array Value) (ds gs : List (DataW H)) (before : List MemPlace),
      (∀ (j : Nat) t v, fn.params[j]? = some t → args[j]? = some v → Value.okWide C.prog W .any base t v) →
      DataW.Whole enc C.prog fn.params.toList s.vars apart W args.toList ds gs before →
      conds.all (PathCond.test C.prog ⟨fn.params.toList, ds, s.plain.varTypes C.prog, gs⟩) = true →
      X W args → W.ShapedOpen C.prog →
      Calls C.prog f args W fun e W' => ∃ v, e = .returned v ∧ s.post enc C.prog fn apart fresh handsOn again W args v W') :
    ReturnsInHanded a C os f .any (fun w args => (s.pre enc C.prog fn conds apart w args ∧ X w args) ∧ sizedMet enc C.prog fn (OpenSpec.ofChange s) apart w args) (s.post enc C.prog fn apart fresh handsOn again) := by
  refine returnsInHanded_of_calls own started noInit witness ?_
  intro w tape i _ hsh _ hok hpre hholds
  obtain ⟨_, _, _, fn', hfn', _, _, _, _, hval⟩ := hok
  have e : fn' = fn := Option.some.inj (hfn'.symm.trans hfn)
  subst e
  obtain ⟨⟨⟨ds, gs, before, hw, hc⟩, hx⟩, hz⟩ := hpre
  have hw' := DataW.Whole.of_heap (w' := w.forCall tape i) (by rfl) hw
  refine (contract (w.forCall tape i) w.heap.size i.args ds gs before hval hw' hc (hX _ _ _ (by rfl) hx) hsh).mono fun e W' ⟨v, he, hp⟩ => ?_
  subst he
  exact ChangeSpec.post_blind hp

set_option maxRecDepth 100000 in
theorem lifted (os : Os) (started : os.Started) (H : Type) (enc : TypeId × Value → H) :
    ReturnsInHanded {} Tryd.checked os 4 .any (fun w args => (Rows.fnLostSpec.pre enc Tryd.prog Tryd.f4 [] false w args ∧ laidMetH Tryd.prog laidL w) ∧ sizedMet enc Tryd.prog Tryd.f4 (OpenSpec.ofChange Rows.fnLostSpec) false w args)
      (Rows.fnLostSpec.post enc Tryd.prog Tryd.f4 false true false false) := by
  refine returns_door (C := Tryd.checked) (X := fun w _ => laidMetH Tryd.prog laidL w) (fun _ _ _ hh h => h.of_heap hh) own started (by kernel_rfl) Tryd.func4
    (ChangeSpec.witness_shaped (enc := enc) (C := Tryd.checked) (os := os) (X := fun w _ => laidMetH Tryd.prog laidL w) false (World.laidAll Tryd.prog os laidL) #[.slice none 0 0] 8 (World.laidAll_os _ _ _)
      (World.shaped_of_ZipB (by kernel_rfl) (by kernel_rfl)) (by kernel_rfl) (by kernel_rfl) (by kernel_rfl)
      (by rw [MakeChecks.laidMetH_plain _ _ _ (by kernel_rfl)]; exact laidMet_laidAll _ (by kernel_rfl) (by kernel_rfl))) ?_
  intro W base args ds gs before hval0 hW hcnd _ hSh
  have hval : ∀ (j : Nat) t v, Tryd.f4.params[j]? = some t → args[j]? = some v → Value.okWide Tryd.prog W .any base t v := hval0
  have hW' := hW
  obtain ⟨p, q, hA0, hV, rfl, hfz, hnd⟩ := hW
  have hA : DataW.TrodAll enc Tryd.prog W 0 (fun _ => true) true Tryd.f4.params.toList args.toList ds p := hA0
  rw [Tryd.params4] at hA hval
  obtain ⟨v0, vs0, d0, ds0, p0, q0, hargs, rfl, rfl, h0, r0⟩ := trodAll_cons hA
  obtain ⟨rfl, rfl, rfl⟩ := trodAll_nil r0
  obtain rfl : args = #[v0] := by cases args; simp_all
  obtain ⟨rfl, rfl⟩ := trodVars_none hV
  have k0 := h0
  have lt0 : ∀ x ∈ p0, x.block < W.heap.size := by obtain ⟨m, hm⟩ := k0; exact DataW.trod_lt m _ _ _ hm
  obtain ⟨a0, len0, cap0, rfl⟩ := okWide_slice Tryd.underlying22 (hval 0 22 v0 rfl rfl)
  obtain ⟨z0, w0⟩ : ∃ zs, IsRow .u8 W a0 len0 cap0 zs := by
    obtain ⟨fuel, hf⟩ := h0
    rcases open_ints Tryd.underlying22 Tryd.underlying5 (by kernel_rfl) hf with ⟨hcs, _⟩ | ⟨x, l, c, zs, hcs, _, hl, hm, hz, _, hcell, hwz⟩
    · simp [Value.cells] at hcs
      obtain ⟨rfl, rfl, rfl⟩ := hcs
      exact ⟨[], .inl ⟨rfl, rfl, rfl, rfl⟩⟩
    · simp [Value.cells] at hcs
      obtain ⟨rfl, rfl, rfl⟩ := hcs
      exact ⟨zs, .inr ⟨_, rfl, hl, hm, by simpa using hz, hcell, hwz⟩⟩
  have hmax : ∃ m, W.cell? ⟨0, 0, none⟩ = some (.int .i64 m) := cell_of_shapedOpen_int (zero := #[.int .i64 0]) (t := 3) hSh (of_decide_eq_true (by kernel_rfl)) (by kernel_rfl) rfl (by kernel_rfl) (by kernel_rfl) Tryd.underlying3
  clear hA0 hval0
  refine (walk a0 len0 cap0 z0 W hmax w0).mono fun e W' ⟨he, bel⟩ => ?_
  subst he
  exact ⟨_, rfl, _, _, _, [], _, [], hW', trodAll_mk1 (shut_bool Tryd.underlying4 _), (trodAll_cons_mk (Below.trod laidOut (by kernel_rfl) (of_decide_eq_true (by kernel_rfl)) k0 bel lt0) trodAll_mk0), rfl, bel.frame _, fun h => by cases h⟩

theorem over : Rows.fnLostRow.holds Tryd.pinned (OpenSpec.ofChange Rows.fnLostSpec) :=
  OpenClaim.holds_of_wide 4 Tryd.f4 rfl rfl rfl rfl rfl rfl rfl ⟨rfl, rfl, rfl, rfl, rfl⟩ rfl rfl rfl rfl rfl (by kernel_rfl) Tryd.func4 (by kernel_rfl)
    (of_decide_eq_true (by kernel_rfl)) (by unfold Func.isWrapper; first | (rw [if_pos (by decide +kernel)]; kernel_rfl) | (rw [if_neg (by decide +kernel)]; exact ⟨rfl, rfl⟩))
    (fun os started H enc _ => lifted os started H enc)

theorem card_holds : Rows.FnLostCardSaid :=
  Claim7.holds_tied_plain_at .later [] [.data, .pinned] true (true, "5ec44ec4404d17d2edc3c31f9f21e73047a7fc5ba9912bb62e2aed529af57d8f") false
    over (fun _ h => by cases h) (by kernel_rfl) (fun _ h => by cases h) fnLost_row_tie rfl ⟨rfl, rfl⟩ (by kernel_rfl) rfl
    (fun f fn hf hfn => by
      obtain rfl : f = 4 := Option.some.inj ((show Tryd.prog.funcNamed "loop.example/spreadspectrum/laws.FnLost" = some 4 by kernel_rfl).symm.trans hf) |>.symm
      obtain rfl : fn = Tryd.f4 := (Option.some.inj (Tryd.func4.symm.trans hfn)).symm
      exact ⟨by kernel_rfl, fun j t ht => by
        rw [Tryd.params4] at ht
        have hm : t ∈ ([22] : List TypeId) := by simpa using Array.mem_of_getElem? ht
        have hall : (([22] : List TypeId).all fun u => !Tryd.prog.wantsStandIn u) = true := by kernel_rfl
        exact (show Tryd.prog.wantsStandIn t = false by simpa using List.all_eq_true.1 hall t hm)⟩)
    (by kernel_rfl)
#print axioms card_holds
end Go.Proofs.YtklbdkbaldkkpaaDoor.fnLost
