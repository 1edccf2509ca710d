/- The law FnCombine holds for every input that the given row lets in: the program's answer is the reference's. No condition of its own. -/
import Derived.Test.YtklbdkbaldkkpaaDoorRows
import Derived.WalkKit
import Derived.ProofKit
import Derived.OpenShut
import Derived.ShutString
import Derived.ChangeOld
import Derived.Below
import Derived.Lib.SmallJoins
import Derived.LaidMore
import Derived.Lay
import Derived.Stop.Joined
import Derived.SevenTiedAt
import Derived.Shelf.Vars
import Derived.Test.YtklbdkbaldkkpaaDoorCards
import Derived.Test.YtklbdkbaldkkpaaDoorTie
import Derived.Test.YtklbdkbaldkkpaaDoorEc
import Derived.Test.YtklbdkbaldkkpaaDoorEe
import Derived.Test.YtklbdkbaldkkpaaDoorLw
namespace Go.Proofs.YtklbdkbaldkkpaaDoor.fnCombine
open Go.ChangeShapes Go.WideShapes Go.ChangeAt Go.RowKit
open Go.ChangeMaps (open_string shut_string)
set_option linter.unusedVariables false

theorem own : ownKnob Tryd.prog.godebug = none := by kernel_rfl
theorem laidOut : laidOutB Tryd.prog = true := by kernel_rfl

/-- A slice of integers that came in: nil, or a row of 'cap' cells that hold the numbers zs. -/
def IsRow (k : IntKind) (w : World) (a : Option Addr) (len cap : Nat) (zs : List Int) : Prop :=
  (a = none ∧ len = 0 ∧ cap = 0 ∧ zs = []) ∨
  ∃ x, a = some x ∧ len ≤ cap ∧ cap ≤ maxLen ∧ zs.length = cap ∧ (∀ i, i < zs.length → w.cell? (x.add i) = some (.int k (zs.getD i 0))) ∧ ∀ n ∈ zs, (Lit.int k n).wf = true

theorem wp_appST {ops : Array Oper} {rest : List Oper} {o : Oper} {a : Act} {Q : Exit → Act → World → Prop} (wr : World) (hgd : o.guard = none) (s x : Operand)
    (ho : o.op = .call { callee := .builtin .append, args := #[s, x], argTypes := #[23, 23] })
    (lo : Nat) (v : Value) (l r : List ByteArray) (ao : Option Addr) (m c : Nat) (hs : a.eval s = v) (hown : OwnVT wr lo v l) (hx : a.eval x = .slice ao m c) (hr : RdT wr ao m r)
    (hc : ao = none → c = 0) (hlen : l.length + m ≤ 1099511627776) (hlo : lo ≤ wr.heap.size)
    (h : ∀ v' w', OwnVT w' lo v' (l ++ r) → Below lo wr w' → wpList Tryd.prog ops Q rest (a.put o.dst v') w') :
    wpList Tryd.prog ops Q (o :: rest) a wr :=
  wpList_plain hgd fun _ hK => op_appSF 23 9 16 ByteArray.empty Tryd.underlying23 info_str rfl (by decide) (fun _ => rfl) wr s x ho lo v l r ao m c hs hown hx hr hc hlen hlo fun v' w' h2 _ h4 => hK _ _ (h v' w' h2 h4)
theorem ownVT_one (w : World) (t : ByteArray) : OwnVT (w.alloc (.cells #[.string t] 9)) w.heap.size (.slice (some ⟨w.heap.size, 0, none⟩) 1 1) [t] :=
  World.ownsRow_lit (size := 1) w #[.string t] 1 (Nat.le_refl _) (by decide) rfl
/-- The last ones, turned. -/
def turnL (l : List ByteArray) (k : Nat) : List ByteArray := (l.drop k).reverse
theorem turnL_step {l : List ByteArray} {m : Nat} (h : m < l.length) : turnL l m = turnL l (m + 1) ++ [l[m]] := by
  unfold turnL; rw [List.drop_eq_getElem_cons h, List.reverse_cons]
theorem turnL_all (l : List ByteArray) : turnL l l.length = [] := by unfold turnL; rw [List.drop_length]; rfl
theorem turnL_len (l : List ByteArray) (k : Nat) : (turnL l k).length ≤ l.length := by unfold turnL; rw [List.length_reverse, List.length_drop]; omega
theorem turn_comb {l : List ByteArray} {t : ByteArray} (h : IsComb l t) : combR (turnL l 0) = some t := by
  apply combR_if
  unfold turnL
  rw [List.drop_zero]
  exact h.perm (by simp) (by simp)
theorem again_comb {l : List ByteArray} {t : ByteArray} (h : IsComb l t) : combR ([t] ++ l.take 1) = some t := by
  have h0 : 0 < l.length := h.lo
  have e : l.take 1 = [l[0]] := by
    cases l with
    | nil => simp at h0
    | cons x l => rfl
  rw [e]
  exact combR_if (h.again (List.getElem_mem h0))
set_option maxRecDepth 100000
set_option maxHeartbeats 4000000 in
theorem walk (a0 : Option Addr) (len0 cap0 : Nat) (z0 : List Int) (w : World) (hmax : ∃ m, w.cell? ⟨0, 0, none⟩ = some (.int .i64 m)) (w0 : IsRow .u8 w a0 len0 cap0 z0) :
    Calls Tryd.prog 3 #[.slice a0 len0 cap0] w fun e w' => e = .returned (.bool true) ∧ Below w.heap.size w w' := by
  have hm : MaxOk w := hmax
  by_cases hn : len0 ≤ 1048576
  · have hC := codeW_of_row w0 (by omega)
    clear w0 hmax
    go_enter Tryd.func3, Tryd.ntmps3
    go_wp2_with fail
    refine (DrawCombineCopies_c hC).mono ?_; rintro e w1 ⟨a, n, c, l, rfl, hrd, hnc, hc0, hl5, hsm, _, hb1⟩
    have hm1 := hm.below hb1
    have HS := Lib.hid hsm
    have hbig : ∀ s ∈ l, s.size ≤ 1048576 := fun s hs => by have := HS.out s hs; omega
    have HBG := Lib.hid hbig
    clear hC hm hsm hbig
    cases hr : combR l with
    | none =>
      have HT := Lib.hid hr
      clear hr
      go_wp2_with fail
      refine (CombineCopies_c hrd hm1 HBG.out).mono ?_; rintro e w2 ⟨rfl, hb2⟩
      have hrd2 := hrd.below hb2
      have hbA := hb1.trans (hb2.mono hb1.size)
      rw [HT.out]
      simp only [Option.getD_none, Option.isSome_none]
      go_wp2_with fail
      refine (sCombineCopies_c hrd2 HBG.out).mono ?_; rintro e w3 ⟨rfl, hb3⟩
      rw [HT.out]
      simp only [Option.getD_none, Option.isSome_none]
      go_wp2_with fail
      go_ret
      exact ⟨by simp, hbA.trans (hb3.mono hbA.size)⟩
    | some t =>
      have HT := Lib.hid hr
      have HI := Lib.hid (combR_only hr)
      clear hr
      go_wp2_with fail
      refine (CombineCopies_c hrd hm1 HBG.out).mono ?_; rintro e w2 ⟨rfl, hb2⟩
      have hrd2 := hrd.below hb2
      have hm2 := hm1.below hb2
      have hbA := hb1.trans (hb2.mono hb1.size)
      clear hrd hm1 hb1 hb2
      rw [HT.out]
      simp only [Option.getD_some, Option.isSome_some]
      go_wp2_with fail
      refine (sCombineCopies_c hrd2 HBG.out).mono ?_; rintro e w3 ⟨rfl, hb3⟩
      have hrd3 := hrd2.below hb3
      have hm3 := hm2.below hb3
      have hbB := hbA.trans (hb3.mono hbA.size)
      clear hrd2 hm2 hbA hb3
      rw [HT.out]
      simp only [Option.getD_some, Option.isSome_some]
      have HN := Lib.hid hrd3.1
      have hn5 : n ≤ 5 := by have := HN.out; omega
      have hn1 : 1 ≤ n := by have := HN.out; have := HI.out.lo; omega
      have ht600 := copyB_600 HI.out.copy
      have hov : OwnVT (w3.alloc (.cells #[] 9)) w3.heap.size (.slice (some ⟨w3.heap.size, 0, none⟩) 0 0) [] := OwnVF.made0 _ _ w3 (Nat.le_refl _)
      have hb4 : Below w3.heap.size w3 (w3.alloc (.cells #[] 9)) := (Below.refl _ _).alloc (Nat.le_refl _) _
      go_wp2_with fail
      go_loopw [8, 9] (fun v i wr => ∃ (k : Nat) (iv : Int), i = .int .i64 iv ∧ iv = (k : Int) - 1 ∧ k ≤ n ∧ OwnVT wr w3.heap.size v (turnL l k) ∧ Below w3.heap.size w3 wr) (fun _ i _ => (intOf i + 1).toNat)
      case atStart => exact ⟨n, (n : Int) - 1, rfl, rfl, Nat.le_refl _, by rw [show turnL l n = [] by rw [HN.out]; exact turnL_all l]; exact hov, hb4⟩
      case round =>
        clear hov hb4
        obtain ⟨k, iv, rfl, hiv, hk, ho, hb⟩ := hrel
        obtain ⟨wo, hwo⟩ : ∃ wo : World, wo = wr := ⟨_, rfl⟩
        subst hwo
        have hz := hb.size
        cases k with
        | zero =>
          obtain rfl : iv = -1 := by omega
          obtain ⟨a2, n2, c2, hv, ho2⟩ := ho.own (by have := turnL_len l 0; omega)
          subst hv
          have hrt := ho2.rd
          have hm4 := hm3.below hb
          have HT2 := Lib.hid (turn_comb HI.out)
          have HT3 := Lib.hid (again_comb HI.out)
          have HBT : Hid (∀ s ∈ turnL l 0, s.size ≤ 1048576) := Lib.hid (fun s hs => HBG.out s (by unfold turnL at hs; rw [List.drop_zero] at hs; exact List.mem_reverse.1 hs))
          have hrl := hrd3.below hb
          have hbC := hbB.trans (hb.mono hbB.size)
          clear ho ho2 hm3 hb hbB hrd3 hiv hk
          go_wp2_with fail
          refine (CombineCopies_c hrt hm4 HBT.out).mono ?_; rintro e w5 ⟨rfl, hb5⟩
          have hm5 := hm4.below hb5
          have hrl5 := hrl.below hb5
          have hbD := hbC.trans (hb5.mono hbC.size)
          clear hrt hm4 hrl hbC hb5
          rw [HT2.out]
          simp only [Option.getD_some, Option.isSome_some]
          have hbl : Below w5.heap.size w5 (w5.alloc (.cells #[.string t] 9)) := (Below.refl _ _).alloc (Nat.le_refl _) _
          have hon := ownVT_one w5 t
          have hr6 := (hrl5.below hbl).take hn1
          have hc1 : 1 ≤ c := by omega
          have hc2 : (1 : Int) ≤ (c : Int) := by omega
          go_wp2_with (at_builtin; refine wp_appST (w5.alloc (.cells #[.string t] 9)) rfl _ _ rfl w5.heap.size _ [t] (l.take 1) _ 1 c rfl (by exact hon) rfl (by exact hr6) hc0 (by simp) (by simp) ?_; intro v' w7 ho7 hb7)
          obtain ⟨a3, n3, c3, hv, ho8⟩ := ho7.own (by simp; omega)
          subst hv
          have hbE : Below w5.heap.size w5 w7 := hbl.trans hb7
          have hm7 := hm5.below hbE
          have hbF := hbD.trans (hbE.mono hbD.size)
          go_wp2_with fail
          refine (CombineCopies_c ho8.rd hm7 (fun s hs => by
            rcases List.mem_append.1 hs with h | h
            · rw [List.mem_singleton.1 h]; omega
            · exact HBG.out s (List.mem_of_mem_take h))).mono ?_; rintro e w8 ⟨rfl, hb8⟩
          rw [HT3.out]
          simp only [Option.getD_some, Option.isSome_some]
          go_wp2_with fail
          go_ret
          exact ⟨by simp, hbF.trans (hb8.mono hbF.size)⟩
        | succ m =>
          obtain rfl : iv = (m : Int) := by omega
          have hmn : m < n := by omega
          obtain ⟨b0, o0, rfl, hl, hc⟩ := (hrd3.below hb).at hmn
          have HTS := Lib.hid (turnL_step hl)
          have hU := HI.out.all _ (List.getElem_mem hl)
          have HLE := Lib.hid (HI.out.lost (List.getElem_mem hl))
          have HFI := Lib.hid (fun i hi => HI.out.fits i hi _ (List.getElem_mem hl))
          have hlen := turnL_len l (m + 1)
          obtain ⟨u, hud⟩ : ∃ u, u = l[m] := ⟨_, rfl⟩
          have HUD := Lib.hid hud
          rw [← hud] at HTS HLE HFI hU hc
          clear hud hiv
          have HLU := Lib.hid (lostR_yes hU.1)
          have HLT := Lib.hid (lostR_yes HI.out.copy)
          have hut := hU.2
          clear hU
          go_wp2_with (at_builtin; refine wp_app1F 23 9 16 ByteArray.empty Tryd.underlying23 info_str rfl (by decide) (fun _ => rfl) wo rfl _ _ rfl w3.heap.size _ _ _ rfl (by exact ho) rfl (by omega) hz ?_; intro v' w5 ho5 _ hb5)
          have ho6 : OwnVT w5 w3.heap.size v' (turnL l m) := by rw [HTS.out]; exact ho5
          have hbC := hb.trans hb5
          have C0 : w5.cell? ⟨b0, o0 + m, none⟩ = some (.string u) := by
            obtain ⟨b9, o9, he, hl9, hc9⟩ := (hrd3.below hbC).at hmn
            cases he
            rw [HUD.out]; exact hc9
          have hm5 := hm3.below hbC
          have hm5d := hm5.qw (Qw.drewN w5 1)
          clear ho ho5 hc hb hb5
          have hle : (lostN t : Int) ≤ (lostN u : Int) := by have := HLE.out; omega
          go_wp2_with fail
          go_region_held3 (fun w' => w'.cell? ⟨b0, o0 + m, none⟩ = some (.string u)) (first | exact C0 | exact C1 | exact C2) (first | (go_at_call 9; refine (LostBits_c t _ hm5d (by omega)).mono ?_; rintro e w6 ⟨rfl, hb6⟩; rw [HLT.out]; have C1 : w6.cell? ⟨b0, o0 + m, none⟩ = some (.string u) := (hb6.cell (lt_of_cell C0)).trans C0; have hm6 := hm5d.below hb6) | (go_at_call 9; refine (LostBits_c u _ hm6 (by omega)).mono ?_; rintro e w7 ⟨rfl, hb7⟩; rw [HLU.out]; have C2 : w7.cell? ⟨b0, o0 + m, none⟩ = some (.string u) := (hb7.cell (lt_of_cell C1)).trans C1))
          have e1 := (Qw.drewN w5 1).below w5.heap.size
          have e2 := e1.trans (hb6.mono e1.size)
          have e3 := e2.trans (hb7.mono e2.size)
          have ho7 := OwnVF.below ho6 e3
          have hbD := hbC.trans (e3.mono hbC.size)
          clear e1 e2 e3 hb6 hb7 ho6 hbC C0 C1 hm5 hm5d hm6
          go_wp2_with fail
          go_loopw [10] (fun i wr => ∃ j : Nat, j ≤ t.size ∧ i = .int .i64 j ∧ Qw w7 wr) (fun i _ => t.size - (intOf i).toNat)
          case atStart => exact ⟨0, Nat.zero_le _, rfl, Qw.refl _⟩
          case round =>
            obtain ⟨j, hj, rfl, hq⟩ := hrel
            obtain ⟨wi, hwi⟩ : ∃ wi : World, wi = wr := ⟨_, rfl⟩
            subst hwi
            by_cases hjt : j < t.size
            · have hju : j < u.size := by omega
              have C3 : wi.cell? ⟨b0, o0 + m, none⟩ = some (.string u) := ((hq.below w7.heap.size).cell (lt_of_cell C2)).trans C2
              have hF := HFI.out j hjt
              rw [cd_eq hju, cd_eq hjt] at hF
              by_cases g1 : ((u[j].toNat : Int) == 63) = true
              · have g1b : ((u[j].toNat : Int) != 63) = false := by simp [bne, g1]
                clear g1 hF C2
                go_wp2_with fail
                go_quiet (fail)
                go_wp2_with fail
                go_roundw
                case rel => exact ⟨j + 1, by omega, by go_num, hq.trans (Qw.drewN _ _)⟩
                case measure => simp [intOf]; omega
              · have g1' : ((u[j].toNat : Int) == 63) = false := by simpa using g1
                have g1b : ((u[j].toNat : Int) != 63) = true := by simp [bne, g1']
                have g2b : ((u[j].toNat : Int) != (t[j].toNat : Int)) = false := by
                  rcases hF with hF | hF
                  · rw [hF] at g1'; cases g1'
                  · rw [hF]; simp
                clear g1 g1' hF C2
                go_wp2_with fail
                go_quiet (fail)
                go_wp2_with fail
                go_roundw
                case rel => exact ⟨j + 1, by omega, by go_num, hq.trans (Qw.drewN _ _)⟩
                case measure => simp [intOf]; omega
            · go_wp2_with fail
              go_roundw
              case rel => exact ⟨m, (m : Int) - 1, by go_num, rfl, by omega, OwnVF.below ho7 (hq.below _), hbD.trans (hq.below _)⟩
              case measure => simp [intOf]
  · clear w0 hmax
    go_enter Tryd.func3, Tryd.ntmps3
    go_wp2_with fail
    go_ret
    exact ⟨rfl, Below.refl _ _⟩

def laidL : List (String × DataW Unit) := [("unicode/utf8.acceptRanges", Rows.laid_unicode_utf8_acceptRanges), ("unicode/utf8.first", Rows.laid_unicode_utf8_first)]
theorem returns_door {H : Type} {enc : TypeId × Value → H} {a : Assume} {C : Checked} {os : Os} {f : FuncId} {fn : Func} {s : ChangeSpec} {conds : List PathCond} {apart fresh handsOn again : Bool} {X : World → Array Value → Prop}
    (hX : ∀ (w w' : World) (args : Array Value), w.heap = w'.heap → X w args → X w' args)
    (own : ownKnob C.prog.godebug = none) (started : os.Started) (noInit : C.prog.inits.idxOf? f = none) (hfn : C.prog.funcs[f]? = some fn)
    (witness : ∃ (w : World) (tape : Tape) (i : Input), w.os = os ∧ (w.forCall tape i).Shaped C.prog ∧ i.vars = [] ∧ Input.okWide C.prog (w.forCall tape i) .any w.heap.size f i ∧
      ((s.pre enc C.prog fn conds apart (w.forCall tape i).memory i.args ∧ X (w.forCall tape i).memory i.args) ∧ sizedMet enc C.prog fn (OpenSpec.ofChange s) apart (w.forCall tape i).memory i.args) ∧ a.holds C.prog (lone (Frame.enter C.prog f i.args .normal) [] (w.forCall tape i)))
    (contract : ∀ (W : World) (base : Nat) (args : Array Value) (ds gs : List (DataW H)) (before : List MemPlace),
      (∀ (j : Nat) t v, fn.params[j]? = some t → args[j]? = some v → Value.okWide C.prog W .any base t v) →
      DataW.Whole enc C.prog fn.params.toList s.vars apart W args.toList ds gs before →
      conds.all (PathCond.test C.prog ⟨fn.params.toList, ds, s.plain.varTypes C.prog, gs⟩) = true →
      X W args → W.ShapedOpen C.prog →
      Calls C.prog f args W fun e W' => ∃ v, e = .returned v ∧ s.post enc C.prog fn apart fresh handsOn again W args v W') :
    ReturnsInHanded a C os f .any (fun w args => (s.pre enc C.prog fn conds apart w args ∧ X w args) ∧ sizedMet enc C.prog fn (OpenSpec.ofChange s) apart w args) (s.post enc C.prog fn apart fresh handsOn again) := by
  refine returnsInHanded_of_calls own started noInit witness ?_
  intro w tape i _ hsh _ hok hpre hholds
  obtain ⟨_, _, _, fn', hfn', _, _, _, _, hval⟩ := hok
  have e : fn' = fn := Option.some.inj (hfn'.symm.trans hfn)
  subst e
  obtain ⟨⟨⟨ds, gs, before, hw, hc⟩, hx⟩, hz⟩ := hpre
  have hw' := DataW.Whole.of_heap (w' := w.forCall tape i) (by rfl) hw
  refine (contract (w.forCall tape i) w.heap.size i.args ds gs before hval hw' hc (hX _ _ _ (by rfl) hx) hsh).mono fun e W' ⟨v, he, hp⟩ => ?_
  subst he
  exact ChangeSpec.post_blind hp

set_option maxRecDepth 100000 in
theorem lifted (os : Os) (started : os.Started) (H : Type) (enc : TypeId × Value → H) :
    ReturnsInHanded {} Tryd.checked os 3 .any (fun w args => (Rows.fnCombineSpec.pre enc Tryd.prog Tryd.f3 [] false w args ∧ laidMetH Tryd.prog laidL w) ∧ sizedMet enc Tryd.prog Tryd.f3 (OpenSpec.ofChange Rows.fnCombineSpec) false w args)
      (Rows.fnCombineSpec.post enc Tryd.prog Tryd.f3 false true false false) := by
  refine returns_door (C := Tryd.checked) (X := fun w _ => laidMetH Tryd.prog laidL w) (fun _ _ _ hh h => h.of_heap hh) own started (by kernel_rfl) Tryd.func3
    (ChangeSpec.witness_shaped (enc := enc) (C := Tryd.checked) (os := os) (X := fun w _ => laidMetH Tryd.prog laidL w) false (World.laidAll Tryd.prog os laidL) #[.slice none 0 0] 8 (World.laidAll_os _ _ _)
      (World.shaped_of_ZipB (by kernel_rfl) (by kernel_rfl)) (by kernel_rfl) (by kernel_rfl) (by kernel_rfl)
      (by rw [MakeChecks.laidMetH_plain _ _ _ (by kernel_rfl)]; exact laidMet_laidAll _ (by kernel_rfl) (by kernel_rfl))) ?_
  intro W base args ds gs before hval0 hW hcnd _ hSh
  have hval : ∀ (j : Nat) t v, Tryd.f3.params[j]? = some t → args[j]? = some v → Value.okWide Tryd.prog W .any base t v := hval0
  have hW' := hW
  obtain ⟨p, q, hA0, hV, rfl, hfz, hnd⟩ := hW
  have hA : DataW.TrodAll enc Tryd.prog W 0 (fun _ => true) true Tryd.f3.params.toList args.toList ds p := hA0
  rw [Tryd.params3] at hA hval
  obtain ⟨v0, vs0, d0, ds0, p0, q0, hargs, rfl, rfl, h0, r0⟩ := trodAll_cons hA
  obtain ⟨rfl, rfl, rfl⟩ := trodAll_nil r0
  obtain rfl : args = #[v0] := by cases args; simp_all
  obtain ⟨rfl, rfl⟩ := trodVars_none hV
  have k0 := h0
  have lt0 : ∀ x ∈ p0, x.block < W.heap.size := by obtain ⟨m, hm⟩ := k0; exact DataW.trod_lt m _ _ _ hm
  obtain ⟨a0, len0, cap0, rfl⟩ := okWide_slice Tryd.underlying22 (hval 0 22 v0 rfl rfl)
  obtain ⟨z0, w0⟩ : ∃ zs, IsRow .u8 W a0 len0 cap0 zs := by
    obtain ⟨fuel, hf⟩ := h0
    rcases open_ints Tryd.underlying22 Tryd.underlying5 (by kernel_rfl) hf with ⟨hcs, _⟩ | ⟨x, l, c, zs, hcs, _, hl, hm, hz, _, hcell, hwz⟩
    · simp [Value.cells] at hcs
      obtain ⟨rfl, rfl, rfl⟩ := hcs
      exact ⟨[], .inl ⟨rfl, rfl, rfl, rfl⟩⟩
    · simp [Value.cells] at hcs
      obtain ⟨rfl, rfl, rfl⟩ := hcs
      exact ⟨zs, .inr ⟨_, rfl, hl, hm, by simpa using hz, hcell, hwz⟩⟩
  have hmax : ∃ m, W.cell? ⟨0, 0, none⟩ = some (.int .i64 m) := cell_of_shapedOpen_int (zero := #[.int .i64 0]) (t := 3) hSh (of_decide_eq_true (by kernel_rfl)) (by kernel_rfl) rfl (by kernel_rfl) (by kernel_rfl) Tryd.underlying3
  clear hA0 hval0
  refine (walk a0 len0 cap0 z0 W hmax w0).mono fun e W' ⟨he, bel⟩ => ?_
  subst he
  exact ⟨_, rfl, _, _, _, [], _, [], hW', trodAll_mk1 (shut_bool Tryd.underlying4 _), (trodAll_cons_mk (Below.trod laidOut (by kernel_rfl) (of_decide_eq_true (by kernel_rfl)) k0 bel lt0) trodAll_mk0), rfl, bel.frame _, fun h => by cases h⟩

theorem over : Rows.fnCombineRow.holds Tryd.pinned (OpenSpec.ofChange Rows.fnCombineSpec) :=
  OpenClaim.holds_of_wide 3 Tryd.f3 rfl rfl rfl rfl rfl rfl rfl ⟨rfl, rfl, rfl, rfl, rfl⟩ rfl rfl rfl rfl rfl (by kernel_rfl) Tryd.func3 (by kernel_rfl)
    (of_decide_eq_true (by kernel_rfl)) (by unfold Func.isWrapper; first | (rw [if_pos (by decide +kernel)]; kernel_rfl) | (rw [if_neg (by decide +kernel)]; exact ⟨rfl, rfl⟩))
    (fun os started H enc _ => lifted os started H enc)

theorem card_holds : Rows.FnCombineCardSaid :=
  Claim7.holds_tied_plain_at .later [] [.data, .pinned] true (true, "5ec44ec4404d17d2edc3c31f9f21e73047a7fc5ba9912bb62e2aed529af57d8f") false
    over (fun _ h => by cases h) (by kernel_rfl) (fun _ h => by cases h) fnCombine_row_tie rfl ⟨rfl, rfl⟩ (by kernel_rfl) rfl
    (fun f fn hf hfn => by
      obtain rfl : f = 3 := Option.some.inj ((show Tryd.prog.funcNamed "loop.example/spreadspectrum/laws.FnCombine" = some 3 by kernel_rfl).symm.trans hf) |>.symm
      obtain rfl : fn = Tryd.f3 := (Option.some.inj (Tryd.func3.symm.trans hfn)).symm
      exact ⟨by kernel_rfl, fun j t ht => by
        rw [Tryd.params3] at ht
        have hm : t ∈ ([22] : List TypeId) := by simpa using Array.mem_of_getElem? ht
        have hall : (([22] : List TypeId).all fun u => !Tryd.prog.wantsStandIn u) = true := by kernel_rfl
        exact (show Tryd.prog.wantsStandIn t = false by simpa using List.all_eq_true.1 hall t hm)⟩)
    (by kernel_rfl)
#print axioms card_holds
end Go.Proofs.YtklbdkbaldkkpaaDoor.fnCombine
