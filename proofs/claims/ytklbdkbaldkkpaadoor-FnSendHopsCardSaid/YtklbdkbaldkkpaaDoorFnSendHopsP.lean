/- The law FnSendHops holds for every input that the given row lets in: the program's answer is the reference's. No condition of its own. -/
import Derived.Test.YtklbdkbaldkkpaaDoorRows
import Derived.WalkKit
import Derived.ProofKit
import Derived.OpenShut
import Derived.ShutString
import Derived.ChangeOld
import Derived.Below
import Derived.Lib.SmallJoins
import Derived.LaidMore
import Derived.Lay
import Derived.Stop.Joined
import Derived.SevenTiedAt
import Derived.Shelf.Vars
import Derived.Test.YtklbdkbaldkkpaaDoorCards
import Derived.Test.YtklbdkbaldkkpaaDoorTie
import Derived.Test.YtklbdkbaldkkpaaDoorEc
import Derived.Test.YtklbdkbaldkkpaaDoorEe
import Derived.Test.YtklbdkbaldkkpaaDoorLw
namespace Go.Proofs.YtklbdkbaldkkpaaDoor.fnSendHops
open Go.ChangeShapes Go.WideShapes Go.ChangeAt Go.RowKit
open Go.ChangeMaps (open_string shut_string)
set_option linter.unusedVariables false

theorem own : ownKnob Tryd.prog.godebug = none := by kernel_rfl
theorem laidOut : laidOutB Tryd.prog = true := by kernel_rfl

/-- A slice of integers that came in: nil, or a row of 'cap' cells that hold the numbers zs. -/
def IsRow (k : IntKind) (w : World) (a : Option Addr) (len cap : Nat) (zs : List Int) : Prop :=
  (a = none ∧ len = 0 ∧ cap = 0 ∧ zs = []) ∨
  ∃ x, a = some x ∧ len ≤ cap ∧ cap ≤ maxLen ∧ zs.length = cap ∧ (∀ i, i < zs.length → w.cell? (x.add i) = some (.int k (zs.getD i 0))) ∧ ∀ n ∈ zs, (Lit.int k n).wf = true

theorem codes_range {s : ByteArray} {x : Int} (h : x ∈ codes s) : 0 ≤ x ∧ x < 256 := by
  unfold codes at h
  obtain ⟨b, _, rfl⟩ := List.mem_map.1 h
  have := b.toNat_lt
  omega
theorem cd_send {s : ByteArray} {l j : List Int} {i : Nat} (h : i < s.size) : cd (sendT s l j 0) i = if gone l j 0 i = true then 63 else cd s i := by
  unfold cd sendT
  rw [codes_text]
  · have hl : i < (sendL s l j 0).length := by rw [sendL_length]; exact h
    rw [List.getD_eq_getElem?_getD, List.getElem?_eq_getElem hl, Option.getD_some, sendL_get h]
  · intro x hx
    obtain ⟨k, hk, rfl⟩ := List.getElem_of_mem hx
    rw [sendL_get (by rw [sendL_length] at hk; exact hk)]
    split
    · omega
    · rw [List.getD_eq_getElem?_getD, List.getElem?_eq_getElem (by rw [sendL_length] at hk; rw [codes_length]; exact hk), Option.getD_some]
      exact codes_range (List.getElem_mem _)
theorem send_size (s : ByteArray) (l j : List Int) : (sendT s l j 0).size = s.size := by
  unfold sendT; rw [text_size, sendL_length]
theorem bits_cd {s : ByteArray} (h : bitsB s = true) {i : Nat} (hi : i < s.size) : cd s i = 48 ∨ cd s i = 49 := by
  unfold bitsB allS at h
  rw [Bool.and_eq_true, List.all_eq_true] at h
  have := h.2 s[i] (by rw [← Array.mem_def]; exact ByteArray.getElem_eq_getElem_data (h := hi) ▸ Array.getElem_mem _)
  rw [cd_eq hi]
  simp [bitC] at this
  omega
theorem bits_copy {s : ByteArray} (h : bitsB s = true) : copyB s = true := by
  rw [copyB_iff]
  exact ⟨bitsB_600 h, fun i hi => by rcases bits_cd h hi with e | e <;> omega⟩
theorem send_copy {s : ByteArray} (l j : List Int) (h : bitsB s = true) : copyB (sendT s l j 0) = true := by
  rw [copyB_iff, send_size]
  refine ⟨bitsB_600 h, fun i hi => ?_⟩
  rw [cd_send hi]
  split
  · omega
  · rcases bits_cd h hi with e | e <;> omega
theorem send_comb {s : ByteArray} (l j : List Int) (h : bitsB s = true) : combR [sendT s l j 0, s] = some s := by
  apply combR_if
  refine ⟨by simp, by simp, fun u hu => ?_, fun i hi u hu => ?_, fun i hi => ⟨s, by simp, rfl⟩⟩
  · rcases List.mem_cons.1 hu with rfl | hu
    · exact ⟨send_copy l j h, send_size s l j⟩
    · obtain rfl := List.mem_singleton.1 hu; exact ⟨bits_copy h, rfl⟩
  · rcases List.mem_cons.1 hu with rfl | hu
    · rw [cd_send hi]; split
      · exact .inl rfl
      · exact .inr rfl
    · obtain rfl := List.mem_singleton.1 hu; exact .inr rfl
set_option maxRecDepth 100000
set_option maxHeartbeats 4000000 in
theorem walk (a0 : Option Addr) (len0 cap0 : Nat) (z0 : List Int) (w : World) (hmax : ∃ m, w.cell? ⟨0, 0, none⟩ = some (.int .i64 m)) (w0 : IsRow .u8 w a0 len0 cap0 z0) :
    Calls Tryd.prog 5 #[.slice a0 len0 cap0] w fun e w' => e = .returned (.bool true) ∧ Below w.heap.size w w' := by
  have hm : MaxOk w := hmax
  by_cases hn : len0 ≤ 1048576
  · have hC := codeW_of_row w0 (by omega)
    clear w0 hmax
    go_enter Tryd.func5, Tryd.ntmps5
    go_wp2_with fail
    refine (DrawSendHops_c hC).mono ?_; rintro e w1 ⟨s, a1, n1, c1, l, a2, n2, c2, j, rfl, hs, hL, h301, hJ, h17, hb1⟩
    have hm1 := hm.below hb1
    clear hC hm
    by_cases hr : readyB s l j = true
    · have HT := Lib.hid (show sendR s l j = some (sendT s l j 0) by unfold sendR; rw [if_pos hr])
      unfold readyB at hr
      rw [Bool.and_eq_true, Bool.and_eq_true, Bool.and_eq_true, decide_eq_true_eq] at hr
      obtain ⟨⟨⟨hbits, _⟩, hl0⟩, _⟩ := hr
      have HCO := Lib.hid (send_comb l j hbits)
      have HLO := Lib.hid (lostR_yes (send_copy l j hbits))
      have HBI := Lib.hid (fun (i : Nat) (hi : i < s.size) => bits_cd hbits hi)
      have HCD := Lib.hid (fun (i : Nat) (hi : i < s.size) => cd_send (l := l) (j := j) hi)
      have hts := send_size s l j
      obtain ⟨t, ht⟩ : ∃ t, t = sendT s l j 0 := ⟨_, rfl⟩
      rw [← ht] at HT HCO HLO HCD hts
      clear ht hbits
      have hnl := hL.1.1
      have hn0 : 0 < n1 := by omega
      have HNL := Lib.hid hnl
      have hmne : ((n1 : Int) == 0) = false := by simp; omega
      clear hnl hl0
      go_wp2_with fail
      refine (SendHops_c s hL.1 hJ.1).mono ?_; rintro e w2 ⟨rfl, hb2⟩
      have hm2 := hm1.below hb2
      have hL2 := hL.1.below hb2
      have hJ2 := hJ.1.below hb2
      have hbA := hb1.trans (hb2.mono hb1.size)
      clear hm1 hb1 hb2 hL hJ
      rw [HT.out]
      simp only [Option.getD_some, Option.isSome_some]
      go_wp2_with fail
      refine (sSendHops_c s hL2 hJ2 (by omega)).mono ?_; rintro e w3 ⟨rfl, hb3⟩
      have hm3 := hm2.below hb3
      have hL3 := hL2.below hb3
      have hJ3 := hJ2.below hb3
      have hbB := hbA.trans (hb3.mono hbA.size)
      clear hm2 hbA hb3 hL2 hJ2
      rw [HT.out]
      simp only [Option.getD_some, Option.isSome_some]
      go_wp2_with fail
      go_loopw [10, 11] (fun q i wr => ∃ k : Nat, k ≤ s.size ∧ i = .int .i64 k ∧ q = .int .i64 (lostK t k) ∧ Qw w3 wr) (fun _ i _ => s.size - (intOf i).toNat)
      case atStart => exact ⟨0, Nat.zero_le _, rfl, rfl, Qw.refl _⟩
      case round =>
        obtain ⟨k, hk, rfl, rfl, hq⟩ := hrel
        obtain ⟨wo, hwo⟩ : ∃ wo : World, wo = wr := ⟨_, rfl⟩
        subst hwo
        have hle := lostK_le t k
        by_cases hlt : k < s.size
        · obtain ⟨g, hg⟩ : ∃ g, g = k % n1 := ⟨_, rfl⟩
          have hgm : g < n1 := by rw [hg]; exact Nat.mod_lt _ hn0
          obtain ⟨b1, o1, rfl, hl1, hc1⟩ := (hL3.qw hq).at hgm
          have hRj := hJ3.qw hq
          have HB := Lib.hid (show gone l j 0 k = hasB j l[g] by unfold gone; rw [Nat.zero_add, ← HNL.out, ← hg]; simp [List.getD, hl1])
          have hw1 : ((k : Int)).tmod (n1 : Int) = (g : Int) := by rw [hg]; rfl
          have hw2 : ((k : Int)) % (n1 : Int) = (g : Int) := by rw [hg]; rfl
          have hkt : k < t.size := by omega
          have HC := Lib.hid (HCD.out k hlt)
          have HBk := Lib.hid (HBI.out k hlt)
          clear hg
          by_cases hj : hasB j l[g] = true
          · have h63 : (t[k].toNat : Int) = 63 := by rw [← cd_eq hkt, HC.out, if_pos (HB.out.trans hj)]
            have h63b : ((t[k].toNat : Int) == 63) = true := by rw [h63]; rfl
            have HS := Lib.hid (lostK_yes hkt h63b)
            clear h63
            go_wp2_with fail
            refine (ssHas_c _ hRj).mono ?_; rintro e w' ⟨rfl, rfl⟩
            rw [hj]
            clear hw1 hw2
            go_wp2_with fail
            go_quiet (fail)
            go_wp2_with fail
            go_roundw
            case rel => exact ⟨k + 1, by omega, by go_num, by rw [HS.out]; go_num, hq.trans (Qw.drewN _ _)⟩
            case measure => simp [intOf]; omega
          · have hj' : hasB j l[g] = false := by simpa using hj
            have hsame : (t[k].toNat : Int) = (s[k].toNat : Int) := by rw [← cd_eq hkt, HC.out, if_neg (by rw [HB.out, hj']; decide), cd_eq hlt]
            have h63b : ((t[k].toNat : Int) == 63) = false := by
              rw [hsame, ← cd_eq hlt, beq_eq_false_iff_ne]
              rcases HBk.out with e | e <;> omega
            have hsb : ((t[k].toNat : Int) != (s[k].toNat : Int)) = false := by rw [hsame]; simp
            have HS := Lib.hid (lostK_no hkt h63b)
            clear hsame hj
            go_wp2_with fail
            refine (ssHas_c _ hRj).mono ?_; rintro e w' ⟨rfl, rfl⟩
            rw [hj']
            clear hw1 hw2
            go_wp2_with fail
            go_quiet (fail)
            go_wp2_with fail
            go_roundw
            case rel => exact ⟨k + 1, by omega, by go_num, by rw [HS.out], hq.trans (Qw.drewN _ _)⟩
            case measure => simp [intOf]; omega
        · obtain rfl : k = s.size := by omega
          have hm4 := hm3.qw hq
          have hb4 := hbB.trans ((hq.below w3.heap.size).mono hbB.size)
          have hbl : Below wo.heap.size wo (wo.alloc (.cells #[.string t, .string s] 9)) := (Below.refl _ _).alloc (Nat.le_refl _) _
          have hrd := rdS_lit wo [t, s] 9 wo.heap.size 2 rfl rfl (by simp)
          have hm5 := hm4.below hbl
          have hb5 := hb4.trans (hbl.mono hb4.size)
          have HLA := Lib.hid (show lostN t = lostK t s.size by rw [← lostK_all, hts])
          clear hm3 hm4 hbB hq hbl hb4
          go_wp2_with fail
          refine (CombineCopies_c hrd hm5 (fun u hu => by
            rcases List.mem_cons.1 hu with rfl | hu
            · omega
            · rw [List.mem_singleton.1 hu]; omega)).mono ?_; rintro e w5 ⟨rfl, hb6⟩
          have hm6 := hm5.below hb6
          have hb7 := hb5.trans (hb6.mono hb5.size)
          clear hm5 hb5 hb6 hrd
          rw [HCO.out]
          simp only [Option.getD_some, Option.isSome_some]
          go_wp2_with fail
          refine (LostBits_c t _ hm6 (by omega)).mono ?_; rintro e w6 ⟨rfl, hb8⟩
          rw [HLO.out, HLA.out]
          go_wp2_with fail
          go_ret
          exact ⟨by simp, hb7.trans (hb8.mono hb7.size)⟩
    · have HT := Lib.hid (show sendR s l j = none by unfold sendR; rw [if_neg hr])
      clear hr
      go_wp2_with fail
      refine (SendHops_c s hL.1 hJ.1).mono ?_; rintro e w2 ⟨rfl, hb2⟩
      have hL2 := hL.1.below hb2
      have hJ2 := hJ.1.below hb2
      have hbA := hb1.trans (hb2.mono hb1.size)
      rw [HT.out]
      simp only [Option.getD_none, Option.isSome_none]
      go_wp2_with fail
      refine (sSendHops_c s hL2 hJ2 (by omega)).mono ?_; rintro e w3 ⟨rfl, hb3⟩
      rw [HT.out]
      simp only [Option.getD_none, Option.isSome_none]
      go_wp2_with fail
      go_ret
      exact ⟨by simp, hbA.trans (hb3.mono hbA.size)⟩
  · clear w0 hmax
    go_enter Tryd.func5, Tryd.ntmps5
    go_wp2_with fail
    go_ret
    exact ⟨rfl, Below.refl _ _⟩

def laidL : List (String × DataW Unit) := [("unicode/utf8.acceptRanges", Rows.laid_unicode_utf8_acceptRanges), ("unicode/utf8.first", Rows.laid_unicode_utf8_first)]
theorem returns_door {H : Type} {enc : TypeId × Value → H} {a : Assume} {C : Checked} {os : Os} {f : FuncId} {fn : Func} {s : ChangeSpec} {conds : List PathCond} {apart fresh handsOn again : Bool} {X : World → Array Value → Prop}
    (hX : ∀ (w w' : World) (args : Array Value), w.heap = w'.heap → X w args → X w' args)
    (own : ownKnob C.prog.godebug = none) (started : os.Started) (noInit : C.prog.inits.idxOf? f = none) (hfn : C.prog.funcs[f]? = some fn)
    (witness : ∃ (w : World) (tape : Tape) (i : Input), w.os = os ∧ (w.forCall tape i).Shaped C.prog ∧ i.vars = [] ∧ Input.okWide C.prog (w.forCall tape i) .any w.heap.size f i ∧
      ((s.pre enc C.prog fn conds apart (w.forCall tape i).memory i.args ∧ X (w.forCall tape i).memory i.args) ∧ sizedMet enc C.prog fn (OpenSpec.ofChange s) apart (w.forCall tape i).memory i.args) ∧ a.holds C.prog (lone (Frame.enter C.prog f i.args .normal) [] (w.forCall tape i)))
    (contract : ∀ (W : World) (base : Nat) (args : Array Value) (ds gs : List (DataW H)) (before : List MemPlace),
      (∀ (j : Nat) t v, fn.params[j]? = some t → args[j]? = some v → Value.okWide C.prog W .any base t v) →
      DataW.Whole enc C.prog fn.params.toList s.vars apart W args.toList ds gs before →
      conds.all (PathCond.test C.prog ⟨fn.params.toList, ds, s.plain.varTypes C.prog, gs⟩) = true →
      X W args → W.ShapedOpen C.prog →
      Calls C.prog f args W fun e W' => ∃ v, e = .returned v ∧ s.post enc C.prog fn apart fresh handsOn again W args v W') :
    ReturnsInHanded a C os f .any (fun w args => (s.pre enc C.prog fn conds apart w args ∧ X w args) ∧ sizedMet enc C.prog fn (OpenSpec.ofChange s) apart w args) (s.post enc C.prog fn apart fresh handsOn again) := by
  refine returnsInHanded_of_calls own started noInit witness ?_
  intro w tape i _ hsh _ hok hpre hholds
  obtain ⟨_, _, _, fn', hfn', _, _, _, _, hval⟩ := hok
  have e : fn' = fn := Option.some.inj (hfn'.symm.trans hfn)
  subst e
  obtain ⟨⟨⟨ds, gs, before, hw, hc⟩, hx⟩, hz⟩ := hpre
  have hw' := DataW.Whole.of_heap (w' := w.forCall tape i) (by rfl) hw
  refine (contract (w.forCall tape i) w.heap.size i.args ds gs before hval hw' hc (hX _ _ _ (by rfl) hx) hsh).mono fun e W' ⟨v, he, hp⟩ => ?_
  subst he
  exact ChangeSpec.post_blind hp

set_option maxRecDepth 100000 in
theorem lifted (os : Os) (started : os.Started) (H : Type) (enc : TypeId × Value → H) :
    ReturnsInHanded {} Tryd.checked os 5 .any (fun w args => (Rows.fnSendHopsSpec.pre enc Tryd.prog Tryd.f5 [] false w args ∧ laidMetH Tryd.prog laidL w) ∧ sizedMet enc Tryd.prog Tryd.f5 (OpenSpec.ofChange Rows.fnSendHopsSpec) false w args)
      (Rows.fnSendHopsSpec.post enc Tryd.prog Tryd.f5 false true false false) := by
  refine returns_door (C := Tryd.checked) (X := fun w _ => laidMetH Tryd.prog laidL w) (fun _ _ _ hh h => h.of_heap hh) own started (by kernel_rfl) Tryd.func5
    (ChangeSpec.witness_shaped (enc := enc) (C := Tryd.checked) (os := os) (X := fun w _ => laidMetH Tryd.prog laidL w) false (World.laidAll Tryd.prog os laidL) #[.slice none 0 0] 8 (World.laidAll_os _ _ _)
      (World.shaped_of_ZipB (by kernel_rfl) (by kernel_rfl)) (by kernel_rfl) (by kernel_rfl) (by kernel_rfl)
      (by rw [MakeChecks.laidMetH_plain _ _ _ (by kernel_rfl)]; exact laidMet_laidAll _ (by kernel_rfl) (by kernel_rfl))) ?_
  intro W base args ds gs before hval0 hW hcnd _ hSh
  have hval : ∀ (j : Nat) t v, Tryd.f5.params[j]? = some t → args[j]? = some v → Value.okWide Tryd.prog W .any base t v := hval0
  have hW' := hW
  obtain ⟨p, q, hA0, hV, rfl, hfz, hnd⟩ := hW
  have hA : DataW.TrodAll enc Tryd.prog W 0 (fun _ => true) true Tryd.f5.params.toList args.toList ds p := hA0
  rw [Tryd.params5] at hA hval
  obtain ⟨v0, vs0, d0, ds0, p0, q0, hargs, rfl, rfl, h0, r0⟩ := trodAll_cons hA
  obtain ⟨rfl, rfl, rfl⟩ := trodAll_nil r0
  obtain rfl : args = #[v0] := by cases args; simp_all
  obtain ⟨rfl, rfl⟩ := trodVars_none hV
  have k0 := h0
  have lt0 : ∀ x ∈ p0, x.block < W.heap.size := by obtain ⟨m, hm⟩ := k0; exact DataW.trod_lt m _ _ _ hm
  obtain ⟨a0, len0, cap0, rfl⟩ := okWide_slice Tryd.underlying22 (hval 0 22 v0 rfl rfl)
  obtain ⟨z0, w0⟩ : ∃ zs, IsRow .u8 W a0 len0 cap0 zs := by
    obtain ⟨fuel, hf⟩ := h0
    rcases open_ints Tryd.underlying22 Tryd.underlying5 (by kernel_rfl) hf with ⟨hcs, _⟩ | ⟨x, l, c, zs, hcs, _, hl, hm, hz, _, hcell, hwz⟩
    · simp [Value.cells] at hcs
      obtain ⟨rfl, rfl, rfl⟩ := hcs
      exact ⟨[], .inl ⟨rfl, rfl, rfl, rfl⟩⟩
    · simp [Value.cells] at hcs
      obtain ⟨rfl, rfl, rfl⟩ := hcs
      exact ⟨zs, .inr ⟨_, rfl, hl, hm, by simpa using hz, hcell, hwz⟩⟩
  have hmax : ∃ m, W.cell? ⟨0, 0, none⟩ = some (.int .i64 m) := cell_of_shapedOpen_int (zero := #[.int .i64 0]) (t := 3) hSh (of_decide_eq_true (by kernel_rfl)) (by kernel_rfl) rfl (by kernel_rfl) (by kernel_rfl) Tryd.underlying3
  clear hA0 hval0
  refine (walk a0 len0 cap0 z0 W hmax w0).mono fun e W' ⟨he, bel⟩ => ?_
  subst he
  exact ⟨_, rfl, _, _, _, [], _, [], hW', trodAll_mk1 (shut_bool Tryd.underlying4 _), (trodAll_cons_mk (Below.trod laidOut (by kernel_rfl) (of_decide_eq_true (by kernel_rfl)) k0 bel lt0) trodAll_mk0), rfl, bel.frame _, fun h => by cases h⟩

theorem over : Rows.fnSendHopsRow.holds Tryd.pinned (OpenSpec.ofChange Rows.fnSendHopsSpec) :=
  OpenClaim.holds_of_wide 5 Tryd.f5 rfl rfl rfl rfl rfl rfl rfl ⟨rfl, rfl, rfl, rfl, rfl⟩ rfl rfl rfl rfl rfl (by kernel_rfl) Tryd.func5 (by kernel_rfl)
    (of_decide_eq_true (by kernel_rfl)) (by unfold Func.isWrapper; first | (rw [if_pos (by decide +kernel)]; kernel_rfl) | (rw [if_neg (by decide +kernel)]; exact ⟨rfl, rfl⟩))
    (fun os started H enc _ => lifted os started H enc)

theorem card_holds : Rows.FnSendHopsCardSaid :=
  Claim7.holds_tied_plain_at .later [] [.data, .pinned] true (true, "5ec44ec4404d17d2edc3c31f9f21e73047a7fc5ba9912bb62e2aed529af57d8f") false
    over (fun _ h => by cases h) (by kernel_rfl) (fun _ h => by cases h) fnSendHops_row_tie rfl ⟨rfl, rfl⟩ (by kernel_rfl) rfl
    (fun f fn hf hfn => by
      obtain rfl : f = 5 := Option.some.inj ((show Tryd.prog.funcNamed "loop.example/spreadspectrum/laws.FnSendHops" = some 5 by kernel_rfl).symm.trans hf) |>.symm
      obtain rfl : fn = Tryd.f5 := (Option.some.inj (Tryd.func5.symm.trans hfn)).symm
      exact ⟨by kernel_rfl, fun j t ht => by
        rw [Tryd.params5] at ht
        have hm : t ∈ ([22] : List TypeId) := by simpa using Array.mem_of_getElem? ht
        have hall : (([22] : List TypeId).all fun u => !Tryd.prog.wantsStandIn u) = true := by kernel_rfl
        exact (show Tryd.prog.wantsStandIn t = false by simpa using List.all_eq_true.1 hall t hm)⟩)
    (by kernel_rfl)
#print axioms card_holds
end Go.Proofs.YtklbdkbaldkkpaaDoor.fnSendHops
