/- The law FnCopies holds for every input that the given row lets in: the program's answer is the reference's. No condition of its own. -/
import Derived.Test.YtaoahgngpjoekaaDoorRows
import Derived.WalkKit
import Derived.ProofKit
import Derived.OpenShut
import Derived.ShutString
import Derived.ChangeOld
import Derived.Below
import Derived.Lib.SmallJoins
import Derived.LaidMore
import Derived.Lay
import Derived.Stop.Joined
import Derived.SevenTiedAt
import Derived.Shelf.Vars
import Derived.Test.YtaoahgngpjoekaaDoorCards
import Derived.Test.YtaoahgngpjoekaaDoorTie
import Derived.Test.YtaoahgngpjoekaaDoorEg
import Derived.Test.YtaoahgngpjoekaaDoorEh
import Derived.Test.YtaoahgngpjoekaaDoorLw
namespace Go.Proofs.YtaoahgngpjoekaaDoor.fnCopies
open Go.ChangeShapes Go.WideShapes Go.ChangeAt Go.RowKit
open Go.ChangeMaps (open_string shut_string)
set_option linter.unusedVariables false

theorem own : ownKnob Tryd.prog.godebug = none := by kernel_rfl
theorem laidOut : laidOutB Tryd.prog = true := by kernel_rfl

/-- A slice of integers that came in: nil, or a row of 'cap' cells that hold the numbers zs. -/
def IsRow (k : IntKind) (w : World) (a : Option Addr) (len cap : Nat) (zs : List Int) : Prop :=
  (a = none ∧ len = 0 ∧ cap = 0 ∧ zs = []) ∨
  ∃ x, a = some x ∧ len ≤ cap ∧ cap ≤ maxLen ∧ zs.length = cap ∧ (∀ i, i < zs.length → w.cell? (x.add i) = some (.int k (zs.getD i 0))) ∧ ∀ n ∈ zs, (Lit.int k n).wf = true

theorem rot_len2 {f : Nat} {l : List Int} (hf : f ≤ l.length) : (rotL f l).length = l.length := by
  unfold rotL; rw [List.length_append, List.length_drop, List.length_take]; omega
theorem hops_rot2 {f : Nat} {l : List Int} (h : hopsB l 16 = true) (hf : f ≤ l.length) : hopsB (rotL f l) 16 = true := by
  obtain ⟨h1, h2, h3⟩ := hopsB_ch h
  refine hopsB_mk (by omega) (by rw [rot_len2 hf]; exact h2) ?_
  unfold allB at *; rw [List.all_eq_true] at *
  intro x hx
  refine h3 x ?_
  unfold rotL at hx
  rcases List.mem_append.1 hx with h | h
  · exact List.mem_of_mem_drop h
  · exact List.mem_of_mem_take h
set_option maxRecDepth 100000
set_option maxHeartbeats 4000000 in
theorem walk (a0 : Option Addr) (len0 cap0 : Nat) (z0 : List Int) (w : World) (hmax : ∃ m, w.cell? ⟨0, 0, none⟩ = some (.int .i64 m)) (w0 : IsRow .u8 w a0 len0 cap0 z0) :
    Calls Tryd.prog 3 #[.slice a0 len0 cap0] w fun e w' => e = .returned (.bool true) ∧ Below w.heap.size w w' := by
  have hm : MaxOk w := hmax
  by_cases hn : len0 ≤ 1048576
  · have hC := codeW_of_row w0 (by omega)
    clear w0 hmax
    go_enter Tryd.func3, Tryd.ntmps3
    go_wp2_with fail
    refine (DrawCopiesNeeded_c hC).mono ?_; rintro e w1 ⟨s, a1, n1, c1, l, a2, n2, c2, j, m, rfl, hs, hL, h301, hJ, h17, hm0, hm17, hb1⟩
    have hm1 := hm.below hb1
    clear hC hm
    go_wp2_with fail
    refine (CopiesNeeded_c s m hL.1 hJ.1 hm1).mono ?_; rintro e w2 ⟨rfl, hb2⟩
    have hL2 := hL.below hb2
    have hJ2 := hJ.below hb2
    have hm2 := hm1.below hb2
    have hbA := hb1.trans (hb2.mono hb1.size)
    clear hL hJ hm1 hb1 hb2
    go_wp2_with fail
    refine (sCopiesNeeded_c s m hL2.1 hJ2.1 (by omega)).mono ?_; rintro e w3 ⟨rfl, hb3⟩
    have hL3 := hL2.below hb3
    have hJ3 := hJ2.below hb3
    have hm3 := hm2.below hb3
    have hbB := hbA.trans (hb3.mono hbA.size)
    clear hL2 hJ2 hm2 hbA hb3
    obtain ⟨N, hN⟩ : ∃ N, N = cpnR s l j m := ⟨_, rfl⟩
    rw [← hN]
    by_cases hr : readyB s l j = true
    · have HT := Lib.hid (show sendR s l j = some (sendT s l j 0) by unfold sendR; rw [if_pos hr])
      by_cases hi : inB m 1 16 = true
      · obtain ⟨M, rfl, hM1, hM16⟩ := inB_16 hi
        have hr0 := hr
        unfold readyB at hr0
        rw [Bool.and_eq_true, Bool.and_eq_true, Bool.and_eq_true, decide_eq_true_eq] at hr0
        obtain ⟨⟨⟨hbits, hhops⟩, hl0⟩, hjam⟩ := hr0
        have hN2 : N = cpnF s l j M 0 := by rw [hN, cpnR_yes hr hi]; rfl
        have HLAW := Lib.hid (fun (k : Nat) (hk : k < M) => copies_law (l := l) (j := j) hbits hM16 hk)
        rw [← hN2] at HLAW
        have HSOME := Lib.hid (fun (k : Nat) (h1 : 1 ≤ k) (h2 : k ≤ 16) => cp_some (l := l) (j := j) hbits h1 h2)
        have HROT := Lib.hid (fun (f : Nat) => send_rot (s := s) (j := j) f hl0)
        have HSH := Lib.hid (fun (f : Nat) => show shiftHops l ((f : Nat) : Int) = some (rotL (f % l.length) l) by rw [shiftHops_yes hhops hl0]; rfl)
        have HRD := Lib.hid (fun (f : Nat) => readyB_y (s := s) (j := j) hbits (hops_rot2 hhops (Nat.le_of_lt (Nat.mod_lt f hl0))) (by rw [rot_len2 (Nat.le_of_lt (Nat.mod_lt f hl0))]; exact hl0) hjam)
        have hNL := hL3.1.1
        have hn1 : (0 : Int) < (n1 : Int) := by omega
        have h600 := bitsB_600 hbits
        clear hr hi hN hN2 hbits hhops hl0 hjam hNL
        go_wp2_with fail
        refine (SendHops_c s hL3.1 hJ3.1).mono ?_; rintro e w4 ⟨rfl, hb4⟩
        have hL4 := hL3.below hb4
        have hJ4 := hJ3.below hb4
        have hm4 := hm3.below hb4
        have hbC := hbB.trans (hb4.mono hbB.size)
        clear hL3 hJ3 hm3 hbB hb4
        rw [HT.out]
        simp only [Option.getD_some, Option.isSome_some]
        have hov : OwnVT (w4.alloc (.cells #[] 9)) w4.heap.size (.slice (some ⟨w4.heap.size, 0, none⟩) 0 0) [] := OwnVF.made0 _ _ w4 (Nat.le_refl _)
        have hb5 : Below w4.heap.size w4 (w4.alloc (.cells #[] 9)) := (Below.refl _ _).alloc (Nat.le_refl _) _
        go_wp2_with fail
        go_loopw [10, 11] (fun v i wr => ∃ k : Nat, k ≤ M ∧ i = .int .i64 k ∧ OwnVT wr w4.heap.size v (cpL s l j k) ∧ Below w4.heap.size w4 wr) (fun _ i _ => M - (intOf i).toNat)
        case atStart => exact ⟨0, Nat.zero_le _, rfl, hov, hb5⟩
        case round =>
          clear hov hb5
          obtain ⟨k, hk, rfl, ho, hb⟩ := hrel
          by_cases hlt : k < M
          · obtain ⟨P, hP⟩ : ∃ P, P = k * s.size := ⟨_, rfl⟩
            have hPl : P ≤ 9600 := by
              rw [hP]; exact Nat.le_trans (Nat.mul_le_mul (show k ≤ 16 by omega) h600) (by decide)
            have hPI : (k : Int) * (s.size : Int) = (P : Int) := by rw [hP, Int.natCast_mul]
            have hw1 : IntKind.i64.wrap ((k : Int) * (s.size : Int)) = (P : Int) := by rw [hPI]; exact IntWalk.i64_in _ (by omega)
            have hw2 : wrap64 ((k : Int) * (s.size : Int)) = (P : Int) := by rw [hPI]; exact IntWalk.wrap64_in _ (by omega)
            have HP := Lib.hid hP
            have HL := Lib.hid (cpL_succ s l j k)
            have hLN := cpL_length s l j k
            have hzr := hb.size
            have hL5 := hL4.below hb
            have hJ5 := hJ4.below hb
            clear hP hPI
            go_wp2_with fail
            refine (ShiftHops_c (P : Int) hL5.1 hL5.2.1).mono ?_; rintro e w5 hret
            rw [HSH.out] at hret
            obtain ⟨a5, n5, c5, rfl, hx5, hb5⟩ := hret
            have ho5 := ho.below hb5
            have hJ6 := hJ5.below hb5
            have hbD := hb.trans (hb5.mono hzr)
            have hrx := hx5.rd
            clear ho hb hb5 hL5 hJ5 hx5 hw1 hw2
            simp only [Option.getD_some] at hrx
            go_wp2_with fail
            refine (SendHops_c s hrx hJ6.1).mono ?_; rintro e w6 ⟨rfl, hb6⟩
            have ho6 := ho5.below hb6
            have hbE := hbD.trans (hb6.mono hbD.size)
            clear ho5 hbD hb6 hJ6 hrx
            rw [HRD.out, HROT.out, HP.out]
            simp only [Option.getD_some, Option.isSome_some]
            have hzE := hbE.size
            go_wp2_with (at_builtin; refine wp_app1F 29 9 16 ByteArray.empty Tryd.underlying29 info_str rfl (by decide) (fun _ => rfl) w6 rfl _ _ rfl w4.heap.size _ _ _ rfl (by exact ho6) rfl (by omega) hzE ?_; intro v' w7 ho7 _ hb7)
            rw [← HL.out] at ho7
            have hbF := hbE.trans hb7
            have hm7 := hm4.below hbF
            obtain ⟨a7, n7, c7, hv7, ho8⟩ := ho7.own (by rw [cpL_length]; omega)
            subst hv7
            clear hbE hb7 ho6
            go_wp2_with fail
            refine (CombineCopies_c ho8.rd hm7 (fun u hu => Nat.le_trans (cpL_small s l j _ u hu) (by omega))).mono ?_; rintro e w8 ⟨rfl, hb8⟩
            have ho9 := ho7.below hb8
            have hbG := hbF.trans (hb8.mono hbF.size)
            have hm8 := hm4.below hbG
            clear ho7 ho8 hbF hb8 hm7
            rw [HSOME.out (k + 1) (by omega) (by omega)]
            simp only [Option.getD_some, Option.isSome_some]
            have HK := Lib.hid (HLAW.out k hlt)
            have hsu := cpAll_size s l j (k + 1)
            generalize cpAll s l j (k + 1) = u at *
            by_cases hN0 : (0 : Int) < N
            · by_cases hN1 : N ≤ (k : Int) + 1
              · have h0 : (lostR u == 0) = true := by rw [HK.out, decide_eq_true hN0, decide_eq_true hN1]; rfl
                go_wp2_with fail
                refine (LostBits_c u _ hm8 (by omega)).mono ?_; rintro e w9 ⟨rfl, hb9⟩
                have hoA := ho9.below hb9
                have hbH := hbG.trans (hb9.mono hbG.size)
                clear ho9 hbG hb9 hm8
                go_wp2_with fail
                go_roundw
                case rel => exact ⟨k + 1, by omega, by go_num, hoA, hbH⟩
                case measure => simp [intOf]; omega
              · have h0 : (lostR u == 0) = false := by rw [HK.out, decide_eq_true hN0, decide_eq_false hN1]; rfl
                go_wp2_with fail
                refine (LostBits_c u _ hm8 (by omega)).mono ?_; rintro e w9 ⟨rfl, hb9⟩
                have hoA := ho9.below hb9
                have hbH := hbG.trans (hb9.mono hbG.size)
                clear ho9 hbG hb9 hm8
                go_wp2_with fail
                go_roundw
                case rel => exact ⟨k + 1, by omega, by go_num, hoA, hbH⟩
                case measure => simp [intOf]; omega
            · have h0 : (lostR u == 0) = false := by rw [HK.out, decide_eq_false hN0]; rfl
              go_wp2_with fail
              refine (LostBits_c u _ hm8 (by omega)).mono ?_; rintro e w9 ⟨rfl, hb9⟩
              have hoA := ho9.below hb9
              have hbH := hbG.trans (hb9.mono hbG.size)
              clear ho9 hbG hb9 hm8
              go_wp2_with fail
              go_roundw
              case rel => exact ⟨k + 1, by omega, by go_num, hoA, hbH⟩
              case measure => simp [intOf]; omega
          · obtain rfl : k = M := by omega
            go_wp2_with fail
            go_ret
            exact ⟨rfl, hbC.trans (hb.mono hbC.size)⟩
      · have hi' : inB m 1 16 = false := by simpa using hi
        have hN2 : N = -1 := by rw [hN, cpnR_no2 hi']
        unfold inB at hi'
        subst hN2
        clear hN hi
        go_wp2_with fail
        refine (SendHops_c s hL3.1 hJ3.1).mono ?_; rintro e w4 ⟨rfl, hb4⟩
        have hbC := hbB.trans (hb4.mono hbB.size)
        rw [HT.out]
        simp only [Option.getD_some, Option.isSome_some]
        by_cases g1 : m < 1
        · go_wp2_with fail
          go_ret
          exact ⟨rfl, hbC⟩
        · have g2 : (16 : Int) < m := by
            rw [decide_eq_true (by omega : (1 : Int) ≤ m), Bool.true_and, decide_eq_false_iff_not] at hi'
            omega
          go_wp2_with fail
          go_ret
          exact ⟨rfl, hbC⟩
    · have hr' : readyB s l j = false := by simpa using hr
      have HT := Lib.hid (show sendR s l j = none by unfold sendR; rw [if_neg hr])
      have hN2 : N = -1 := by rw [hN, cpnR_no1 hr']
      subst hN2
      clear hN hr hr'
      go_wp2_with fail
      refine (SendHops_c s hL3.1 hJ3.1).mono ?_; rintro e w4 ⟨rfl, hb4⟩
      have hbC := hbB.trans (hb4.mono hbB.size)
      rw [HT.out]
      simp only [Option.getD_none, Option.isSome_none]
      go_wp2_with fail
      go_ret
      exact ⟨rfl, hbC⟩
  · clear w0 hmax
    go_enter Tryd.func3, Tryd.ntmps3
    go_wp2_with fail
    go_ret
    exact ⟨rfl, Below.refl _ _⟩

def laidL : List (String × DataW Unit) := [("unicode/utf8.acceptRanges", Rows.laid_unicode_utf8_acceptRanges), ("unicode/utf8.first", Rows.laid_unicode_utf8_first)]
theorem returns_door {H : Type} {enc : TypeId × Value → H} {a : Assume} {C : Checked} {os : Os} {f : FuncId} {fn : Func} {s : ChangeSpec} {conds : List PathCond} {apart fresh handsOn again : Bool} {X : World → Array Value → Prop}
    (hX : ∀ (w w' : World) (args : Array Value), w.heap = w'.heap → X w args → X w' args)
    (own : ownKnob C.prog.godebug = none) (started : os.Started) (noInit : C.prog.inits.idxOf? f = none) (hfn : C.prog.funcs[f]? = some fn)
    (witness : ∃ (w : World) (tape : Tape) (i : Input), w.os = os ∧ (w.forCall tape i).Shaped C.prog ∧ i.vars = [] ∧ Input.okWide C.prog (w.forCall tape i) .any w.heap.size f i ∧
      ((s.pre enc C.prog fn conds apart (w.forCall tape i).memory i.args ∧ X (w.forCall tape i).memory i.args) ∧ sizedMet enc C.prog fn (OpenSpec.ofChange s) apart (w.forCall tape i).memory i.args) ∧ a.holds C.prog (lone (Frame.enter C.prog f i.args .normal) [] (w.forCall tape i)))
    (contract : ∀ (W : World) (base : Nat) (args : Array Value) (ds gs : List (DataW H)) (before : List MemPlace),
      (∀ (j : Nat) t v, fn.params[j]? = some t → args[j]? = some v → Value.okWide C.prog W .any base t v) →
      DataW.Whole enc C.prog fn.params.toList s.vars apart W args.toList ds gs before →
      conds.all (PathCond.test C.prog ⟨fn.params.toList, ds, s.plain.varTypes C.prog, gs⟩) = true →
      X W args → W.ShapedOpen C.prog →
      Calls C.prog f args W fun e W' => ∃ v, e = .returned v ∧ s.post enc C.prog fn apart fresh handsOn again W args v W') :
    ReturnsInHanded a C os f .any (fun w args => (s.pre enc C.prog fn conds apart w args ∧ X w args) ∧ sizedMet enc C.prog fn (OpenSpec.ofChange s) apart w args) (s.post enc C.prog fn apart fresh handsOn again) := by
  refine returnsInHanded_of_calls own started noInit witness ?_
  intro w tape i _ hsh _ hok hpre hholds
  obtain ⟨_, _, _, fn', hfn', _, _, _, _, hval⟩ := hok
  have e : fn' = fn := Option.some.inj (hfn'.symm.trans hfn)
  subst e
  obtain ⟨⟨⟨ds, gs, before, hw, hc⟩, hx⟩, hz⟩ := hpre
  have hw' := DataW.Whole.of_heap (w' := w.forCall tape i) (by rfl) hw
  refine (contract (w.forCall tape i) w.heap.size i.args ds gs before hval hw' hc (hX _ _ _ (by rfl) hx) hsh).mono fun e W' ⟨v, he, hp⟩ => ?_
  subst he
  exact ChangeSpec.post_blind hp

set_option maxRecDepth 100000 in
theorem lifted (os : Os) (started : os.Started) (H : Type) (enc : TypeId × Value → H) :
    ReturnsInHanded {} Tryd.checked os 3 .any (fun w args => (Rows.fnCopiesSpec.pre enc Tryd.prog Tryd.f3 [] false w args ∧ laidMetH Tryd.prog laidL w) ∧ sizedMet enc Tryd.prog Tryd.f3 (OpenSpec.ofChange Rows.fnCopiesSpec) false w args)
      (Rows.fnCopiesSpec.post enc Tryd.prog Tryd.f3 false true false false) := by
  refine returns_door (C := Tryd.checked) (X := fun w _ => laidMetH Tryd.prog laidL w) (fun _ _ _ hh h => h.of_heap hh) own started (by kernel_rfl) Tryd.func3
    (ChangeSpec.witness_shaped (enc := enc) (C := Tryd.checked) (os := os) (X := fun w _ => laidMetH Tryd.prog laidL w) false (World.laidAll Tryd.prog os laidL) #[.slice none 0 0] 8 (World.laidAll_os _ _ _)
      (World.shaped_of_ZipB (by kernel_rfl) (by kernel_rfl)) (by kernel_rfl) (by kernel_rfl) (by kernel_rfl)
      (by rw [MakeChecks.laidMetH_plain _ _ _ (by kernel_rfl)]; exact laidMet_laidAll _ (by kernel_rfl) (by kernel_rfl))) ?_
  intro W base args ds gs before hval0 hW hcnd _ hSh
  have hval : ∀ (j : Nat) t v, Tryd.f3.params[j]? = some t → args[j]? = some v → Value.okWide Tryd.prog W .any base t v := hval0
  have hW' := hW
  obtain ⟨p, q, hA0, hV, rfl, hfz, hnd⟩ := hW
  have hA : DataW.TrodAll enc Tryd.prog W 0 (fun _ => true) true Tryd.f3.params.toList args.toList ds p := hA0
  rw [Tryd.params3] at hA hval
  obtain ⟨v0, vs0, d0, ds0, p0, q0, hargs, rfl, rfl, h0, r0⟩ := trodAll_cons hA
  obtain ⟨rfl, rfl, rfl⟩ := trodAll_nil r0
  obtain rfl : args = #[v0] := by cases args; simp_all
  obtain ⟨rfl, rfl⟩ := trodVars_none hV
  have k0 := h0
  have lt0 : ∀ x ∈ p0, x.block < W.heap.size := by obtain ⟨m, hm⟩ := k0; exact DataW.trod_lt m _ _ _ hm
  obtain ⟨a0, len0, cap0, rfl⟩ := okWide_slice Tryd.underlying22 (hval 0 22 v0 rfl rfl)
  obtain ⟨z0, w0⟩ : ∃ zs, IsRow .u8 W a0 len0 cap0 zs := by
    obtain ⟨fuel, hf⟩ := h0
    rcases open_ints Tryd.underlying22 Tryd.underlying5 (by kernel_rfl) hf with ⟨hcs, _⟩ | ⟨x, l, c, zs, hcs, _, hl, hm, hz, _, hcell, hwz⟩
    · simp [Value.cells] at hcs
      obtain ⟨rfl, rfl, rfl⟩ := hcs
      exact ⟨[], .inl ⟨rfl, rfl, rfl, rfl⟩⟩
    · simp [Value.cells] at hcs
      obtain ⟨rfl, rfl, rfl⟩ := hcs
      exact ⟨zs, .inr ⟨_, rfl, hl, hm, by simpa using hz, hcell, hwz⟩⟩
  have hmax : ∃ m, W.cell? ⟨0, 0, none⟩ = some (.int .i64 m) := cell_of_shapedOpen_int (zero := #[.int .i64 0]) (t := 3) hSh (of_decide_eq_true (by kernel_rfl)) (by kernel_rfl) rfl (by kernel_rfl) (by kernel_rfl) Tryd.underlying3
  clear hA0 hval0
  refine (walk a0 len0 cap0 z0 W hmax w0).mono fun e W' ⟨he, bel⟩ => ?_
  subst he
  exact ⟨_, rfl, _, _, _, [], _, [], hW', trodAll_mk1 (shut_bool Tryd.underlying4 _), (trodAll_cons_mk (Below.trod laidOut (by kernel_rfl) (of_decide_eq_true (by kernel_rfl)) k0 bel lt0) trodAll_mk0), rfl, bel.frame _, fun h => by cases h⟩

theorem over : Rows.fnCopiesRow.holds Tryd.pinned (OpenSpec.ofChange Rows.fnCopiesSpec) :=
  OpenClaim.holds_of_wide 3 Tryd.f3 rfl rfl rfl rfl rfl rfl rfl ⟨rfl, rfl, rfl, rfl, rfl⟩ rfl rfl rfl rfl rfl (by kernel_rfl) Tryd.func3 (by kernel_rfl)
    (of_decide_eq_true (by kernel_rfl)) (by unfold Func.isWrapper; first | (rw [if_pos (by decide +kernel)]; kernel_rfl) | (rw [if_neg (by decide +kernel)]; exact ⟨rfl, rfl⟩))
    (fun os started H enc _ => lifted os started H enc)

theorem card_holds : Rows.FnCopiesCardSaid :=
  Claim7.holds_tied_plain_at .later [] [.data, .pinned] true (true, "ebca70dd99ecff749f82673dcd7af0163c6eebd433eab7b2e080cea343af49de") false
    over (fun _ h => by cases h) (by kernel_rfl) (fun _ h => by cases h) fnCopies_row_tie rfl ⟨rfl, rfl⟩ (by kernel_rfl) rfl
    (fun f fn hf hfn => by
      obtain rfl : f = 3 := Option.some.inj ((show Tryd.prog.funcNamed "loop.example/spreadspectrum/laws.FnCopies" = some 3 by kernel_rfl).symm.trans hf) |>.symm
      obtain rfl : fn = Tryd.f3 := (Option.some.inj (Tryd.func3.symm.trans hfn)).symm
      exact ⟨by kernel_rfl, fun j t ht => by
        rw [Tryd.params3] at ht
        have hm : t ∈ ([22] : List TypeId) := by simpa using Array.mem_of_getElem? ht
        have hall : (([22] : List TypeId).all fun u => !Tryd.prog.wantsStandIn u) = true := by kernel_rfl
        exact (show Tryd.prog.wantsStandIn t = false by simpa using List.all_eq_true.1 hall t hm)⟩)
    (by kernel_rfl)
#print axioms card_holds
end Go.Proofs.YtaoahgngpjoekaaDoor.fnCopies
