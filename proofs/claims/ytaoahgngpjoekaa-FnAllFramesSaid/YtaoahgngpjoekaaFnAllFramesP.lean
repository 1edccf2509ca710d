/- The law FnAllFrames holds for every input that the given row lets in: the program's answer is the reference's. No condition of its own. -/
import Derived.Test.YtaoahgngpjoekaaRows
import Derived.WalkKit
import Derived.ProofKit
import Derived.OpenShut
import Derived.ShutString
import Derived.ChangeOld
import Derived.Below
import Derived.Lib.SmallJoins
import Derived.Test.YtaoahgngpjoekaaKf
import Derived.Test.YtaoahgngpjoekaaKi
import Derived.Test.YtaoahgngpjoekaaLw
namespace Go.Proofs.Ytaoahgngpjoekaa.fnAllFrames
open Go.ChangeShapes Go.WideShapes Go.ChangeAt Go.RowKit
open Go.ChangeMaps (open_string shut_string)
set_option linter.unusedVariables false

theorem own : ownKnob Try.prog.godebug = none := by kernel_rfl
theorem laidOut : laidOutB Try.prog = true := by kernel_rfl

/-- A slice of integers that came in: nil, or a row of 'cap' cells that hold the numbers zs. -/
def IsRow (k : IntKind) (w : World) (a : Option Addr) (len cap : Nat) (zs : List Int) : Prop :=
  (a = none ∧ len = 0 ∧ cap = 0 ∧ zs = []) ∨
  ∃ x, a = some x ∧ len ≤ cap ∧ cap ≤ maxLen ∧ zs.length = cap ∧ (∀ i, i < zs.length → w.cell? (x.add i) = some (.int k (zs.getD i 0))) ∧ ∀ n ∈ zs, (Lit.int k n).wf = true

/-- What the first frame is, if there is any. -/
theorem all_first {s : ByteArray} (h : 0 < (allR s).length) : ∃ p, (allR s)[0] = p ∧ payB p = true ∧ 23 + p.size ≤ s.size := by
  rcases find_is (s := s) (a := ((0 : Nat) : Int)) with hf | ⟨v, p, n, hf, h0, hav, hvs, hq, hn1, hn2, hpay⟩
  · exfalso
    have h1 : allR s = [] := allL_stop (by omega) _
    rw [h1] at h; exact absurd h (by simp)
  · have hs : allR s = p :: allL s (s.size + 1 - 1) n := allL_step (by omega) hf hq
    refine ⟨p, ?_, hpay, by omega⟩
    have e : (allR s)[0]? = some p := by rw [hs]; rfl
    rw [List.getElem?_eq_getElem h] at e
    exact Option.some.inj e
theorem belA {w8 w9 w10 : World} {o : Obj} (h : Below w8.drew.heap.size w8.drew w9) (hq : Qw (w9.alloc o) w10) : Below w8.heap.size w8 w10 := by
  have e1 := Below.drew (Below.refl w8.heap.size w8)
  have e2 := e1.trans (h.mono e1.size)
  have e3 := e2.alloc e2.size o
  exact e3.trans (hq.below _)
theorem belB {w8 w9 w10 : World} {o : Obj} (h : Below (w8.alloc o).drew.heap.size (w8.alloc o).drew w9) (hq : Qw w9 w10) : Below w8.heap.size w8 w10 := by
  have e0 := (Below.refl w8.heap.size w8).alloc (Nat.le_refl _) o
  have e1 := Below.drew e0
  have e2 := e1.trans (h.mono e1.size)
  exact e2.trans (hq.below _)
theorem payB_100 {p : ByteArray} (h : payB p = true) : p.size ≤ 100 := (payB_is h).1
set_option maxRecDepth 100000
set_option maxHeartbeats 4000000 in
theorem walk (a0 : Option Addr) (len0 cap0 : Nat) (z0 : List Int) (a1 : Option Addr) (len1 cap1 : Nat) (z1 : List Int) (w : World) (w0 : IsRow .u8 w a0 len0 cap0 z0) (w1 : IsRow .u8 w a1 len1 cap1 z1) :
    Calls Try.prog 4 #[.slice a0 len0 cap0, .slice a1 len1 cap1] w fun e w' => e = .returned (.bool true) ∧ Below w.heap.size w w' := by
  by_cases hnA : len0 ≤ 1048576
  · by_cases hnB : len1 ≤ 1048576
    · have hC := codeW_of_row w0 (by omega)
      clear w0 w1
      go_enter Try.func4, Try.ntmps4
      go_wp2_with fail
      refine (DrawAllFrames_c hC).mono ?_; rintro e w1 ⟨s, rfl, hs, hb1⟩
      clear hC
      go_wp2_with fail
      refine (AllFrames_c s _ (by omega)).mono ?_; rintro e w2 ⟨a2, n2, c2, rfl, ho2, hb2⟩
      have hL2 := ho2.rd
      have hbA := hb1.trans (hb2.mono hb1.size)
      clear ho2 hb1 hb2
      go_wp2_with fail
      refine (sAllFrames_c s _ (by omega)).mono ?_; rintro e w3 ⟨a3, n3, c3, rfl, ho3, hb3⟩
      have hL3 := hL2.below hb3
      have hbB := hbA.trans (hb3.mono hbA.size)
      clear hL2 hbA hb3
      go_wp2_with fail
      refine (ssTexts_c hL3 ho3.rd).mono ?_; rintro e w4 ⟨rfl, hq4⟩
      have hL4 := hL3.qw hq4
      have hbC := hbB.trans ((hq4.below w3.heap.size).mono hbB.size)
      clear hL3 hbB hq4 ho3
      have HDEF := Lib.hid (show allR s = allL s (s.size + 1) 0 from rfl)
      have HFST := Lib.hid (fun h => all_first (s := s) h)
      obtain ⟨L, hL⟩ : ∃ L, L = allR s := ⟨_, rfl⟩
      rw [← hL] at hL4 HDEF HFST
      have HLL := Lib.hid hL4.1
      have hn2b := hL4.2.1
      clear hL
      go_wp2_with fail
      go_loopw [7, 8] (fun y i wr => ∃ (k a f : Nat), i = .int .i64 (k : Nat) ∧ y = .int .i64 (a : Nat) ∧ k ≤ n2 ∧ Hid (L.drop k = allL s f a) ∧ s.size + 1 ≤ f + a ∧ a ≤ s.size ∧ Below w4.heap.size w4 wr) (fun _ i _ => n2 - (intOf i).toNat)
      case atStart => exact ⟨0, 0, s.size + 1, rfl, rfl, Nat.zero_le _, Lib.hid (by rw [List.drop_zero, HDEF.out]), by omega, Nat.zero_le _, Below.refl _ _⟩
      case round =>
        obtain ⟨k, a, f, rfl, rfl, hk, HD, hfa, has, hb⟩ := hrel
        have hfi := find_is (s := s) (a := (a : Int))
        by_cases hlt : k < n2
        · have hkL : k < L.length := by rw [← HLL.out]; exact hlt
          rcases hfi with hf | ⟨v, p, n, hf, h0, hav, hvs, hq, hn1, hn2, hpay⟩
          · exfalso
            have h1 := HD.out
            rw [allL_stop (by omega) f] at h1
            have := congrArg List.length h1
            rw [List.length_drop, List.length_nil] at this
            omega
          · have hS := HD.out.trans (allL_step (f := f) (by omega) hf hq)
            rw [List.drop_eq_getElem_cons hkL] at hS
            obtain ⟨hS1, hS2⟩ := List.cons.inj hS
            have HS2 := Lib.hid hS2
            have HF := Lib.hid hf
            have HQ := Lib.hid hq
            obtain ⟨b1, o1, e1, hl1, hc1⟩ := (hL4.below hb).at hlt
            rw [hS1] at hc1
            have heq : (p.toList == p.toList) = true := by simp
            have hz := hb.size
            have hcm : ∀ w' : World, Below wr.heap.size wr w' → w'.cell? ⟨b1, o1 + k, none⟩ = some (.string p) := fun w' h => (h.cell (lt_of_cell hc1)).trans hc1
            have HCM := Lib.hid hcm
            have hvn : v + 23 ≤ n := by omega
            have hva : a ≤ v := by omega
            clear hS hS1 hS2 hf hq hpay hc1 hcm hav h0 hn1
            go_wp2_with fail
            refine (FindFrame_c s (a : Int) _).mono ?_; rintro e w5 ⟨rfl, hb5⟩
            rw [HF.out]
            go_wp2_with fail
            refine (ParseFrame_c s (v : Int) _).mono ?_; rintro e w6 ⟨rfl, hb6⟩
            rw [HQ.out]
            simp only [Option.map_some, Option.getD_some, Option.isSome_some]
            have hb7 := hb5.trans (hb6.mono hb5.size)
            have hc6 := HCM.out w6 hb7
            have hb8 := hb.trans (hb7.mono hz)
            subst e1
            clear hb5 hb6 hb7 hb
            go_wp2_with fail
            go_roundw
            case rel => exact ⟨k + 1, n, f - 1, by go_num, rfl, by omega, HS2, by omega, hn2, hb8⟩
            case measure => simp [intOf]; omega
        · obtain rfl : k = n2 := by omega
          have HF : Hid (findR s (a : Int) = -1) := by
            rcases hfi with hf | ⟨v, p, n, hf, h0, hav, hvs, hq, hn1, hn2, hpay⟩
            · exact Lib.hid hf
            · exfalso
              have hS := HD.out.trans (allL_step (f := f) (by omega) hf hq)
              have := congrArg List.length hS
              rw [List.length_drop, List.length_cons, ← HLL.out] at this
              omega
          have hbD := hbC.trans (hb.mono hbC.size)
          have hLw := hL4.below hb
          clear hfi HD hfa hb hbC hL4
          obtain ⟨r, hr⟩ : ∃ r, r = len1 % 20 := ⟨_, rfl⟩
          have e1 : (len1 : Int).tmod 20 = (r : Int) := by rw [hr]; rfl
          have e2 : (len1 : Int) % 20 = (r : Int) := by rw [hr]; rfl
          have hr20 : r < 20 := by omega
          clear hr
          go_wp2_with fail
          refine (ssZeros_c r _ (by omega)).mono ?_; rintro e w5 ⟨rfl, hb5⟩
          have hL5 := hLw.below hb5
          have hbE := hbD.trans (hb5.mono hbD.size)
          have hzz := zerosT_size r
          have hpz : payB (zerosT r) = true := payB_yes (by omega) (bits_mk (by omega) (zerosT_bits r))
          have HPZ := Lib.hid (frameR_yes hpz)
          have HTW := Lib.hid (fun (g : ByteArray) (hg : payB g = true) (h : 46 + g.size + (zerosT r).size ≤ 600) => all_two hg hpz h)
          have hfz := frame_size (zerosT r)
          clear hLw hb5 hbD hpz e1 e2
          obtain ⟨Z, hZ⟩ : ∃ Z, Z = zerosT r := ⟨_, rfl⟩
          rw [← hZ] at hzz HPZ HTW hfz
          rw [← hZ]
          clear hZ
          go_wp2_with fail
          refine (FrameOf_c Z _).mono ?_; rintro e w6 ⟨rfl, hb6⟩
          have hL6 := hL5.below hb6
          have hbF := hbE.trans (hb6.mono hbE.size)
          rw [HPZ.out]
          simp only [Option.getD_some, Option.isSome_some]
          obtain ⟨F, hF⟩ : ∃ F, F = frameT Z := ⟨_, rfl⟩
          rw [← hF] at hfz HTW
          rw [← hF]
          have hf43 : F.size ≤ 43 := by omega
          clear hL5 hb6 hbE HPZ hF
          go_wp2_with fail
          refine (FindFrame_c s (a : Int) _).mono ?_; rintro e w7 ⟨rfl, hb7⟩
          have hL7 := hL6.below hb7
          have hbG := hbF.trans (hb7.mono hbF.size)
          rw [HF.out]
          clear hL6 hb7 hbF
          by_cases hbig : (600 : Int) < (s.size : Int) + (F.size : Int)
          · go_wp2_with fail
            refine (FindFrame_c s (a : Int) _).mono ?_; rintro e w8 ⟨rfl, hb8⟩
            have hbH := hbG.trans (hb8.mono hbG.size)
            rw [HF.out]
            go_wp2_with fail
            go_ret
            exact ⟨by simp, hbH⟩
          · by_cases hn0 : k = 0
            · subst hn0
              go_wp2_with fail
              refine (FindFrame_c s (a : Int) _).mono ?_; rintro e w8 ⟨rfl, hb8⟩
              have hbH := hbG.trans (hb8.mono hbG.size)
              rw [HF.out]
              go_wp2_with fail
              go_ret
              exact ⟨by simp, hbH⟩
            · have hne : ((k : Int) == 0) = false := by rw [beq_eq_false_iff_ne]; omega
              have hk0 : 0 < k := by omega
              have hL0 : 0 < L.length := by rw [← HLL.out]; exact hk0
              obtain ⟨g, hg, hgp, hgz⟩ := HFST.out hL0
              have HFG := Lib.hid (frameR_yes hgp)
              have hTW := HTW.out g hgp (by omega)
              have hgfz := frame_size g
              obtain ⟨G, hG⟩ : ∃ G, G = frameT g := ⟨_, rfl⟩
              rw [← hG] at hTW HFG hgfz
              obtain ⟨b1, o1, e1, hl1, hc1⟩ := hL7.at hk0
              rw [hg, Nat.add_zero] at hc1
              have HTWO := Lib.hid hTW
              have hGF : (G ++ F).size = G.size + F.size := ap_size _ _
              subst e1
              clear hg hgp hTW hG HTW HFST HDEF hL0
              go_wp2_with fail
              refine (FrameOf_c g _).mono ?_; rintro e w8 ⟨rfl, hb8⟩
              rw [HFG.out]
              simp only [Option.getD_some, Option.isSome_some]
              have hc8 : w8.cell? ⟨b1, o1, none⟩ = some (.string g) := (hb8.cell (lt_of_cell hc1)).trans hc1
              have hbH := hbG.trans (hb8.mono hbG.size)
              have hgs : g.size ≤ 601 := by omega
              clear hL7 hb8 hbG hc1
              go_wp2_with fail
              have hGF2 : (G ++ F).size ≤ 1000000 := by omega
              have hcat : ¬ G.size + F.size > 9223372036854775807 := by omega
              have hcat2 : ¬ 9223372036854775807 < G.size + F.size := by omega
              have hcD : w8.drew.cell? ⟨b1, o1, none⟩ = some (.string g) := hc8
              have hXA : (w8.alloc (.cells #[.string g, .string Z] 9)).drew.cell? ⟨b1, o1, none⟩ = some (.string g) := (((Below.refl w8.heap.size w8).alloc (Nat.le_refl _) _).cell (lt_of_cell hc8)).trans hc8
              have hrA : RdT (w8.alloc (.cells #[.string g, .string Z] 9)).drew (some ⟨w8.heap.size, 0, none⟩) 2 [g, Z] := (rdS_lit w8 [g, Z] 9 w8.heap.size 2 rfl rfl (by simp)).below (Below.drew (Below.refl _ _))
              clear HF HFG hgfz hfz hbig hne
              go_region_held3 (fun w' => w'.cell? ⟨b1, o1, none⟩ = some (.string g)) (first | with_reducible exact hcD | with_reducible exact C1 | with_reducible exact C2 | with_reducible exact hXA | with_reducible exact XB) (first | (go_at_call 20; refine (AllFrames_c (G ++ F) _ hGF2).mono ?_; rintro e w9 ⟨a9, n9, c9, rfl, ho9, hb9⟩; rw [HTWO.out] at ho9; have C1 : w9.cell? ⟨b1, o1, none⟩ = some (.string g) := by { first | with_reducible exact (hb9.cell (lt_of_cell hcD)).trans hcD | with_reducible exact (hb9.cell (lt_of_cell hXA)).trans hXA }; have XB : (w9.alloc (.cells #[.string g, .string Z] 9)).cell? ⟨b1, o1, none⟩ = some (.string g) := (((Below.refl w9.heap.size w9).alloc (Nat.le_refl _) _).cell (lt_of_cell C1)).trans C1; have hr1 := ho9.rd; have hr1a := ho9.rd.below ((Below.refl w9.heap.size w9).alloc (Nat.le_refl _) (.cells #[.string g, .string Z] 9)); have hr2a := rdS_lit w9 [g, Z] 9 w9.heap.size 2 rfl rfl (by simp)) | (go_at_call 21; first | (refine (ssTexts_c (by with_reducible exact hr1a) (by exact hr2a)).mono ?_; rintro e w10 ⟨rfl, hq10⟩; have C2 : w10.cell? ⟨b1, o1, none⟩ = some (.string g) := ((hq10.below (w9.alloc (.cells #[.string g, .string Z] 9)).heap.size).cell (lt_of_cell XB)).trans XB) | (refine (ssTexts_c (by with_reducible exact hr1) (by exact hrA.below hb9)).mono ?_; rintro e w10 ⟨rfl, hq10⟩; have C2 : w10.cell? ⟨b1, o1, none⟩ = some (.string g) := ((hq10.below w9.heap.size).cell (lt_of_cell C1)).trans C1)))
              all_goals
                have hbZ : Below w8.heap.size w8 w10 := by
                  first
                  | exact belA hb9 hq10
                  | exact belB hb9 hq10
                have hbW := hbH.trans (hbZ.mono hbH.size)
                go_wp2_with fail
                go_ret
                exact ⟨rfl, hbW⟩
    · have hn' : (1048576 : Int) < (len1 : Int) := by omega
      go_enter Try.func4, Try.ntmps4
      go_wp2_with fail
      go_ret
      exact ⟨rfl, Below.refl _ _⟩
  · have hn' : (1048576 : Int) < (len0 : Int) := by omega
    go_enter Try.func4, Try.ntmps4
    go_wp2_with fail
    go_ret
    exact ⟨rfl, Below.refl _ _⟩

set_option maxRecDepth 100000 in
theorem lifted (os : Os) (started : os.Started) (H : Type) (enc : TypeId × Value → H) :
    ReturnsInHanded {} Try.checked os 4 .any (Rows.fnAllFramesSpec.pre6 enc Try.prog Try.f4 Rows.fnAllFramesRow.domain false) (Rows.fnAllFramesSpec.post enc Try.prog Try.f4 false true false false) := by
  refine returnsInHanded_of_change (C := Try.checked) own started (by kernel_rfl) Try.func4
    (ChangeSpec.witness6 (enc := enc) (C := Try.checked) false ⟨#[], #[.slice none 0 0, .slice none 0 0], []⟩ 8 (by kernel_rfl) (by kernel_rfl) (by kernel_rfl) (by kernel_rfl)) ?_
  intro W base args ds gs before hval0 hW hcnd _
  have hval : ∀ (j : Nat) t v, Try.f4.params[j]? = some t → args[j]? = some v → Value.okWide Try.prog W .any base t v := hval0
  have hW' := hW
  obtain ⟨p, q, hA0, hV, rfl, hfz, hnd⟩ := hW
  have hA : DataW.TrodAll enc Try.prog W 0 (fun _ => true) true Try.f4.params.toList args.toList ds p := hA0
  rw [Try.params4] at hA hval
  obtain ⟨v0, vs0, d0, ds0, p0, q0, hargs, rfl, rfl, h0, r0⟩ := trodAll_cons hA
  obtain ⟨v1, vs1, d1, ds1, p1, q1, rfl, rfl, rfl, h1, r1⟩ := trodAll_cons r0
  obtain ⟨rfl, rfl, rfl⟩ := trodAll_nil r1
  obtain rfl : args = #[v0, v1] := by cases args; simp_all
  obtain ⟨rfl, rfl⟩ := trodVars_none hV
  have k0 := h0
  have lt0 : ∀ x ∈ p0, x.block < W.heap.size := by obtain ⟨m, hm⟩ := k0; exact DataW.trod_lt m _ _ _ hm
  have k1 := h1
  have lt1 : ∀ x ∈ p1, x.block < W.heap.size := by obtain ⟨m, hm⟩ := k1; exact DataW.trod_lt m _ _ _ hm
  obtain ⟨a0, len0, cap0, rfl⟩ := okWide_slice Try.underlying22 (hval 0 22 v0 rfl rfl)
  obtain ⟨z0, w0⟩ : ∃ zs, IsRow .u8 W a0 len0 cap0 zs := by
    obtain ⟨fuel, hf⟩ := h0
    rcases open_ints Try.underlying22 Try.underlying5 (by kernel_rfl) hf with ⟨hcs, _⟩ | ⟨x, l, c, zs, hcs, _, hl, hm, hz, _, hcell, hwz⟩
    · simp [Value.cells] at hcs
      obtain ⟨rfl, rfl, rfl⟩ := hcs
      exact ⟨[], .inl ⟨rfl, rfl, rfl, rfl⟩⟩
    · simp [Value.cells] at hcs
      obtain ⟨rfl, rfl, rfl⟩ := hcs
      exact ⟨zs, .inr ⟨_, rfl, hl, hm, by simpa using hz, hcell, hwz⟩⟩
  obtain ⟨a1, len1, cap1, rfl⟩ := okWide_slice Try.underlying22 (hval 1 22 v1 rfl rfl)
  obtain ⟨z1, w1⟩ : ∃ zs, IsRow .u8 W a1 len1 cap1 zs := by
    obtain ⟨fuel, hf⟩ := h1
    rcases open_ints Try.underlying22 Try.underlying5 (by kernel_rfl) hf with ⟨hcs, _⟩ | ⟨x, l, c, zs, hcs, _, hl, hm, hz, _, hcell, hwz⟩
    · simp [Value.cells] at hcs
      obtain ⟨rfl, rfl, rfl⟩ := hcs
      exact ⟨[], .inl ⟨rfl, rfl, rfl, rfl⟩⟩
    · simp [Value.cells] at hcs
      obtain ⟨rfl, rfl, rfl⟩ := hcs
      exact ⟨zs, .inr ⟨_, rfl, hl, hm, by simpa using hz, hcell, hwz⟩⟩
  clear hA0 hval0
  refine (walk a0 len0 cap0 z0 a1 len1 cap1 z1 W w0 w1).mono fun e W' ⟨he, bel⟩ => ?_
  subst he
  exact ⟨_, rfl, _, _, _, [], _, [], hW', trodAll_mk1 (shut_bool Try.underlying4 _), (trodAll_cons_mk (Below.trod laidOut (by kernel_rfl) (of_decide_eq_true (by kernel_rfl)) k0 bel lt0) (trodAll_cons_mk (Below.trod laidOut (by kernel_rfl) (of_decide_eq_true (by kernel_rfl)) k1 bel lt1) trodAll_mk0)), rfl, bel.frame _, fun h => by cases h⟩

theorem over : Rows.fnAllFramesRow.holds Try.pinned (OpenSpec.ofChange Rows.fnAllFramesSpec) :=
  OpenClaim.holds_of_wide 4 Try.f4 rfl rfl rfl rfl rfl rfl rfl ⟨rfl, rfl, rfl, rfl, rfl⟩ rfl rfl rfl rfl rfl (by kernel_rfl) Try.func4 (by kernel_rfl)
    (of_decide_eq_true (by kernel_rfl)) (by unfold Func.isWrapper; first | (rw [if_pos (by decide +kernel)]; kernel_rfl) | (rw [if_neg (by decide +kernel)]; exact ⟨rfl, rfl⟩))
    (fun os started H enc _ => lifted os started H enc)

theorem proved : Rows.FnAllFramesSaid := over
#print axioms proved
end Go.Proofs.Ytaoahgngpjoekaa.fnAllFrames
