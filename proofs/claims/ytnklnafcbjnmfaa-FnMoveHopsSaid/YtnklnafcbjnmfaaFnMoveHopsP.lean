/- The law FnMoveHops holds for every input that the given row lets in: the program's answer is the reference's. No condition of its own. -/
import Derived.Test.YtnklnafcbjnmfaaRows
import Derived.WalkKit
import Derived.ProofKit
import Derived.OpenShut
import Derived.ShutString
import Derived.ChangeOld
import Derived.Below
import Derived.Lib.SmallJoins
import Derived.Test.YtnklnafcbjnmfaaLw
import Derived.Test.YtnklnafcbjnmfaaHm
import Derived.Test.YtnklnafcbjnmfaaHc
namespace Go.Proofs.Ytnklnafcbjnmfaa.fnMoveHops
open Go.ChangeShapes Go.WideShapes Go.ChangeAt Go.RowKit
open Go.ChangeMaps (open_string shut_string)
set_option linter.unusedVariables false

theorem own : ownKnob Try.prog.godebug = none := by kernel_rfl
theorem laidOut : laidOutB Try.prog = true := by kernel_rfl

/-- A slice of integers that came in: nil, or a row of 'cap' cells that hold the numbers zs. -/
def IsRow (k : IntKind) (w : World) (a : Option Addr) (len cap : Nat) (zs : List Int) : Prop :=
  (a = none ∧ len = 0 ∧ cap = 0 ∧ zs = []) ∨
  ∃ x, a = some x ∧ len ≤ cap ∧ cap ≤ maxLen ∧ zs.length = cap ∧ (∀ i, i < zs.length → w.cell? (x.add i) = some (.int k (zs.getD i 0))) ∧ ∀ n ∈ zs, (Lit.int k n).wf = true

theorem movOk_parts {l : List Int} {ch d : Int} (h : movOk l ch d = true) : hopsB l ch = true ∧ (-16 ≤ d ∧ d ≤ 16) := by
  unfold movOk at h; rw [Bool.and_eq_true] at h; exact ⟨h.1, inB_iff.1 h.2⟩
theorem hopsB_map {l : List Int} {ch : Int} {f : Int → Int} (h : hopsB l ch = true) (hf : ∀ x, 0 ≤ f x ∧ f x ≤ ch - 1) : hopsB (l.map f) ch = true := by
  obtain ⟨h1, h2, h3⟩ := hopsB_ch h
  refine hopsB_mk h1 (by rw [List.length_map]; exact h2) ?_
  unfold allB; rw [List.all_eq_true]
  intro x hx
  obtain ⟨y, _, rfl⟩ := List.mem_map.1 hx
  exact inB_true (hf y).1 (hf y).2
theorem mod_bd (x d : Int) {ch : Int} (h : 1 ≤ ch) : 0 ≤ (x + d) % ch ∧ (x + d) % ch ≤ ch - 1 :=
  ⟨Int.emod_nonneg _ (by omega), by have := Int.emod_lt_of_pos (x + d) (show 0 < ch by omega); omega⟩
theorem mov_ok2 {l : List Int} {ch d : Int} (h : movOk l ch d = true) : movOk (l.map fun x => (x + d) % ch) ch (-d) = true := by
  obtain ⟨h1, h2⟩ := movOk_parts h
  obtain ⟨hc, _, _⟩ := hopsB_ch h1
  unfold movOk
  rw [hopsB_map h1 (fun x => mod_bd x d hc.1), inB_true (by omega) (by omega)]; rfl
theorem mov_inv {l : List Int} {ch d : Int} (h : movOk l ch d = true) : (l.map fun x => (x + d) % ch).map (fun x => (x + -d) % ch) = l := by
  obtain ⟨h1, h2⟩ := movOk_parts h
  obtain ⟨hc, _, ha⟩ := hopsB_ch h1
  rw [List.map_map]
  refine (List.map_congr_left fun x hx => ?_).trans (List.map_id l)
  unfold allB at ha; rw [List.all_eq_true] at ha
  have hx2 := inB_iff.1 (ha x hx)
  show ((x + d) % ch + -d) % ch = x
  rw [Int.emod_add_emod, show x + d + -d = x by omega, Int.emod_eq_of_lt hx2.1 (by omega)]
theorem hops16 {l : List Int} {ch : Int} (h : hopsB l ch = true) : hopsB l 16 = true := by
  obtain ⟨h1, h2, h3⟩ := hopsB_ch h
  exact hopsB_mk (by omega) h2 (allB_mono h3 (by omega))
theorem mov_back2 {l : List Int} {ch d : Int} (h : movOk l ch d = true) : movHops (l.map fun x => (x + d) % ch) ch (-d) = some l := by
  rw [movHops_yes (mov_ok2 h), mov_inv h]
theorem col_mov {l : List Int} {ch d : Int} (h : movOk l ch d = true) (h0 : 0 < l.length) : colHops l (l.map fun x => (x + d) % ch) 0 = if d % ch = 0 then (l.length : Int) else 0 := by
  obtain ⟨h1, h2⟩ := movOk_parts h
  obtain ⟨hc, _, ha⟩ := hopsB_ch h1
  rw [colHops_yes (colOk_yes (hops16 h1) (hops16 (hopsB_map h1 (fun x => mod_bd x d hc.1))) (by rw [List.length_map]) h0)]
  unfold meet
  have key : ∀ i, i < l.length → meetB l (l.map fun x => (x + d) % ch) (0 % ((l.map fun x => (x + d) % ch).length : Int)).toNat i = decide (d % ch = 0) := by
    intro i hi
    unfold meetB
    rw [Int.zero_emod, Int.toNat_zero, Nat.add_zero, List.length_map, Nat.mod_eq_of_lt hi]
    simp only [List.getD, List.getElem?_map, List.getElem?_eq_getElem hi, Option.map_some, Option.getD_some]
    have hb := allB_get ha hi
    rw [Bool.eq_iff_iff]
    simp only [beq_iff_eq, decide_eq_true_eq]
    constructor
    · intro e
      have : (l[i] + d) % ch = l[i] % ch := by rw [← e, Int.emod_eq_of_lt hb.1 (by omega)]
      have h3 := Int.emod_emod_of_dvd (l[i] + d - l[i]) (Int.dvd_refl ch)
      have h4 : (l[i] + d - l[i]) % ch = 0 := by rw [Int.sub_emod, this, Int.sub_self, Int.zero_emod]
      rwa [show l[i] + d - l[i] = d by omega] at h4
    · intro e
      rw [Int.add_emod, e, Int.add_zero, Int.emod_emod_of_dvd _ (Int.dvd_refl ch), Int.emod_eq_of_lt hb.1 (by omega)]
  rw [cntR_congr key]
  by_cases hd : d % ch = 0
  · rw [if_pos hd]; unfold cntR; rw [List.filter_eq_self.2 (by intro a _; simp [hd])]; simp
  · rw [if_neg hd]; unfold cntR; simp [hd]
theorem tmod_zero {d ch : Int} (h : d % ch = 0) : d.tmod ch = 0 := Int.tmod_eq_zero_of_dvd (Int.dvd_of_emod_eq_zero h)
theorem tmod_ne {d ch : Int} (h : ¬ d % ch = 0) : ¬ d.tmod ch = 0 := fun e => h (Int.emod_eq_zero_of_dvd (Int.dvd_of_tmod_eq_zero e))
set_option maxRecDepth 100000
set_option maxHeartbeats 4000000 in
theorem walk (a0 : Option Addr) (len0 cap0 : Nat) (z0 : List Int) (w : World) (w0 : IsRow .u8 w a0 len0 cap0 z0) :
    Calls Try.prog 9 #[.slice a0 len0 cap0] w fun e w' => e = .returned (.bool true) ∧ Below w.heap.size w w' := by
  by_cases hn : len0 ≤ 1048576
  · have hC := codeW_of_row w0 (by omega)
    clear w0
    go_enter Try.func9, Try.ntmps9
    go_wp2_with fail
    refine (DrawMoveHops_c hC).mono ?_; rintro e w1 ⟨ao, n, c, l, ch, d, rfl, hL1, h301, hk0, hk1, hd0, hd1, hb1⟩
    clear hC
    by_cases hok : movOk l ch d = true
    · have HY := Lib.hid (movHops_yes hok)
      have HZ := Lib.hid (mov_back2 hok)
      have HV := Lib.hid (hopsB_map (movOk_parts hok).1 (fun x => mod_bd x d (hopsB_ch (movOk_parts hok).1).1.1))
      have HOK := Lib.hid hok
      have hch := (hopsB_ch (movOk_parts hok).1).1
      have hd2 := (movOk_parts hok).2
      clear hok
      generalize hX : (l.map fun x => (x + d) % ch) = X at HY HZ HV
      have HX := Lib.hid hX; clear hX
      go_wp2_with fail
      refine (MoveHops_c ch d hL1.1).mono ?_; rintro e w2 hret
      rw [HY.out] at hret; obtain ⟨a2, n2, c2, rfl, hx2, hb2⟩ := hret.some
      have hL2 := hL1.below hb2
      have hB2 := hb1.trans (hb2.mono hb1.size)
      clear hL1 hb1 hb2
      go_wp2_with fail
      refine (sMoveHops_c ch d hL2.1).mono ?_; rintro e w3 hret
      rw [HY.out] at hret; obtain ⟨a3, n3, c3, rfl, hy3, hb3⟩ := hret.some
      have hL3 := hL2.below hb3
      have hx3 := hx2.below hb3
      have hB3 := hB2.trans (hb3.mono hB2.size)
      clear hL2 hx2 hb3 hB2
      go_wp2_with fail
      refine (ssInts_c hx3.rd hy3.rd).mono ?_; rintro e w4 ⟨rfl, hq4⟩
      rw [sameB_self]
      have hL4 := hL3.below (hq4.below _)
      have hx4 := hx3.qw hq4
      have hB4 := hB3.trans ((hq4.below w3.heap.size).mono hB3.size)
      clear hL3 hx3 hy3 hB3 hq4
      go_wp2_with fail
      refine (MoveHops_c ch (-d) hx4.rd).mono ?_; rintro e w5 hret
      rw [HZ.out] at hret; obtain ⟨a5, n5, c5, rfl, hz5, hb5⟩ := hret.some
      have hL5 := hL4.below hb5
      have hx5 := hx4.below hb5
      have hB5 := hB4.trans (hb5.mono hB4.size)
      clear hL4 hx4 hb5 hB4
      go_wp2_with fail
      refine (ssInts_c hz5.rd hL5.1).mono ?_; rintro e w6 ⟨rfl, hq6⟩
      rw [sameB_self]
      have hL6 := hL5.below (hq6.below _)
      have hx6 := hx5.qw hq6
      have hB6 := hB5.trans ((hq6.below w5.heap.size).mono hB5.size)
      clear hL5 hx5 hz5 hB5 hq6
      go_wp2_with fail
      refine (HopsValid_c ch hx6.rd).mono ?_; rintro e w' ⟨rfl, rfl⟩
      rw [HV.out]
      go_wp2_with fail
      refine (HopCollisions_c 0 hL6.1 hx6.rd hx6.cap).mono ?_; rintro e w7 ⟨rfl, hb7⟩
      have hB7 := hB6.trans (hb7.mono hB6.size)
      have HL := Lib.hid hL6.1.1
      clear hL6 hx6 hb7 hB6
      by_cases h0 : n = 0
      · have h0' : ((n : Int) == 0) = true := by simp; omega
        have H0 := Lib.hid h0; clear h0
        go_wp2_with fail
        go_ret
        exact ⟨rfl, hB7⟩
      · have h0' : ((n : Int) == 0) = false := by simp; omega
        have HCM := Lib.hid (show colHops l X 0 = if d % ch = 0 then (n : Int) else 0 by rw [← HX.out, col_mov HOK.out (by have := HL.out; omega), HL.out])
        by_cases hd : d % ch = 0
        · have HD := Lib.hid (show colHops l X 0 = n by rw [HCM.out, if_pos hd])
          have ht := tmod_zero hd
          have t1 : (d.tmod ch == 0) = true := by simp [ht]
          have HH := Lib.hid hd; have HT := Lib.hid ht; clear hd ht
          rw [HD.out]
          go_wp2_with fail
          go_ret
          exact ⟨rfl, hB7⟩
        · have HD := Lib.hid (show colHops l X 0 = 0 by rw [HCM.out, if_neg hd])
          have ht := tmod_ne hd
          have t1 : (d.tmod ch == 0) = false := by simpa using ht
          have t2 : (d.tmod ch != 0) = true := by simpa using ht
          have HH := Lib.hid hd; have HT := Lib.hid ht; clear hd ht
          rw [HD.out]
          go_wp2_with fail
          go_ret
          exact ⟨rfl, hB7⟩
    · have HY := Lib.hid (movHops_no (show movOk l ch d = false by simpa using hok))
      clear hok
      go_wp2_with fail
      refine (MoveHops_c ch d hL1.1).mono ?_; rintro e w2 hret
      rw [HY.out] at hret; obtain ⟨a2, n2, c2, rfl, hx2, hb2⟩ := hret.none
      have hL2 := hL1.below hb2
      have hB2 := hb1.trans (hb2.mono hb1.size)
      clear hL1 hb1 hb2
      go_wp2_with fail
      refine (sMoveHops_c ch d hL2.1).mono ?_; rintro e w3 hret
      rw [HY.out] at hret; obtain ⟨a3, n3, c3, rfl, hy3, hb3⟩ := hret.none
      have hx3 := hx2.below hb3
      have hB3 := hB2.trans (hb3.mono hB2.size)
      clear hL2 hx2 hb3 hB2
      go_wp2_with fail
      refine (ssInts_c hx3.rd hy3.rd).mono ?_; rintro e w4 ⟨rfl, hq4⟩
      rw [sameB_self]
      have hx4 := hx3.qw hq4
      have hy4 := hy3.qw hq4
      have hB4 := hB3.trans ((hq4.below w3.heap.size).mono hB3.size)
      clear hx3 hy3 hB3 hq4
      go_wp2_with fail
      refine (ssInts_c hx4.rd hy4.rd).mono ?_; rintro e w5 ⟨rfl, hq5⟩
      rw [sameB_self]
      have hB5 := hB4.trans ((hq5.below w4.heap.size).mono hB4.size)
      go_wp2_with fail
      go_ret
      exact ⟨rfl, hB5⟩
  · have hn' : (1048576 : Int) < (len0 : Int) := by omega
    go_enter Try.func9, Try.ntmps9
    go_wp2_with fail
    go_ret
    exact ⟨rfl, Below.refl _ _⟩

set_option maxRecDepth 100000 in
theorem lifted (os : Os) (started : os.Started) (H : Type) (enc : TypeId × Value → H) :
    ReturnsInHanded {} Try.checked os 9 .any (Rows.fnMoveHopsSpec.pre6 enc Try.prog Try.f9 Rows.fnMoveHopsRow.domain false) (Rows.fnMoveHopsSpec.post enc Try.prog Try.f9 false true false false) := by
  refine returnsInHanded_of_change (C := Try.checked) own started (by kernel_rfl) Try.func9
    (ChangeSpec.witness6 (enc := enc) (C := Try.checked) false ⟨#[], #[.slice none 0 0], []⟩ 8 (by kernel_rfl) (by kernel_rfl) (by kernel_rfl) (by kernel_rfl)) ?_
  intro W base args ds gs before hval0 hW hcnd _
  have hval : ∀ (j : Nat) t v, Try.f9.params[j]? = some t → args[j]? = some v → Value.okWide Try.prog W .any base t v := hval0
  have hW' := hW
  obtain ⟨p, q, hA0, hV, rfl, hfz, hnd⟩ := hW
  have hA : DataW.TrodAll enc Try.prog W 0 (fun _ => true) true Try.f9.params.toList args.toList ds p := hA0
  rw [Try.params9] at hA hval
  obtain ⟨v0, vs0, d0, ds0, p0, q0, hargs, rfl, rfl, h0, r0⟩ := trodAll_cons hA
  obtain ⟨rfl, rfl, rfl⟩ := trodAll_nil r0
  obtain rfl : args = #[v0] := by cases args; simp_all
  obtain ⟨rfl, rfl⟩ := trodVars_none hV
  have k0 := h0
  have lt0 : ∀ x ∈ p0, x.block < W.heap.size := by obtain ⟨m, hm⟩ := k0; exact DataW.trod_lt m _ _ _ hm
  obtain ⟨a0, len0, cap0, rfl⟩ := okWide_slice Try.underlying34 (hval 0 34 v0 rfl rfl)
  obtain ⟨z0, w0⟩ : ∃ zs, IsRow .u8 W a0 len0 cap0 zs := by
    obtain ⟨fuel, hf⟩ := h0
    rcases open_ints Try.underlying34 Try.underlying5 (by kernel_rfl) hf with ⟨hcs, _⟩ | ⟨x, l, c, zs, hcs, _, hl, hm, hz, _, hcell, hwz⟩
    · simp [Value.cells] at hcs
      obtain ⟨rfl, rfl, rfl⟩ := hcs
      exact ⟨[], .inl ⟨rfl, rfl, rfl, rfl⟩⟩
    · simp [Value.cells] at hcs
      obtain ⟨rfl, rfl, rfl⟩ := hcs
      exact ⟨zs, .inr ⟨_, rfl, hl, hm, by simpa using hz, hcell, hwz⟩⟩
  clear hA0 hval0
  refine (walk a0 len0 cap0 z0 W w0).mono fun e W' ⟨he, bel⟩ => ?_
  subst he
  exact ⟨_, rfl, _, _, _, [], _, [], hW', trodAll_mk1 (shut_bool Try.underlying4 _), (trodAll_cons_mk (Below.trod laidOut (by kernel_rfl) (of_decide_eq_true (by kernel_rfl)) k0 bel lt0) trodAll_mk0), rfl, bel.frame _, fun h => by cases h⟩

theorem over : Rows.fnMoveHopsRow.holds Try.pinned (OpenSpec.ofChange Rows.fnMoveHopsSpec) :=
  OpenClaim.holds_of_wide 9 Try.f9 rfl rfl rfl rfl rfl rfl rfl ⟨rfl, rfl, rfl, rfl, rfl⟩ rfl rfl rfl rfl rfl (by kernel_rfl) Try.func9 (by kernel_rfl)
    (of_decide_eq_true (by kernel_rfl)) (by unfold Func.isWrapper; first | (rw [if_pos (by decide +kernel)]; kernel_rfl) | (rw [if_neg (by decide +kernel)]; exact ⟨rfl, rfl⟩))
    (fun os started H enc _ => lifted os started H enc)

theorem proved : Rows.FnMoveHopsSaid := over
#print axioms proved
end Go.Proofs.Ytnklnafcbjnmfaa.fnMoveHops
