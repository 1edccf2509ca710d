/- The law FnRemap holds for every input that the given row lets in: the program's answer is the reference's. No condition of its own. -/
import Derived.Test.YtnklnafcbjnmfaaRows
import Derived.WalkKit
import Derived.ProofKit
import Derived.OpenShut
import Derived.ShutString
import Derived.ChangeOld
import Derived.Below
import Derived.Lib.SmallJoins
import Derived.Test.YtnklnafcbjnmfaaLw
import Derived.Test.YtnklnafcbjnmfaaHr
namespace Go.Proofs.Ytnklnafcbjnmfaa.fnRemap
open Go.ChangeShapes Go.WideShapes Go.ChangeAt Go.RowKit
open Go.ChangeMaps (open_string shut_string)
set_option linter.unusedVariables false

theorem own : ownKnob Try.prog.godebug = none := by kernel_rfl
theorem laidOut : laidOutB Try.prog = true := by kernel_rfl

/-- A slice of integers that came in: nil, or a row of 'cap' cells that hold the numbers zs. -/
def IsRow (k : IntKind) (w : World) (a : Option Addr) (len cap : Nat) (zs : List Int) : Prop :=
  (a = none ∧ len = 0 ∧ cap = 0 ∧ zs = []) ∨
  ∃ x, a = some x ∧ len ≤ cap ∧ cap ≤ maxLen ∧ zs.length = cap ∧ (∀ i, i < zs.length → w.cell? (x.add i) = some (.int k (zs.getD i 0))) ∧ ∀ n ∈ zs, (Lit.int k n).wf = true

theorem remOk_parts {l bad : List Int} {ch : Int} (h : remOk l ch bad = true) : hopsB l ch = true ∧ jamB bad = true ∧ 0 < (goodL ch.toNat bad).length := by
  unfold remOk at h; simp only [Bool.and_eq_true, decide_eq_true_eq] at h; exact ⟨h.1.1, h.1.2, h.2⟩
theorem goodL_at {m : Nat} {bad : List Int} {x : Int} (h : x ∈ goodL m bad) : (0 ≤ x ∧ x < m) ∧ hasB bad x = false := by
  unfold goodL at h
  rw [List.mem_filter, List.mem_map] at h
  obtain ⟨⟨i, hi, rfl⟩, h2⟩ := h
  rw [List.mem_range] at hi
  exact ⟨by omega, by simpa using h2⟩
theorem remAt_spec {ch : Int} {bad : List Int} {x : Int} (hc : 1 ≤ ch) (hg : 0 < (goodL ch.toNat bad).length) (hx : 0 ≤ x ∧ x ≤ ch - 1) : (0 ≤ remAt ch.toNat bad x ∧ remAt ch.toNat bad x ≤ ch - 1) ∧ hasB bad (remAt ch.toNat bad x) = false := by
  unfold remAt
  by_cases h : hasB bad x = true
  · rw [if_pos h]
    have hi : x.toNat % (goodL ch.toNat bad).length < (goodL ch.toNat bad).length := Nat.mod_lt _ hg
    have e : (goodL ch.toNat bad).getD (x.toNat % (goodL ch.toNat bad).length) 0 = (goodL ch.toNat bad)[x.toNat % (goodL ch.toNat bad).length] := by simp [List.getD, hi]
    rw [e]
    have := goodL_at (List.getElem_mem hi)
    exact ⟨by omega, this.2⟩
  · rw [if_neg h]; exact ⟨hx, by simpa using h⟩
theorem remAt_good {m : Nat} {bad : List Int} {x : Int} (h : hasB bad x = false) : remAt m bad x = x := by unfold remAt; rw [if_neg (by rw [h]; decide)]
theorem rem_mem {l bad : List Int} {ch : Int} (h : remOk l ch bad = true) : ∀ y ∈ l.map (remAt ch.toNat bad), (0 ≤ y ∧ y ≤ ch - 1) ∧ hasB bad y = false := by
  obtain ⟨h1, h2, h3⟩ := remOk_parts h
  obtain ⟨hc, _, ha⟩ := hopsB_ch h1
  intro y hy
  obtain ⟨x, hx, rfl⟩ := List.mem_map.1 hy
  unfold allB at ha; rw [List.all_eq_true] at ha
  exact remAt_spec hc.1 h3 (inB_iff.1 (ha x hx))
theorem rem_hops {l bad : List Int} {ch : Int} (h : remOk l ch bad = true) : hopsB (l.map (remAt ch.toNat bad)) ch = true := by
  obtain ⟨h1, h2, h3⟩ := remOk_parts h
  obtain ⟨hc, hl, _⟩ := hopsB_ch h1
  refine hopsB_mk hc (by rw [List.length_map]; exact hl) ?_
  unfold allB; rw [List.all_eq_true]
  exact fun y hy => inB_true (rem_mem h y hy).1.1 (rem_mem h y hy).1.2
theorem rem_again {l bad : List Int} {ch : Int} (h : remOk l ch bad = true) : remHops (l.map (remAt ch.toNat bad)) ch bad = some (l.map (remAt ch.toNat bad)) := by
  obtain ⟨h1, h2, h3⟩ := remOk_parts h
  rw [remHops_yes (remOk_yes (rem_hops h) h2 h3)]
  congr 1
  rw [List.map_map]
  refine List.map_congr_left fun x hx => ?_
  exact remAt_good (rem_mem h _ (List.mem_map_of_mem hx)).2
theorem rem_jam {l bad : List Int} {ch : Int} (h : remOk l ch bad = true) : jamHops (l.map (remAt ch.toNat bad)) bad = 0 := by
  obtain ⟨h1, h2, h3⟩ := remOk_parts h
  obtain ⟨hc, hl, ha⟩ := hopsB_ch (rem_hops h)
  have h16 : hopsB (l.map (remAt ch.toNat bad)) 16 = true := hopsB_mk (by omega) hl (allB_mono ha (by omega))
  unfold jamHops
  rw [h16, h2]
  simp only [Bool.and_self, if_true]
  have e : cntB (hasB bad) (l.map (remAt ch.toNat bad)) = 0 := by
    unfold cntB
    rw [List.length_eq_zero_iff, List.filter_eq_nil_iff]
    intro y hy
    rw [(rem_mem h y hy).2]; decide
  rw [e]; rfl
theorem ssHas_t {ao : Option Addr} {n c : Nat} {l : List Int} {x : Int} {w : World} (h : Rd w ao n l) (k : Nat) (hh : hasB l x = true) : Calls Try.prog 31 #[.slice ao n c, .int .i64 x] (w.drewN k) fun e w' => e = .returned (.bool true) ∧ w.drewN k = w' := by
  have := ssHas_c (c := c) x (h.qw (Qw.drewN w k)); rwa [hh] at this
theorem ssHas_f {ao : Option Addr} {n c : Nat} {l : List Int} {x : Int} {w : World} (h : Rd w ao n l) (k : Nat) (hh : hasB l x = false) : Calls Try.prog 31 #[.slice ao n c, .int .i64 x] (w.drewN k) fun e w' => e = .returned (.bool false) ∧ w.drewN k = w' := by
  have := ssHas_c (c := c) x (h.qw (Qw.drewN w k)); rwa [hh] at this
set_option maxRecDepth 100000
set_option maxHeartbeats 4000000 in
theorem walk (a0 : Option Addr) (len0 cap0 : Nat) (z0 : List Int) (w : World) (w0 : IsRow .u8 w a0 len0 cap0 z0) :
    Calls Try.prog 11 #[.slice a0 len0 cap0] w fun e w' => e = .returned (.bool true) ∧ Below w.heap.size w w' := by
  by_cases hn : len0 ≤ 1048576
  · have hC := codeW_of_row w0 (by omega)
    clear w0
    go_enter Try.func11, Try.ntmps11
    go_wp2_with fail
    refine (DrawRemapHops_c hC).mono ?_; rintro e w1 ⟨ao, n, c, l, ch, bo, m, d, bad, rfl, hL1, h301, hk0, hk1, hJ1, h17, hb1⟩
    clear hC
    by_cases hok : remOk l ch bad = true
    · have HY := Lib.hid (remHops_yes hok)
      have HZ := Lib.hid (rem_again hok)
      have HV := Lib.hid (rem_hops hok)
      have HJM := Lib.hid (rem_jam hok)
      have hXlen : (l.map (remAt ch.toNat bad)).length = l.length := List.length_map ..
      have hXget : ∀ k (h1 : k < l.length) (h2 : k < (l.map (remAt ch.toNat bad)).length), hasB bad l[k] = false → (l.map (remAt ch.toNat bad))[k] = l[k] := fun k h1 h2 hh => by simp [remAt_good hh]
      clear hok
      generalize l.map (remAt ch.toNat bad) = X at HY HZ HV HJM hXlen hXget
      have HXL := Lib.hid hXlen; have HXG := Lib.hid hXget; clear hXlen hXget
      go_wp2_with fail
      refine (RemapHops_c ch hL1.1 hJ1.1).mono ?_; rintro e w2 hret
      rw [HY.out] at hret; obtain ⟨a2, n2, c2, rfl, hx2, hb2⟩ := hret.some
      have hL2 := hL1.below hb2
      have hJ2 := hJ1.below hb2
      have hB2 := hb1.trans (hb2.mono hb1.size)
      clear hL1 hJ1 hb1 hb2
      go_wp2_with fail
      refine (sRemapHops_c ch hL2.1 hJ2.1).mono ?_; rintro e w3 hret
      rw [HY.out] at hret; obtain ⟨a3, n3, c3, rfl, hy3, hb3⟩ := hret.some
      have hL3 := hL2.below hb3
      have hJ3 := hJ2.below hb3
      have hx3 := hx2.below hb3
      have hB3 := hB2.trans (hb3.mono hB2.size)
      clear hL2 hJ2 hx2 hb3 hB2
      go_wp2_with fail
      refine (ssInts_c hx3.rd hy3.rd).mono ?_; rintro e w4 ⟨rfl, hq4⟩
      rw [sameB_self]
      have hL4 := hL3.below (hq4.below _)
      have hJ4 := hJ3.below (hq4.below _)
      have hx4 := hx3.qw hq4
      have hB4 := hB3.trans ((hq4.below w3.heap.size).mono hB3.size)
      clear hL3 hJ3 hx3 hy3 hB3 hq4
      go_wp2_with fail
      refine (RemapHops_c ch hx4.rd hJ4.1).mono ?_; rintro e w5 hret
      rw [HZ.out] at hret; obtain ⟨a5, n5, c5, rfl, hz5, hb5⟩ := hret.some
      have hL5 := hL4.below hb5
      have hJ5 := hJ4.below hb5
      have hx5 := hx4.below hb5
      have hB5 := hB4.trans (hb5.mono hB4.size)
      clear hL4 hJ4 hx4 hb5 hB4
      have HL := Lib.hid hL5.1.1
      have HX := Lib.hid hx5.1
      have hs := hL5.1.2.1
      have hnx := Lib.hid (show n = n2 by rw [HL.out, HX.out, HXL.out])
      go_wp2_with fail
      go_loopw [12] (fun i wr => ∃ k : Nat, k ≤ n ∧ i = .int .i64 k ∧ Qw w5 wr) (fun i _ => n - (intOf i).toNat)
      case atStart => exact ⟨0, Nat.zero_le _, rfl, Qw.refl _⟩
      case round =>
        obtain ⟨k, hk, rfl, hq⟩ := hrel
        have hL6 := hL5.below (hq.below _)
        have hJ6 := hJ5.below (hq.below _)
        have hx6 := hx5.qw hq
        have hz6 := hz5.qw hq
        by_cases hlt : k < n
        · obtain ⟨b1, o1, rfl, hl1, hc1⟩ := hL6.1.at hlt
          obtain ⟨b2, o2, rfl, hl2, hc2⟩ := hx6.rd.at (show k < n2 by have := hnx.out; omega)
          have hk2 : k < n2 := by have := hnx.out; omega
          clear hL5 hJ5 hx5 hz5
          by_cases hh : hasB bad l[k] = true
          · have HH := Lib.hid hh; clear hh
            go_wp2_with fail
            go_quiet ((first | (go_at_call 31; exact quiet_eq (ssHas_t hJ6.1 _ HH.out))))
            go_wp2_with fail
            go_roundw
            case rel => exact ⟨k + 1, by omega, by go_num, hq.trans (Qw.drewN _ _)⟩
            case measure => simp [intOf]; omega
          · have hh' : hasB bad l[k] = false := by simpa using hh
            have hxe := HXG.out k hl1 hl2 hh'
            rw [hxe] at hc2
            have HH := Lib.hid hh'; clear hh hh' hxe
            go_wp2_with fail
            go_quiet ((first | (go_at_call 31; exact quiet_eq (ssHas_f hJ6.1 _ HH.out))))
            go_wp2_with fail
            go_roundw
            case rel => exact ⟨k + 1, by omega, by go_num, hq.trans (Qw.drewN _ _)⟩
            case measure => simp [intOf]; omega
        · have hnn : ((n2 : Int) == (n : Int)) = true := by have := hnx.out; simp; omega
          have hB6 := hB5.trans ((hq.below w5.heap.size).mono hB5.size)
          clear hL5 hJ5 hx5 hz5
          go_wp2_with fail
          refine (JammedHops_c hx6.rd hJ6.1).mono ?_; rintro e w' ⟨rfl, rfl⟩
          rw [HJM.out]
          go_wp2_with fail
          refine (HopsValid_c ch hx6.rd).mono ?_; rintro e w' ⟨rfl, rfl⟩
          rw [HV.out]
          go_wp2_with fail
          refine (ssInts_c hz6.rd hx6.rd).mono ?_; rintro e w7 ⟨rfl, hq7⟩
          rw [sameB_self]
          have hB7 := hB6.trans ((hq7.below wr.heap.size).mono hB6.size)
          go_wp2_with fail
          go_ret
          exact ⟨rfl, hB7⟩
    · have HY := Lib.hid (remHops_no (show remOk l ch bad = false by simpa using hok))
      clear hok
      go_wp2_with fail
      refine (RemapHops_c ch hL1.1 hJ1.1).mono ?_; rintro e w2 hret
      rw [HY.out] at hret; obtain ⟨a2, n2, c2, rfl, hx2, hb2⟩ := hret.none
      have hL2 := hL1.below hb2
      have hJ2 := hJ1.below hb2
      have hB2 := hb1.trans (hb2.mono hb1.size)
      clear hL1 hJ1 hb1 hb2
      go_wp2_with fail
      refine (sRemapHops_c ch hL2.1 hJ2.1).mono ?_; rintro e w3 hret
      rw [HY.out] at hret; obtain ⟨a3, n3, c3, rfl, hy3, hb3⟩ := hret.none
      have hx3 := hx2.below hb3
      have hB3 := hB2.trans (hb3.mono hB2.size)
      clear hL2 hJ2 hx2 hb3 hB2
      go_wp2_with fail
      refine (ssInts_c hx3.rd hy3.rd).mono ?_; rintro e w4 ⟨rfl, hq4⟩
      rw [sameB_self]
      have hx4 := hx3.qw hq4
      have hy4 := hy3.qw hq4
      have hB4 := hB3.trans ((hq4.below w3.heap.size).mono hB3.size)
      clear hx3 hy3 hB3 hq4
      go_wp2_with fail
      refine (ssInts_c hx4.rd hy4.rd).mono ?_; rintro e w5 ⟨rfl, hq5⟩
      rw [sameB_self]
      have hB5 := hB4.trans ((hq5.below w4.heap.size).mono hB4.size)
      go_wp2_with fail
      go_ret
      exact ⟨rfl, hB5⟩
  · have hn' : (1048576 : Int) < (len0 : Int) := by omega
    go_enter Try.func11, Try.ntmps11
    go_wp2_with fail
    go_ret
    exact ⟨rfl, Below.refl _ _⟩

set_option maxRecDepth 100000 in
theorem lifted (os : Os) (started : os.Started) (H : Type) (enc : TypeId × Value → H) :
    ReturnsInHanded {} Try.checked os 11 .any (Rows.fnRemapSpec.pre6 enc Try.prog Try.f11 Rows.fnRemapRow.domain false) (Rows.fnRemapSpec.post enc Try.prog Try.f11 false true false false) := by
  refine returnsInHanded_of_change (C := Try.checked) own started (by kernel_rfl) Try.func11
    (ChangeSpec.witness6 (enc := enc) (C := Try.checked) false ⟨#[], #[.slice none 0 0], []⟩ 8 (by kernel_rfl) (by kernel_rfl) (by kernel_rfl) (by kernel_rfl)) ?_
  intro W base args ds gs before hval0 hW hcnd _
  have hval : ∀ (j : Nat) t v, Try.f11.params[j]? = some t → args[j]? = some v → Value.okWide Try.prog W .any base t v := hval0
  have hW' := hW
  obtain ⟨p, q, hA0, hV, rfl, hfz, hnd⟩ := hW
  have hA : DataW.TrodAll enc Try.prog W 0 (fun _ => true) true Try.f11.params.toList args.toList ds p := hA0
  rw [Try.params11] at hA hval
  obtain ⟨v0, vs0, d0, ds0, p0, q0, hargs, rfl, rfl, h0, r0⟩ := trodAll_cons hA
  obtain ⟨rfl, rfl, rfl⟩ := trodAll_nil r0
  obtain rfl : args = #[v0] := by cases args; simp_all
  obtain ⟨rfl, rfl⟩ := trodVars_none hV
  have k0 := h0
  have lt0 : ∀ x ∈ p0, x.block < W.heap.size := by obtain ⟨m, hm⟩ := k0; exact DataW.trod_lt m _ _ _ hm
  obtain ⟨a0, len0, cap0, rfl⟩ := okWide_slice Try.underlying34 (hval 0 34 v0 rfl rfl)
  obtain ⟨z0, w0⟩ : ∃ zs, IsRow .u8 W a0 len0 cap0 zs := by
    obtain ⟨fuel, hf⟩ := h0
    rcases open_ints Try.underlying34 Try.underlying5 (by kernel_rfl) hf with ⟨hcs, _⟩ | ⟨x, l, c, zs, hcs, _, hl, hm, hz, _, hcell, hwz⟩
    · simp [Value.cells] at hcs
      obtain ⟨rfl, rfl, rfl⟩ := hcs
      exact ⟨[], .inl ⟨rfl, rfl, rfl, rfl⟩⟩
    · simp [Value.cells] at hcs
      obtain ⟨rfl, rfl, rfl⟩ := hcs
      exact ⟨zs, .inr ⟨_, rfl, hl, hm, by simpa using hz, hcell, hwz⟩⟩
  clear hA0 hval0
  refine (walk a0 len0 cap0 z0 W w0).mono fun e W' ⟨he, bel⟩ => ?_
  subst he
  exact ⟨_, rfl, _, _, _, [], _, [], hW', trodAll_mk1 (shut_bool Try.underlying4 _), (trodAll_cons_mk (Below.trod laidOut (by kernel_rfl) (of_decide_eq_true (by kernel_rfl)) k0 bel lt0) trodAll_mk0), rfl, bel.frame _, fun h => by cases h⟩

theorem over : Rows.fnRemapRow.holds Try.pinned (OpenSpec.ofChange Rows.fnRemapSpec) :=
  OpenClaim.holds_of_wide 11 Try.f11 rfl rfl rfl rfl rfl rfl rfl ⟨rfl, rfl, rfl, rfl, rfl⟩ rfl rfl rfl rfl rfl (by kernel_rfl) Try.func11 (by kernel_rfl)
    (of_decide_eq_true (by kernel_rfl)) (by unfold Func.isWrapper; first | (rw [if_pos (by decide +kernel)]; kernel_rfl) | (rw [if_neg (by decide +kernel)]; exact ⟨rfl, rfl⟩))
    (fun os started H enc _ => lifted os started H enc)

theorem proved : Rows.FnRemapSaid := over
#print axioms proved
end Go.Proofs.Ytnklnafcbjnmfaa.fnRemap
