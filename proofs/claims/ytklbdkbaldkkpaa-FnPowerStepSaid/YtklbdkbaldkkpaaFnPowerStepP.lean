/- The law FnPowerStep holds for every input that the given row lets in: the program's answer is the reference's. No condition of its own. -/
import Derived.Test.YtklbdkbaldkkpaaRows
import Derived.WalkKit
import Derived.ProofKit
import Derived.OpenShut
import Derived.ShutString
import Derived.ChangeOld
import Derived.Below
import Derived.Lib.SmallJoins
import Derived.Test.YtklbdkbaldkkpaaLt
import Derived.Test.YtklbdkbaldkkpaaPs
import Derived.Test.YtklbdkbaldkkpaaPt
namespace Go.Proofs.Ytklbdkbaldkkpaa.fnPowerStep
open Go.ChangeShapes Go.WideShapes Go.ChangeAt Go.RowKit
open Go.ChangeMaps (open_string shut_string)
set_option linter.unusedVariables false

theorem own : ownKnob Try.prog.godebug = none := by kernel_rfl
theorem laidOut : laidOutB Try.prog = true := by kernel_rfl

/-- A slice of integers that came in: nil, or a row of 'cap' cells that hold the numbers zs. -/
def IsRow (k : IntKind) (w : World) (a : Option Addr) (len cap : Nat) (zs : List Int) : Prop :=
  (a = none ∧ len = 0 ∧ cap = 0 ∧ zs = []) ∨
  ∃ x, a = some x ∧ len ≤ cap ∧ cap ≤ maxLen ∧ zs.length = cap ∧ (∀ i, i < zs.length → w.cell? (x.add i) = some (.int k (zs.getD i 0))) ∧ ∀ n ∈ zs, (Lit.int k n).wf = true

theorem goalOf_cell {l : List Stn} {t : Int} (h : cellB l = true) (ht : inB t 0 40 = true) {k : Nat} (hk : k < l.length) : goalOf l[k].nm l[k].ph l[k].g l[k].l t = goalS t l[k] := goalOf_yes (cellB_st h hk) ht
theorem pstS_three (t : Int) (s : Stn) : ((pstS t s).g = s.g + 1 ∧ s.g < goalS t s) ∨ ((pstS t s).g = s.g - 1 ∧ goalS t s < s.g) ∨ ((pstS t s).g = s.g ∧ s.g = goalS t s) := by
  rw [pstS_g]
  split
  · exact .inl ⟨rfl, by assumption⟩
  · split
    · exact .inr (.inl ⟨rfl, by omega⟩)
    · exact .inr (.inr ⟨rfl, by omega⟩)
set_option maxRecDepth 100000
set_option maxHeartbeats 4000000 in
theorem walk (a0 : Option Addr) (len0 cap0 : Nat) (z0 : List Int) (w : World) (w0 : IsRow .u8 w a0 len0 cap0 z0) :
    Calls Try.prog 9 #[.slice a0 len0 cap0] w fun e w' => e = .returned (.bool true) ∧ Below w.heap.size w w' := by
  by_cases hn : len0 ≤ 1048576
  · have hC := codeW_of_row w0 (by omega)
    clear w0
    go_enter Try.func9, Try.ntmps9
    go_wp2_with fail
    refine (DrawPowerStep_c hC).mono ?_; rintro e w1 ⟨ao, n, c, l, t, rfl, hL1, ht0, ht1, hb1⟩
    clear hC
    by_cases hok : cellB l = true ∧ inB t 0 40 = true
    · obtain ⟨hcell, htb⟩ := hok
      have ht := inB_iff.1 htb
      have HR := Lib.hid (stepR_yes hcell htb)
      have HCM := Lib.hid (cellB_map ht hcell)
      obtain ⟨T, hT⟩ : ∃ T, timeT l t l.length = T := ⟨_, rfl⟩
      have hTb := timeT_bd hcell ht l.length
      rw [hT] at hTb
      have HT := Lib.hid (show timeR l t = T by rw [timeR_yes hcell htb, hT])
      have HT2 := Lib.hid (show timeR (l.map (pstS t)) t = max (T - 1) 0 by rw [timeR_yes (cellB_map ht hcell) htb, timeT_step, hT])
      have HSS := Lib.hid (show decide (l.map (pstS t) = l) = (T == 0) by
        rw [Bool.eq_iff_iff, decide_eq_true_eq, beq_iff_eq]
        exact ⟨fun h => by rw [← hT]; exact step_same_inv h, fun h => step_same (by rw [hT]; exact h)⟩)
      have HGO := Lib.hid (fun k (hk : k < l.length) => goalOf_cell hcell htb hk)
      have HST := Lib.hid (fun k (hk : k < l.length) => (stOk_parts ((cellB_iff.1 hcell).2.1 _ (List.getElem_mem hk))).2.2.1)
      clear hcell htb hT
      go_wp2_with fail
      refine (PowerStep_c t hL1.1 hL1.2.1).mono ?_; rintro e w2 hret
      rw [HR.out] at hret; obtain ⟨a2, n2, c2, rfl, hx2, hb2⟩ := hret.some
      have hL2 := hL1.below hb2
      have hB2 := hb1.trans (hb2.mono hb1.size)
      clear hL1 hb1 hb2
      go_wp2_with fail
      refine (sPowerStep_c t hL2.1 hL2.2.2.1 hL2.2.2.2.2.big).mono ?_; rintro e w3 hret
      rw [HR.out] at hret; obtain ⟨a3, n3, c3, rfl, hy3, hb3⟩ := hret.some
      have hL3 := hL2.below hb3
      have hx3 := hx2.below hb3
      have hB3 := hB2.trans (hb3.mono hB2.size)
      clear hL2 hx2 hb3 hB2
      go_wp2_with fail
      refine (PowerTime_c t hL3.1 hL3.2.1).mono ?_; rintro e w4 ⟨rfl, hb4⟩
      rw [HT.out]
      have hL4 := hL3.below hb4
      have hx4 := hx3.below hb4
      have hy4 := hy3.below hb4
      have hB4 := hB3.trans (hb4.mono hB3.size)
      clear hL3 hx3 hy3 hb4 hB3
      go_wp2_with fail
      refine (ssCells_same hx4.rd hy4.rd).mono ?_; rintro e w5 ⟨rfl, hq5⟩
      have hL5 := hL4.below (hq5.below _)
      have hx5 := hx4.qw hq5
      have hB5 := hB4.trans ((hq5.below w4.heap.size).mono hB4.size)
      clear hL4 hx4 hy4 hB4 hq5
      go_wp2_with fail
      refine (sPowerTime_c t hL5.1 hL5.2.2.2.2.big).mono ?_; rintro e w6 ⟨rfl, hb6⟩
      rw [HT.out]
      have hL6 := hL5.below hb6
      have hx6 := hx5.below hb6
      have hB6 := hB5.trans (hb6.mono hB5.size)
      clear hL5 hx5 hB5 hb6
      have HN := Lib.hid hL6.1.1
      have HN2 := Lib.hid hx6.1
      have hs := hL6.1.2.1
      have hn4 : n ≤ 4 := by have := HN.out; have := hL6.2.2.2.1; omega
      obtain rfl : n2 = n := by have h1 := HN.out; have h2 := HN2.out; rw [List.length_map] at h2; omega
      have hzb := hB6.size
      go_wp2_with fail
      go_loopw [10] (fun i wr => ∃ k : Nat, k ≤ n2 ∧ i = .int .i64 k ∧ Below w6.heap.size w6 wr) (fun i _ => n2 - (intOf i).toNat)
      case atStart => exact ⟨0, Nat.zero_le _, rfl, Below.refl _ _⟩
      case round =>
        obtain ⟨k, hk, rfl, hb⟩ := hrel
        have hz := hb.size
        by_cases hlt : k < n2
        · obtain ⟨b1, o1, rfl, hl, hc0, hc1, hc2, hc3⟩ := (hL6.below hb).1.at hlt
          obtain ⟨b2, o2, rfl, hl2, hd0, hd1, hd2, hd3⟩ := (hx6.below hb).rd.at hlt
          have hg := HST.out k hl
          obtain ⟨y, hy⟩ : ∃ y, y = (pstS t l[k]).g := ⟨_, rfl⟩
          have hmk : (l.map (pstS t))[k] = ⟨l[k].nm, l[k].ph, y, l[k].l⟩ := by rw [List.getElem_map, hy]; rfl
          rw [hmk] at hd0 hd1 hd2 hd3
          change _ = some (Value.string l[k].nm) at hd0
          change _ = some (Value.string l[k].ph) at hd1
          change _ = some (Value.int .i64 y) at hd2
          change _ = some (Value.int .i64 l[k].l) at hd3
          obtain ⟨q, hq⟩ : ∃ q, goalS t l[k] = q := ⟨_, rfl⟩
          have HQ := Lib.hid (show goalOf l[k].nm l[k].ph l[k].g l[k].l t = q by rw [HGO.out k hl, hq])
          have h3 := pstS_three t l[k]
          rw [← hy, hq] at h3
          have HMK := Lib.hid hmk
          clear hmk hy hq
          rcases h3 with ⟨e, hgt⟩ | ⟨e, hgt⟩ | ⟨e, hgt⟩
          · have hv : IntKind.i64.wrap (y - l[k].g) = 1 := by rw [e]; exact (IntWalk.i64_in _ (by omega)).trans (by omega)
            have hne : (l[k].g == q) = false := by simp; omega
            have hnt : decide (q < l[k].g) = false := by simp; omega
            clear e
            go_wp2_with fail
            go_quiet (fail)
            clear hv
            go_wp2_with fail
            refine (PowerGoal_c _ _ _ _ _ _).mono ?_; rintro e w8 ⟨rfl, hb8⟩
            rw [HQ.out]
            have hb9 : Below w6.heap.size w6 w8 := (below_drewN hb _).trans (hb8.mono (by simpa using hz))
            obtain ⟨b1', o1', he1, hl', hc0', hc1', hc2', hc3'⟩ := (hL6.below hb9).1.at hlt
            obtain ⟨b2', o2', he2, hl2', hd0', hd1', hd2', hd3'⟩ := (hx6.below hb9).rd.at hlt
            cases he1; cases he2
            rw [HMK.out] at hd0' hd1' hd2' hd3'
            change _ = some (Value.string l[k].nm) at hd0'
            change _ = some (Value.string l[k].ph) at hd1'
            clear hc0 hc1 hc2 hc3 hd0 hd1 hd2 hd3 hd2' hd3' hb hb8
            go_wp2_with fail
            dsimp only [List.append]
            go_big_quiet (fail)
            go_wp2_with fail
            go_roundw
            case rel => exact ⟨k + 1, by omega, by go_num, below_drewN hb9 _⟩
            case measure => simp [intOf]; omega
          · have hv : IntKind.i64.wrap (y - l[k].g) = -1 := by rw [e]; exact (IntWalk.i64_in _ (by omega)).trans (by omega)
            have hne : (l[k].g == q) = false := by simp; omega
            have hnt : decide (l[k].g < q) = false := by simp; omega
            clear e
            go_wp2_with fail
            go_quiet (fail)
            clear hv
            go_wp2_with fail
            refine (PowerGoal_c _ _ _ _ _ _).mono ?_; rintro e w8 ⟨rfl, hb8⟩
            rw [HQ.out]
            have hb9 : Below w6.heap.size w6 w8 := (below_drewN hb _).trans (hb8.mono (by simpa using hz))
            obtain ⟨b1', o1', he1, hl', hc0', hc1', hc2', hc3'⟩ := (hL6.below hb9).1.at hlt
            obtain ⟨b2', o2', he2, hl2', hd0', hd1', hd2', hd3'⟩ := (hx6.below hb9).rd.at hlt
            cases he1; cases he2
            rw [HMK.out] at hd0' hd1' hd2' hd3'
            change _ = some (Value.string l[k].nm) at hd0'
            change _ = some (Value.string l[k].ph) at hd1'
            clear hc0 hc1 hc2 hc3 hd0 hd1 hd2 hd3 hd2' hd3' hb hb8
            go_wp2_with fail
            dsimp only [List.append]
            go_big_quiet (fail)
            go_wp2_with fail
            go_roundw
            case rel => exact ⟨k + 1, by omega, by go_num, below_drewN hb9 _⟩
            case measure => simp [intOf]; omega
          · have hv : IntKind.i64.wrap (y - l[k].g) = 0 := by rw [e]; exact (IntWalk.i64_in _ (by omega)).trans (by omega)
            have hne : (l[k].g == q) = true := by simp; omega
            have HGT := Lib.hid hgt
            clear e hgt
            go_wp2_with fail
            go_quiet (fail)
            clear hv
            go_wp2_with fail
            refine (PowerGoal_c _ _ _ _ _ _).mono ?_; rintro e w8 ⟨rfl, hb8⟩
            rw [HQ.out]
            have hb9 : Below w6.heap.size w6 w8 := (below_drewN hb _).trans (hb8.mono (by simpa using hz))
            obtain ⟨b1', o1', he1, hl', hc0', hc1', hc2', hc3'⟩ := (hL6.below hb9).1.at hlt
            obtain ⟨b2', o2', he2, hl2', hd0', hd1', hd2', hd3'⟩ := (hx6.below hb9).rd.at hlt
            cases he1; cases he2
            rw [HMK.out] at hd0' hd1' hd2' hd3'
            change _ = some (Value.string l[k].nm) at hd0'
            change _ = some (Value.string l[k].ph) at hd1'
            clear hc0 hc1 hc2 hc3 hd0 hd1 hd2 hd3 hd2' hd3' hb hb8
            go_wp2_with fail
            dsimp only [List.append]
            go_big_quiet (fail)
            go_wp2_with fail
            go_roundw
            case rel => exact ⟨k + 1, by omega, by go_num, below_drewN hb9 _⟩
            case measure => simp [intOf]; omega
        · have hLk := hL6.below hb
          have hxk := hx6.below hb
          have hBk := hB6.trans (hb.mono hzb)
          clear hL6 hx6 hB6 hb
          by_cases hT1 : 0 ≤ T - 1
          · have HT3 := Lib.hid (show timeR (l.map (pstS t)) t = T - 1 by rw [HT2.out]; omega)
            go_wp2_with fail
            refine (CellValid_c hxk.rd hxk.cap'.1).mono ?_; rintro e w8 ⟨rfl, hb8⟩
            rw [HCM.out]
            have hL8 := hLk.below hb8
            have hx8 := hxk.below hb8
            have hB8 := hBk.trans (hb8.mono hBk.size)
            clear hLk hxk hBk hb8
            go_wp2_with fail
            refine (PowerTime_c t hx8.rd hx8.cap'.1).mono ?_; rintro e w9 ⟨rfl, hb9⟩
            rw [HT3.out]
            have hL9 := hL8.below hb9
            have hx9 := hx8.below hb9
            have hB9 := hB8.trans (hb9.mono hB8.size)
            clear hL8 hx8 hB8 hb9
            go_wp2_with fail
            refine (ssCells_c hx9.rd hL9.1 rfl (fun i h1 h2 => by rw [List.getElem_map]; exact pstS_nm t _)).mono ?_; rintro e w10 ⟨rfl, hq10⟩
            rw [HSS.out]
            have hBz := hB9.trans ((hq10.below w9.heap.size).mono hB9.size)
            clear hL9 hx9 hB9
            go_wp2_with fail
            go_ret
            exact ⟨rfl, hBz⟩
          · have HT3 := Lib.hid (show timeR (l.map (pstS t)) t = 0 by rw [HT2.out]; omega)
            have hT2 : T - 1 < 0 := by omega
            go_wp2_with fail
            refine (CellValid_c hxk.rd hxk.cap'.1).mono ?_; rintro e w8 ⟨rfl, hb8⟩
            rw [HCM.out]
            have hL8 := hLk.below hb8
            have hx8 := hxk.below hb8
            have hB8 := hBk.trans (hb8.mono hBk.size)
            clear hLk hxk hBk hb8
            go_wp2_with fail
            refine (PowerTime_c t hx8.rd hx8.cap'.1).mono ?_; rintro e w9 ⟨rfl, hb9⟩
            rw [HT3.out]
            have hL9 := hL8.below hb9
            have hx9 := hx8.below hb9
            have hB9 := hB8.trans (hb9.mono hB8.size)
            clear hL8 hx8 hB8 hb9
            go_wp2_with fail
            refine (ssCells_c hx9.rd hL9.1 rfl (fun i h1 h2 => by rw [List.getElem_map]; exact pstS_nm t _)).mono ?_; rintro e w10 ⟨rfl, hq10⟩
            rw [HSS.out]
            have hBz := hB9.trans ((hq10.below w9.heap.size).mono hB9.size)
            clear hL9 hx9 hB9
            go_wp2_with fail
            go_ret
            exact ⟨rfl, hBz⟩
    · have hno : stepR l t = none ∧ timeR l t = -1 := by
        by_cases hcell : cellB l = true
        · have h2 : inB t 0 40 = false := by
            rw [Bool.eq_false_iff]; exact fun h => hok ⟨hcell, h⟩
          exact ⟨stepR_no2 h2, timeR_no2 h2⟩
        · have h1 : cellB l = false := by simpa using hcell
          exact ⟨stepR_no1 h1, timeR_no1 h1⟩
      have HR := Lib.hid hno.1
      have HT := Lib.hid hno.2
      clear hno hok
      go_wp2_with fail
      refine (PowerStep_c t hL1.1 hL1.2.1).mono ?_; rintro e w2 hret
      rw [HR.out] at hret; obtain ⟨a2, n2, c2, rfl, hx2, hb2⟩ := hret.none
      have hL2 := hL1.below hb2
      have hB2 := hb1.trans (hb2.mono hb1.size)
      clear hL1 hb1 hb2
      go_wp2_with fail
      refine (sPowerStep_c t hL2.1 hL2.2.2.1 hL2.2.2.2.2.big).mono ?_; rintro e w3 hret
      rw [HR.out] at hret; obtain ⟨a3, n3, c3, rfl, hy3, hb3⟩ := hret.none
      have hL3 := hL2.below hb3
      have hx3 := hx2.below hb3
      have hB3 := hB2.trans (hb3.mono hB2.size)
      clear hL2 hx2 hb3 hB2
      go_wp2_with fail
      refine (PowerTime_c t hL3.1 hL3.2.1).mono ?_; rintro e w4 ⟨rfl, hb4⟩
      rw [HT.out]
      have hL4 := hL3.below hb4
      have hx4 := hx3.below hb4
      have hy4 := hy3.below hb4
      have hB4 := hB3.trans (hb4.mono hB3.size)
      clear hL3 hx3 hy3 hb4 hB3
      go_wp2_with fail
      refine (ssCells_same hx4.rd hy4.rd).mono ?_; rintro e w5 ⟨rfl, hq5⟩
      have hL5 := hL4.below (hq5.below _)
      have hx5 := hx4.qw hq5
      have hy5 := hy4.qw hq5
      have hB5 := hB4.trans ((hq5.below w4.heap.size).mono hB4.size)
      clear hL4 hx4 hy4 hB4 hq5
      go_wp2_with fail
      refine (sPowerTime_c t hL5.1 hL5.2.2.2.2.big).mono ?_; rintro e w6 ⟨rfl, hb6⟩
      rw [HT.out]
      have hL6 := hL5.below hb6
      have hx6 := hx5.below hb6
      have hy6 := hy5.below hb6
      have hB6 := hB5.trans (hb6.mono hB5.size)
      clear hL5 hx5 hy5 hB5 hb6
      go_wp2_with fail
      refine (ssCells_same hx6.rd hy6.rd).mono ?_; rintro e w7 ⟨rfl, hq7⟩
      have hL7 := hL6.below (hq7.below _)
      have hB7 := hB6.trans ((hq7.below w6.heap.size).mono hB6.size)
      clear hL6 hx6 hy6 hB6 hq7
      go_wp2_with fail
      refine (sPowerTime_c t hL7.1 hL7.2.2.2.2.big).mono ?_; rintro e w8 ⟨rfl, hb8⟩
      rw [HT.out]
      have hB8 := hB7.trans (hb8.mono hB7.size)
      clear hL7 hB7 hb8
      go_wp2_with fail
      go_ret
      exact ⟨rfl, hB8⟩
  · have hn' : (1048576 : Int) < (len0 : Int) := by omega
    go_enter Try.func9, Try.ntmps9
    go_wp2_with fail
    go_ret
    exact ⟨rfl, Below.refl _ _⟩

set_option maxRecDepth 100000 in
theorem lifted (os : Os) (started : os.Started) (H : Type) (enc : TypeId × Value → H) :
    ReturnsInHanded {} Try.checked os 9 .any (Rows.fnPowerStepSpec.pre6 enc Try.prog Try.f9 Rows.fnPowerStepRow.domain false) (Rows.fnPowerStepSpec.post enc Try.prog Try.f9 false true false false) := by
  refine returnsInHanded_of_change (C := Try.checked) own started (by kernel_rfl) Try.func9
    (ChangeSpec.witness6 (enc := enc) (C := Try.checked) false ⟨#[], #[.slice none 0 0], []⟩ 8 (by kernel_rfl) (by kernel_rfl) (by kernel_rfl) (by kernel_rfl)) ?_
  intro W base args ds gs before hval0 hW hcnd _
  have hval : ∀ (j : Nat) t v, Try.f9.params[j]? = some t → args[j]? = some v → Value.okWide Try.prog W .any base t v := hval0
  have hW' := hW
  obtain ⟨p, q, hA0, hV, rfl, hfz, hnd⟩ := hW
  have hA : DataW.TrodAll enc Try.prog W 0 (fun _ => true) true Try.f9.params.toList args.toList ds p := hA0
  rw [Try.params9] at hA hval
  obtain ⟨v0, vs0, d0, ds0, p0, q0, hargs, rfl, rfl, h0, r0⟩ := trodAll_cons hA
  obtain ⟨rfl, rfl, rfl⟩ := trodAll_nil r0
  obtain rfl : args = #[v0] := by cases args; simp_all
  obtain ⟨rfl, rfl⟩ := trodVars_none hV
  have k0 := h0
  have lt0 : ∀ x ∈ p0, x.block < W.heap.size := by obtain ⟨m, hm⟩ := k0; exact DataW.trod_lt m _ _ _ hm
  obtain ⟨a0, len0, cap0, rfl⟩ := okWide_slice Try.underlying22 (hval 0 22 v0 rfl rfl)
  obtain ⟨z0, w0⟩ : ∃ zs, IsRow .u8 W a0 len0 cap0 zs := by
    obtain ⟨fuel, hf⟩ := h0
    rcases open_ints Try.underlying22 Try.underlying5 (by kernel_rfl) hf with ⟨hcs, _⟩ | ⟨x, l, c, zs, hcs, _, hl, hm, hz, _, hcell, hwz⟩
    · simp [Value.cells] at hcs
      obtain ⟨rfl, rfl, rfl⟩ := hcs
      exact ⟨[], .inl ⟨rfl, rfl, rfl, rfl⟩⟩
    · simp [Value.cells] at hcs
      obtain ⟨rfl, rfl, rfl⟩ := hcs
      exact ⟨zs, .inr ⟨_, rfl, hl, hm, by simpa using hz, hcell, hwz⟩⟩
  clear hA0 hval0
  refine (walk a0 len0 cap0 z0 W w0).mono fun e W' ⟨he, bel⟩ => ?_
  subst he
  exact ⟨_, rfl, _, _, _, [], _, [], hW', trodAll_mk1 (shut_bool Try.underlying4 _), (trodAll_cons_mk (Below.trod laidOut (by kernel_rfl) (of_decide_eq_true (by kernel_rfl)) k0 bel lt0) trodAll_mk0), rfl, bel.frame _, fun h => by cases h⟩

theorem over : Rows.fnPowerStepRow.holds Try.pinned (OpenSpec.ofChange Rows.fnPowerStepSpec) :=
  OpenClaim.holds_of_wide 9 Try.f9 rfl rfl rfl rfl rfl rfl rfl ⟨rfl, rfl, rfl, rfl, rfl⟩ rfl rfl rfl rfl rfl (by kernel_rfl) Try.func9 (by kernel_rfl)
    (of_decide_eq_true (by kernel_rfl)) (by unfold Func.isWrapper; first | (rw [if_pos (by decide +kernel)]; kernel_rfl) | (rw [if_neg (by decide +kernel)]; exact ⟨rfl, rfl⟩))
    (fun os started H enc _ => lifted os started H enc)

theorem proved : Rows.FnPowerStepSaid := over
#print axioms proved
end Go.Proofs.Ytklbdkbaldkkpaa.fnPowerStep
