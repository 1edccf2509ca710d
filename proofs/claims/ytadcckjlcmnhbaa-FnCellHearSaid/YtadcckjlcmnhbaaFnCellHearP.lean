/- The law FnCellHear holds for every input that the given row lets in: the program's answer is the reference's. No condition of its own. -/
import Derived.Test.YtadcckjlcmnhbaaRows
import Derived.WalkKit
import Derived.ProofKit
import Derived.OpenShut
import Derived.ShutString
import Derived.ChangeOld
import Derived.Below
import Derived.Lib.SmallJoins
import Derived.Test.YtadcckjlcmnhbaaPb
import Derived.Test.YtadcckjlcmnhbaaPc
import Derived.Test.YtadcckjlcmnhbaaLw
namespace Go.Proofs.Ytadcckjlcmnhbaa.fnCellHear
open Go.ChangeShapes Go.WideShapes Go.ChangeAt Go.RowKit
open Go.ChangeMaps (open_string shut_string)
set_option linter.unusedVariables false

theorem own : ownKnob Try.prog.godebug = none := by kernel_rfl
theorem laidOut : laidOutB Try.prog = true := by kernel_rfl

/-- A slice of integers that came in: nil, or a row of 'cap' cells that hold the numbers zs. -/
def IsRow (k : IntKind) (w : World) (a : Option Addr) (len cap : Nat) (zs : List Int) : Prop :=
  (a = none ∧ len = 0 ∧ cap = 0 ∧ zs = []) ∨
  ∃ x, a = some x ∧ len ≤ cap ∧ cap ≤ maxLen ∧ zs.length = cap ∧ (∀ i, i < zs.length → w.cell? (x.add i) = some (.int k (zs.getD i 0))) ∧ ∀ n ∈ zs, (Lit.int k n).wf = true

theorem TreeCode_t (p : ByteArray) (w : World) (hp : pathB p = true) : Calls Try.prog 11 #[.string p] w fun e w' => e = .returned (.tuple #[.string (treeT p), .bool true]) ∧ Below w.heap.size w w' := TreeCode_c p w hp
theorem mul_64 {K : Int} {n : Nat} (h : 0 ≤ K ∧ K ≤ 1000) (hn : n ≤ 64) : IntKind.i64.wrap (K * (n : Int)) = K * (n : Int) := by
  have a : K * (n : Int) ≤ 1000 * 64 := Int.mul_le_mul h.2 (by omega) (by omega) (by omega)
  have b : 0 ≤ K * (n : Int) := Int.mul_nonneg h.1 (by omega)
  exact IntWalk.i64_in _ (by omega)
theorem mul_64w {K : Int} {n : Nat} (h : 0 ≤ K ∧ K ≤ 1000) (hn : n ≤ 64) : wrap64 (K * (n : Int)) = K * (n : Int) := by
  have a : K * (n : Int) ≤ 1000 * 64 := Int.mul_le_mul h.2 (by omega) (by omega) (by omega)
  have b : 0 ≤ K * (n : Int) := Int.mul_nonneg h.1 (by omega)
  exact IntWalk.wrap64_in _ (by omega)
theorem ba_empty {x : ByteArray} (h : x.size = 0) : x = ⟨#[]⟩ := by
  cases x with
  | mk d => congr 1; exact Array.eq_empty_of_size_eq_zero h
set_option maxRecDepth 100000
set_option maxHeartbeats 4000000 in
theorem walk (a0 : Option Addr) (len0 cap0 : Nat) (z0 : List Int) (w : World) (w0 : IsRow .u8 w a0 len0 cap0 z0) :
    Calls Try.prog 3 #[.slice a0 len0 cap0] w fun e w' => e = .returned (.bool true) ∧ Below w.heap.size w w' := by
  by_cases hn : len0 ≤ 1048576
  · have hC := codeW_of_row w0 (by omega)
    clear w0
    go_enter Try.func3, Try.ntmps3
    go_wp2_with fail
    refine (DrawCellSignal_c hC).mono ?_; rintro e w1 ⟨a1, n1, c1, l, b1, m1, d1, ds, rfl, ho1, h4, ht, hds, hmd, hd0, hd5, hd8, hdb, hb1⟩
    have hS := ho1.rd
    have hcap := ho1.cap'.1
    have HT := Lib.hid ht
    have HD8 := Lib.hid hd8
    have HN := Lib.hid hS.1
    have hn4 : n1 ≤ 4 := by have := HN.out; omega
    clear hC ho1 ht hd8 hdb hd0 hd5
    cases hq : csgR l ds with
    | none =>
      have HQ := Lib.hid hq; clear hq
      go_wp2_with fail
      refine (CellSignal_c hS hcap hds).mono ?_; rintro e w2 h2
      rw [HQ.out] at h2
      obtain ⟨a2, n2, c2, rfl, ho2, hb2⟩ := h2.none
      have hS2 := hS.below hb2
      have hds2 := hds.below hb2
      have hbB := hb1.trans (hb2.mono hb1.size)
      clear h2 hS hds
      go_wp2_with fail
      refine (sCellSignal_c hS2 hds2 HT.out.big (fun i hi => by have := HD8.out _ (List.getElem_mem hi); omega)).mono ?_; rintro e w3 h3
      rw [HQ.out] at h3
      obtain ⟨a3, n3, c3, rfl, ho3, hb3⟩ := h3.none
      have hbC := hbB.trans (hb3.mono hbB.size)
      have hr2 := ho2.rd.below hb3
      have hr3 := ho3.rd
      clear h3 hS2 hds2
      go_wp2_with fail
      refine (ssInts_c hr2 hr3).mono ?_; rintro e w4 ⟨rfl, hq4⟩
      rw [sameB_self]
      have hr4 := hr2.qw hq4
      have hr5 := hr3.qw hq4
      have hbD := hbC.trans ((hq4.below w3.heap.size).mono hbC.size)
      go_wp2_with fail
      refine (ssInts_c hr4 hr5).mono ?_; rintro e w5 ⟨rfl, hq5⟩
      rw [sameB_self]
      have hbE := hbD.trans ((hq5.below w4.heap.size).mono hbD.size)
      go_wp2_with fail
      go_ret
      exact ⟨rfl, hbE⟩
    | some L =>
      have HQ := Lib.hid hq; clear hq
      go_wp2_with fail
      refine (CellSignal_c hS hcap hds).mono ?_; rintro e w2 h2
      obtain ⟨a2, n2, c2, rfl, ho2, hb2⟩ := retIntsB_is h2 HQ.out
      have hS2 := hS.below hb2
      have hds2 := hds.below hb2
      have hbB := hb1.trans (hb2.mono hb1.size)
      clear h2 hS hds hb2 hb1
      go_wp2_with fail
      refine (sCellSignal_c hS2 hds2 HT.out.big (fun i hi => by have := HD8.out _ (List.getElem_mem hi); omega)).mono ?_; rintro e w3 h3
      obtain ⟨a3, n3, c3, rfl, ho3, hb3⟩ := retIntsB_is h3 HQ.out
      have hbC := hbB.trans (hb3.mono hbB.size)
      have hS3 := hS2.below hb3
      have hds3 := hds2.below hb3
      have hr2 := ho2.rd.below hb3
      have hr3 := ho3.rd
      clear h3 hS2 hds2 ho2 ho3 hb3 hbB
      go_wp2_with fail
      refine (ssInts_c hr2 hr3).mono ?_; rintro e w4 ⟨rfl, hq4⟩
      rw [sameB_self]
      have hr4 := hr2.qw hq4
      have hS4 := hS3.qw hq4
      have hds4 := hds3.qw hq4
      have hbD := hbC.trans ((hq4.below w3.heap.size).mono hbC.size)
      have HDN := Lib.hid hds4.1
      have hSG := Lib.hid (csg_parts HQ.out).2.2.2.2
      have HCB := Lib.hid (csg_parts HQ.out).1
      have HDL := Lib.hid (csg_parts HQ.out).2.1
      clear hr2 hr3 hS3 hds3 hq4 hbC
      go_wp2_with fail
      go_loopw [9] (fun i wr => ∃ k : Nat, k ≤ n1 ∧ i = .int .i64 k ∧ Below w4.heap.size w4 wr) (fun i _ => n1 - (intOf i).toNat)
      case atStart => exact ⟨0, Nat.zero_le _, rfl, Below.refl _ _⟩
      case round =>
        obtain ⟨k, hk, rfl, hb⟩ := hrel
        by_cases hlt : k < n1
        · have hkl : k < l.length := by have := HN.out; omega
          have hkd : k < ds.length := by have := HDL.out; omega
          have hkm : k < m1 := by have := HDN.out; omega
          obtain ⟨bs, os, rfl, hl', s0, s1, s2, s3⟩ := (hS4.below hb).at hlt
          obtain ⟨bd, od, rfl, hld', t0⟩ := (hds4.below hb).at hkm
          have hR := hr4.below hb
          have hRS := hS4.below hb
          have hdz := HD8.out _ (List.getElem_mem hkd)
          have HP := Lib.hid (stB_path (cellB_st HCB.out hkl))
          have hp6 := treeT_size (pathB_size HP.out)
          have hgb := gain_bd (stB_ranges (cellB_st HCB.out hkl))
          have HSR := Lib.hid (strOf_yes (cellB_st HCB.out hkl))
          obtain ⟨x, hx, hxd⟩ : ∃ x, crcR l L l[k].nm (ds[k].size : Nat) = some x ∧ (0 < l[k].g / l[k].l → x = ds[k]) :=
            ⟨_, crc_some HCB.out hSG.out hkl (by omega), fun hg => hear_own HQ.out hkl hkd hg⟩
          have HX := Lib.hid hx
          have HXD := Lib.hid hxd
          have HRB := Lib.hid (show recB L (treeT l[k].ph) 0 = true by unfold recB; rw [hSG.out, treeT_seq HP.out, inB_true (by omega) (by omega)]; rfl)
          have HBD := Lib.hid (csg_bits HQ.out hkd)
          have HMG := Lib.hid (fun j (hj : j < ds[k].size) => margin_own HQ.out hkl hkd hj)
          have hszT := treeT_sz l[k].ph
          have HSZ := Lib.hid (show ((treeT l[k].ph).size : Int) = ((2 ^ l[k].ph.size : Nat) : Int) by rw [hszT])
          rw [← HSZ.out] at HMG
          clear hx hxd hszT
          generalize hD : ds[k] = D at *
          generalize hT : treeT l[k].ph = T at *
          generalize hK : l[k].g / l[k].l = K at *
          have HTC := Lib.hid (fun (w : World) => TreeCode_t l[k].ph w HP.out)
          rw [hT] at HTC
          clear hD hT hK HN HT HD8 HDL HDN
          obtain ⟨V, hV⟩ : ∃ V, V = K * (T.size : Int) := ⟨_, rfl⟩
          have c0 : IntKind.i64.wrap (K * (T.size : Int)) = V := by rw [hV]; exact mul_64 hgb hp6
          have c64 : wrap64 (K * (T.size : Int)) = V := by rw [hV]; exact mul_64w hgb hp6
          have HMV := Lib.hid (fun j (hj : j < D.size) => (HMG.out j hj).trans hV.symm)
          clear hV HMG
          have C0 : wr.drew.cell? ⟨bs, os + k * 4, none⟩ = some (.string l[k].nm) ∧ wr.drew.cell? ⟨bd, od + k, none⟩ = some (.string D) := ⟨s0, t0⟩
          have hRS' := hRS.qw (Qw.drewN wr 1)
          have hR' := hR.qw (Qw.drewN wr 1)
          go_wp2_with fail
          go_region_held3 (fun w' => w'.cell? ⟨bs, os + k * 4, none⟩ = some (.string l[k].nm) ∧ w'.cell? ⟨bd, od + k, none⟩ = some (.string D)) (first | with_reducible exact C0 | with_reducible exact C1) (first | (go_at_call 10; refine (CellReceive_c l[k].nm _ hRS' hcap hR').mono ?_; rintro e w5 ⟨rfl, hb5⟩; rw [HX.out]; simp only [Option.getD_some, Option.isSome_some]; have hb6 : Below wr.heap.size wr w5 := (Below.drew (Below.refl wr.heap.size wr)).trans hb5; have C1 := And.intro ((hb6.cell (lt_of_cell s0)).trans s0) ((hb6.cell (lt_of_cell t0)).trans t0)))
          all_goals
            have hb' := hb.trans (hb6.mono hb.size)
            have q0 := (hb6.cell (lt_of_cell s0)).trans s0
            have q1 := (hb6.cell (lt_of_cell s1)).trans s1
            have q2 := (hb6.cell (lt_of_cell s2)).trans s2
            have q3 := (hb6.cell (lt_of_cell s3)).trans s3
            have q4 := (hb6.cell (lt_of_cell t0)).trans t0
            have hR6 := hR.below hb6
            clear s0 s1 s2 s3 t0 C0 C1 hb5 hb6 hb hR hR' hRS hRS'
            go_wp2_with fail
            refine (HTC.out _).mono ?_; rintro e w6 ⟨rfl, hb7⟩
            have hb' := hb'.trans (hb7.mono hb'.size)
            have r0 := (hb7.cell (lt_of_cell q0)).trans q0
            have r1 := (hb7.cell (lt_of_cell q1)).trans q1
            have r2 := (hb7.cell (lt_of_cell q2)).trans q2
            have r3 := (hb7.cell (lt_of_cell q3)).trans q3
            have r4 := (hb7.cell (lt_of_cell q4)).trans q4
            have hR7 := hR6.below hb7
            clear q0 q1 q2 q3 q4 hb7 hR6
            have hxx : (D.toList != D.toList) = false := by simp
            have hvv : (V != V) = false := by simp
            by_cases hz : D.size = 0
            · obtain rfl : D = ⟨#[]⟩ := ba_empty hz
              clear hz hdz
              by_cases hk0 : 0 < K
              · go_wp2_with fail
                refine (MarginOf_none T hR7 HRB.out).mono ?_; rintro e w7 ⟨rfl, rfl⟩
                have hbz := hb'
                go_wp2_with fail
                refine (StrengthOf_c _ _ _ _ _).mono ?_; rintro e w8 ⟨rfl, hb9⟩
                rw [HSR.out]
                have hby := hbz.trans (hb9.mono hbz.size)
                have e4 := (hb9.cell (lt_of_cell r4)).trans r4
                clear r0 r1 r2 r3 r4 hb9
                obtain rfl := HXD.out hk0
                go_wp2_with fail
                go_roundw
                case rel => exact ⟨k + 1, by omega, by go_num, hby⟩
                case measure => simp [intOf]; omega
              · go_wp2_with fail
                refine (MarginOf_none T hR7 HRB.out).mono ?_; rintro e w7 ⟨rfl, rfl⟩
                have hbz := hb'
                go_wp2_with fail
                refine (StrengthOf_c _ _ _ _ _).mono ?_; rintro e w8 ⟨rfl, hb9⟩
                rw [HSR.out]
                have hby := hbz.trans (hb9.mono hbz.size)
                have e4 := (hb9.cell (lt_of_cell r4)).trans r4
                clear r0 r1 r2 r3 r4 hb9
                go_wp2_with fail
                go_roundw
                case rel => exact ⟨k + 1, by omega, by go_num, hby⟩
                case measure => simp [intOf]; omega
            · have hz1 : 0 < D.size := by omega
              clear hz
              by_cases hk0 : 0 < K
              · go_wp2_with fail
                refine (MarginOf_all T D V hR7 HRB.out HBD.out hz1 HMV.out).mono ?_; rintro e w7 ⟨rfl, hb8⟩
                have hbz := hb'.trans (hb8.mono hb'.size)
                have a0 := (hb8.cell (lt_of_cell r0)).trans r0
                have a1 := (hb8.cell (lt_of_cell r1)).trans r1
                have a2' := (hb8.cell (lt_of_cell r2)).trans r2
                have a3' := (hb8.cell (lt_of_cell r3)).trans r3
                have a4 := (hb8.cell (lt_of_cell r4)).trans r4
                clear r0 r1 r2 r3 r4 hb8
                go_wp2_with fail
                refine (StrengthOf_c _ _ _ _ _).mono ?_; rintro e w8 ⟨rfl, hb9⟩
                rw [HSR.out]
                have hby := hbz.trans (hb9.mono hbz.size)
                have e4 := (hb9.cell (lt_of_cell a4)).trans a4
                clear a0 a1 a2' a3' a4 hb9 hbz hb'
                obtain rfl := HXD.out hk0
                go_wp2_with fail
                go_roundw
                case rel => exact ⟨k + 1, by omega, by go_num, hby⟩
                case measure => simp [intOf]; omega
              · go_wp2_with fail
                refine (MarginOf_all T D V hR7 HRB.out HBD.out hz1 HMV.out).mono ?_; rintro e w7 ⟨rfl, hb8⟩
                have hbz := hb'.trans (hb8.mono hb'.size)
                have a0 := (hb8.cell (lt_of_cell r0)).trans r0
                have a1 := (hb8.cell (lt_of_cell r1)).trans r1
                have a2' := (hb8.cell (lt_of_cell r2)).trans r2
                have a3' := (hb8.cell (lt_of_cell r3)).trans r3
                have a4 := (hb8.cell (lt_of_cell r4)).trans r4
                clear r0 r1 r2 r3 r4 hb8
                go_wp2_with fail
                refine (StrengthOf_c _ _ _ _ _).mono ?_; rintro e w8 ⟨rfl, hb9⟩
                rw [HSR.out]
                have hby := hbz.trans (hb9.mono hbz.size)
                have e4 := (hb9.cell (lt_of_cell a4)).trans a4
                clear a0 a1 a2' a3' a4 hb9 hbz hb'
                go_wp2_with fail
                go_roundw
                case rel => exact ⟨k + 1, by omega, by go_num, hby⟩
                case measure => simp [intOf]; omega
        · obtain rfl : k = n1 := by omega
          have hR := hr4.below hb
          have hbE := hbD.trans (hb.mono hbD.size)
          go_wp2_with fail
          refine (SignalValid_c hR).mono ?_; rintro e w' ⟨rfl, rfl⟩
          rw [hSG.out]
          go_wp2_with fail
          go_ret
          exact ⟨rfl, hbE⟩
  · have hn' : (1048576 : Int) < (len0 : Int) := by omega
    go_enter Try.func3, Try.ntmps3
    go_wp2_with fail
    go_ret
    exact ⟨rfl, Below.refl _ _⟩

set_option maxRecDepth 100000 in
theorem lifted (os : Os) (started : os.Started) (H : Type) (enc : TypeId × Value → H) :
    ReturnsInHanded {} Try.checked os 3 .any (Rows.fnCellHearSpec.pre6 enc Try.prog Try.f3 Rows.fnCellHearRow.domain false) (Rows.fnCellHearSpec.post enc Try.prog Try.f3 false true false false) := by
  refine returnsInHanded_of_change (C := Try.checked) own started (by kernel_rfl) Try.func3
    (ChangeSpec.witness6 (enc := enc) (C := Try.checked) false ⟨#[], #[.slice none 0 0], []⟩ 8 (by kernel_rfl) (by kernel_rfl) (by kernel_rfl) (by kernel_rfl)) ?_
  intro W base args ds gs before hval0 hW hcnd _
  have hval : ∀ (j : Nat) t v, Try.f3.params[j]? = some t → args[j]? = some v → Value.okWide Try.prog W .any base t v := hval0
  have hW' := hW
  obtain ⟨p, q, hA0, hV, rfl, hfz, hnd⟩ := hW
  have hA : DataW.TrodAll enc Try.prog W 0 (fun _ => true) true Try.f3.params.toList args.toList ds p := hA0
  rw [Try.params3] at hA hval
  obtain ⟨v0, vs0, d0, ds0, p0, q0, hargs, rfl, rfl, h0, r0⟩ := trodAll_cons hA
  obtain ⟨rfl, rfl, rfl⟩ := trodAll_nil r0
  obtain rfl : args = #[v0] := by cases args; simp_all
  obtain ⟨rfl, rfl⟩ := trodVars_none hV
  have k0 := h0
  have lt0 : ∀ x ∈ p0, x.block < W.heap.size := by obtain ⟨m, hm⟩ := k0; exact DataW.trod_lt m _ _ _ hm
  obtain ⟨a0, len0, cap0, rfl⟩ := okWide_slice Try.underlying22 (hval 0 22 v0 rfl rfl)
  obtain ⟨z0, w0⟩ : ∃ zs, IsRow .u8 W a0 len0 cap0 zs := by
    obtain ⟨fuel, hf⟩ := h0
    rcases open_ints Try.underlying22 Try.underlying5 (by kernel_rfl) hf with ⟨hcs, _⟩ | ⟨x, l, c, zs, hcs, _, hl, hm, hz, _, hcell, hwz⟩
    · simp [Value.cells] at hcs
      obtain ⟨rfl, rfl, rfl⟩ := hcs
      exact ⟨[], .inl ⟨rfl, rfl, rfl, rfl⟩⟩
    · simp [Value.cells] at hcs
      obtain ⟨rfl, rfl, rfl⟩ := hcs
      exact ⟨zs, .inr ⟨_, rfl, hl, hm, by simpa using hz, hcell, hwz⟩⟩
  clear hA0 hval0
  refine (walk a0 len0 cap0 z0 W w0).mono fun e W' ⟨he, bel⟩ => ?_
  subst he
  exact ⟨_, rfl, _, _, _, [], _, [], hW', trodAll_mk1 (shut_bool Try.underlying4 _), (trodAll_cons_mk (Below.trod laidOut (by kernel_rfl) (of_decide_eq_true (by kernel_rfl)) k0 bel lt0) trodAll_mk0), rfl, bel.frame _, fun h => by cases h⟩

theorem over : Rows.fnCellHearRow.holds Try.pinned (OpenSpec.ofChange Rows.fnCellHearSpec) :=
  OpenClaim.holds_of_wide 3 Try.f3 rfl rfl rfl rfl rfl rfl rfl ⟨rfl, rfl, rfl, rfl, rfl⟩ rfl rfl rfl rfl rfl (by kernel_rfl) Try.func3 (by kernel_rfl)
    (of_decide_eq_true (by kernel_rfl)) (by unfold Func.isWrapper; first | (rw [if_pos (by decide +kernel)]; kernel_rfl) | (rw [if_neg (by decide +kernel)]; exact ⟨rfl, rfl⟩))
    (fun os started H enc _ => lifted os started H enc)

theorem proved : Rows.FnCellHearSaid := over
#print axioms proved
end Go.Proofs.Ytadcckjlcmnhbaa.fnCellHear
