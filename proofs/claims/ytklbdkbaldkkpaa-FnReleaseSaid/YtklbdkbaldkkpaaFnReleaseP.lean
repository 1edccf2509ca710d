/- The law FnRelease holds for every input that the given row lets in: the program's answer is the reference's. No condition of its own. -/
import Derived.Test.YtklbdkbaldkkpaaRows
import Derived.WalkKit
import Derived.ProofKit
import Derived.OpenShut
import Derived.ShutString
import Derived.ChangeOld
import Derived.Below
import Derived.Lib.SmallJoins
import Derived.Test.YtklbdkbaldkkpaaLt
namespace Go.Proofs.Ytklbdkbaldkkpaa.fnRelease
open Go.ChangeShapes Go.WideShapes Go.ChangeAt Go.RowKit
open Go.ChangeMaps (open_string shut_string)
set_option linter.unusedVariables false

theorem own : ownKnob Try.prog.godebug = none := by kernel_rfl
theorem laidOut : laidOutB Try.prog = true := by kernel_rfl

/-- A slice of integers that came in: nil, or a row of 'cap' cells that hold the numbers zs. -/
def IsRow (k : IntKind) (w : World) (a : Option Addr) (len cap : Nat) (zs : List Int) : Prop :=
  (a = none ∧ len = 0 ∧ cap = 0 ∧ zs = []) ∨
  ∃ x, a = some x ∧ len ≤ cap ∧ cap ≤ maxLen ∧ zs.length = cap ∧ (∀ i, i < zs.length → w.cell? (x.add i) = some (.int k (zs.getD i 0))) ∧ ∀ n ∈ zs, (Lit.int k n).wf = true

theorem apart_at {l : List Stn} {f k : Nat} (h : cellB l = true) (hf : f < l.length) (hk : k < l.length) (hne : k ≠ f) : Apart l[f] l[k] := by
  have hp := (cellB_iff.1 h).2.2
  rw [List.pairwise_iff_getElem] at hp
  rcases Nat.lt_or_gt_of_ne hne with h1 | h1
  · exact (hp k f hk hf h1).symm
  · exact hp f k hf hk h1
theorem name_at {l : List Stn} {nm : ByteArray} {f k : Nat} (h : cellB l = true) (hf : f < l.length) (he : l[f].nm.toList = nm.toList) (hk : k < l.length) (hne : k ≠ f) : (l[k].nm.toList == nm.toList) = false := by
  have := (apart_at h hf hk hne).symm.1
  rw [← he]; exact this
/-- The paths of all of the first k stations but one. -/
def uL (l : List Stn) (f k : Nat) : List ByteArray := ((List.range k).filter fun i => decide (i ≠ f)).map fun i => (l.getD i zstn).ph
theorem uL_same (l : List Stn) (f : Nat) : uL l f (f + 1) = uL l f f := by unfold uL; rw [List.range_succ, List.filter_append]; simp
theorem uL_next {l : List Stn} {f k : Nat} (hk : k < l.length) (hne : k ≠ f) : uL l f (k + 1) = uL l f k ++ [l[k].ph] := by
  unfold uL; rw [List.range_succ, List.filter_append, List.map_append]
  simp [hne, List.getD, hk]
theorem uL_len (l : List Stn) (f k : Nat) : (uL l f k).length ≤ k := by
  unfold uL; rw [List.length_map]; exact Nat.le_trans (List.length_filter_le _ _) (by simp)
theorem uL_mem {l : List Stn} {f : Nat} (h : cellB l = true) (hf : f < l.length) {q : ByteArray} (hq : q ∈ uL l f l.length) : confB l[f].ph q = false ∧ pathB q = true := by
  unfold uL at hq
  obtain ⟨i, hi, rfl⟩ := List.mem_map.1 hq
  rw [List.mem_filter, List.mem_range, decide_eq_true_eq] at hi
  rw [getD_stn hi.1]
  exact ⟨(apart_at h hf hi.1 hi.2).2, (stOk_parts ((cellB_iff.1 h).2.1 _ (List.getElem_mem hi.1))).2.1⟩
theorem rel_again {l : List Stn} {nm : ByteArray} {f : Nat} {loss : Int} (h : cellB l = true) (hf : f < l.length) (hi : idxS l nm = f) (hl : 1 ≤ loss ∧ loss ≤ 20) :
    ∃ l', admR (dropS l f) nm (l[f].ph.size : Int) loss = some l' ∧ l'.length = l.length := by
  obtain ⟨_, he⟩ := idxS_some hi
  have hst := stOk_parts ((cellB_iff.1 h).2.1 _ (List.getElem_mem hf))
  have hlen := dropS_len hf
  have h8 := (cellB_iff.1 h).1
  have hneg := dropS_idx h hi
  have hidx : idxS (dropS l f) nm = -1 := by
    rcases idxS_cases (dropS l f) nm with e | ⟨g, _, e⟩
    · exact e
    · omega
  obtain ⟨r, hr⟩ := allocR_has (u := (dropS l f).map Stn.ph) hst.2.1 (fun q hq => by
    obtain ⟨s, hs, rfl⟩ := List.mem_map.1 hq
    exact (dropS_apart h hf s hs).2)
  have hnm : nameB nm = true := by rw [← toList_inj he]; exact hst.1
  refine ⟨dropS l f ++ [⟨nm, r, 1, loss⟩], ?_, by simp; omega⟩
  rw [admR_y (cellB_sub h (dropS_sub l f)) (by omega) hnm hidx (inB_true hl.1 hl.2), hr]
  rfl
set_option maxRecDepth 100000
set_option maxHeartbeats 4000000 in
theorem walk (a0 : Option Addr) (len0 cap0 : Nat) (z0 : List Int) (a1 : Option Addr) (len1 cap1 : Nat) (z1 : List Int) (w : World) (w0 : IsRow .u8 w a0 len0 cap0 z0) (w1 : IsRow .u8 w a1 len1 cap1 z1) :
    Calls Try.prog 11 #[.slice a0 len0 cap0, .slice a1 len1 cap1] w fun e w' => e = .returned (.bool true) ∧ Below w.heap.size w w' := by
  by_cases hn : len0 ≤ 1048576
  · by_cases hnM : len1 ≤ 1048576
    · have hC := codeW_of_row w0 (by omega)
      clear w0 w1
      go_enter Try.func11, Try.ntmps11
      go_wp2_with fail
      refine (DrawReleaseStation_c hC).mono ?_; rintro e w1 ⟨ao, n, c, l, nm, rfl, hL1, hnm, hb1⟩
      clear hC
      by_cases hok : cellB l = true ∧ ∃ f : Nat, f < l.length ∧ idxS l nm = f
      · obtain ⟨hcell, f, hfl, hidx⟩ := hok
        have HR := Lib.hid (relR_yes hcell hidx)
        have HC := Lib.hid hcell
        have HI := Lib.hid hidx
        obtain ⟨_, hfe⟩ := idxS_some hidx
        have HFE := Lib.hid hfe
        have HCX := Lib.hid (cellB_sub hcell (dropS_sub l f))
        have HDL := Lib.hid (dropS_len hfl)
        obtain ⟨lss, hls⟩ : ∃ lss : Int, lss = 1 + (len1 : Int) % 5 := ⟨_, rfl⟩
        have hlb : 1 ≤ lss ∧ lss ≤ 20 := by omega
        obtain ⟨l', hag, hagl⟩ := rel_again hcell hfl hidx hlb
        have HAG := Lib.hid hag
        have HAGL := Lib.hid hagl
        have HLS := Lib.hid hls
        have hfp := (stOk_parts ((cellB_iff.1 hcell).2.1 _ (List.getElem_mem hfl))).2.1
        have HFP := Lib.hid hfp
        have hpz := pathB_size hfp
        clear hag hagl hfe hidx hls hfp
        go_wp2_with fail
        refine (ReleaseStation_c nm hL1.1 hL1.2.1).mono ?_; rintro e w2 hret
        rw [HR.out] at hret; obtain ⟨a2, n2, c2, rfl, hx2', hb2⟩ := hret.some
        have hx2 : OwnS w2 w1.heap.size a2 n2 c2 (dropS l f) := hx2'
        have hL2 := hL1.below hb2
        have hB2 := hb1.trans (hb2.mono hb1.size)
        clear hL1 hb1 hb2 hx2'
        go_wp2_with fail
        refine (sReleaseStation_c nm hL2.1 hL2.2.1 hL2.2.2.2.2.big).mono ?_; rintro e w3 hret
        rw [HR.out] at hret; obtain ⟨a3, n3, c3, rfl, hy3, hb3⟩ := hret.some
        have hL3 := hL2.below hb3
        have hx3 := hx2.below hb3
        have hB3 := hB2.trans (hb3.mono hB2.size)
        clear hL2 hx2 hb3 hB2
        go_wp2_with fail
        refine (ssCells_same hx3.rd hy3.rd).mono ?_; rintro e w4 ⟨rfl, hq4⟩
        have hL4 := hL3.below (hq4.below _)
        have hx4 := hx3.qw hq4
        have hB4 := hB3.trans ((hq4.below w3.heap.size).mono hB3.size)
        clear hL3 hx3 hy3 hB3 hq4
        have HN := Lib.hid hL4.1.1
        have HN2 := Lib.hid hx4.1
        have hs := hL4.1.2.1
        have hn4 : n ≤ 4 := by have := HN.out; have := hL4.2.2.2.1; omega
        have hfn : f < n := by have := HN.out; omega
        have hv0 : OwnVT (w4.alloc (.cells #[] 9)) w4.heap.size (.slice (some ⟨w4.heap.size, 0, none⟩) 0 0) [] := OwnVF.made0 _ _ w4 (Nat.le_refl _)
        have hbl : Below w4.heap.size w4 (w4.alloc (.cells #[] 9)) := (Below.refl _ _).alloc (Nat.le_refl _) _
        have hzb := hB4.size
        have hcell2 := HC.out
        have HCC := Lib.hid hcell
        clear hcell hcell2
        go_wp2_with fail
        go_loopw [11, 12, 13] (fun pt v i wr => ∃ k : Nat, k ≤ n ∧ i = .int .i64 k ∧ (∃ ps : ByteArray, pt = .string ps ∧ Hid (f < k → ps = l[f].ph)) ∧ OwnVT wr w4.heap.size v (uL l f k) ∧ Below w4.heap.size w4 wr) (fun _ _ i _ => n - (intOf i).toNat)
        case atStart => exact ⟨0, Nat.zero_le _, rfl, ⟨_, rfl, Lib.hid (fun h => absurd h (by omega))⟩, hv0, hbl⟩
        case round =>
          clear hv0 hbl
          obtain ⟨k, hk', rfl, ⟨ps, rfl, HPS⟩, hown, hb⟩ := hrel
          have hz := hb.size
          by_cases hlt : k < n
          · obtain ⟨bk, off, rfl, hl, hc0, hc1, hc2, hc3⟩ := (hL4.below hb).1.at hlt
            have hul := uL_len l f k
            by_cases hkf : k = f
            · have HKF := Lib.hid hkf
              have hne : (l[k].nm.toList == nm.toList) = true := by rw [beq_iff_eq]; have := HFE.out; subst hkf; exact this
              have HPT := Lib.hid (show f < k + 1 → l[k].ph = l[f].ph from fun _ => by subst hkf; rfl)
              have HUL := Lib.hid (show uL l f (k + 1) = uL l f k by subst hkf; exact uL_same l k)
              clear hkf
              go_wp2_with fail
              go_roundw
              case rel => exact ⟨k + 1, by omega, by go_num, ⟨_, rfl, HPT⟩, by rw [HUL.out]; exact hown, hb⟩
              case measure => simp [intOf]; omega
            · have hne := name_at HCC.out hfl HFE.out hl hkf
              have HUL := Lib.hid (uL_next hl hkf)
              have HPT := Lib.hid (show f < k + 1 → ps = l[f].ph from fun h => HPS.out (by omega))
              have HUN := Lib.hid hul
              clear hkf hul
              go_wp2_with (at_builtin; refine wp_app1F 59 9 16 ByteArray.empty Try.underlying59 info_str rfl (by decide) (fun _ => rfl) wr rfl _ _ rfl w4.heap.size _ _ _ rfl (by exact hown) rfl (by have := HUN.out; omega) hz ?_; intro v' w7 hown7 _ hb7)
              have hb8 := hb.trans hb7
              rw [← HUL.out] at hown7
              go_roundw
              case rel => exact ⟨k + 1, by omega, by go_num, ⟨_, rfl, HPT⟩, hown7, hb8⟩
              case measure => simp [intOf]; omega
          · obtain rfl : k = n := by omega
            have hul := uL_len l f k
            obtain rfl : ps = l[f].ph := HPS.out hfn
            obtain ⟨a8, n8, c8, hv, ho8⟩ := hown.own (by omega)
            subst hv
            have HN8 := Lib.hid ho8.1
            have hn8 : n8 ≤ 4 := by have := HN8.out; omega
            have HUM := Lib.hid (show ∀ q ∈ uL l f k, confB l[f].ph q = false ∧ pathB q = true from fun q hq => uL_mem HCC.out hfl (by rw [← HN.out]; exact hq))
            have hLk := hL4.below hb
            have hxk := hx4.below hb
            have hBk := hB4.trans (hb.mono hzb)
            clear hL4 hx4 hB4 hb hown HPS hul
            go_wp2_with fail
            go_loop [14] (fun i => ∃ j : Nat, j ≤ n8 ∧ i = .int .i64 j) (fun i => n8 - (intOf i).toNat)
            case atStart => exact ⟨0, Nat.zero_le _, rfl⟩
            case round =>
              obtain ⟨j, hj, rfl⟩ := hrel
              by_cases hjt : j < n8
              · obtain ⟨bj, oj, rfl, hlj, hcj⟩ := ho8.rd.at hjt
                have hm := HUM.out _ (List.getElem_mem hlj)
                have HM1 := Lib.hid hm.1
                have HM2 := Lib.hid hm.2
                clear hm
                go_wp2_with fail
                refine (TreeConflict_c _ _ _ HFP.out HM2.out).mono ?_; rintro e w' ⟨rfl, rfl⟩
                rw [HM1.out]
                go_wp2_with fail
                go_round
                case rel => exact ⟨j + 1, by omega, by go_num⟩
                case measure => simp [intOf]; omega
              · have hk5 : (len1 : Int) % 5 ≤ 4 := by omega
                have hk50 : 0 ≤ (len1 : Int) % 5 := by omega
                clear ho8
                go_wp2_with fail
                rw [← HLS.out]
                refine (AdmitStation_c nm _ lss hxk.rd hxk.cap'.1).mono ?_; rintro e w9 hret
                rw [HAG.out] at hret; obtain ⟨a9, n9, c9, rfl, hy9, hb9⟩ := hret.some
                have hx9 := hxk.below hb9
                have hB9 := hBk.trans (hb9.mono hBk.size)
                have HN9 := Lib.hid hy9.1
                have hn9 : ((n9 : Int) == (k : Int)) = true := by have := HN9.out; have := HAGL.out; have := HN.out; simp; omega
                have hn2 : ((n2 : Int) == (k : Int) - 1) = true := by have := HN2.out; have := HDL.out; have := HN.out; simp; omega
                clear hLk hxk hBk hb9 hy9
                go_wp2_with fail
                refine (CellValid_c hx9.rd hx9.cap'.1).mono ?_; rintro e w10 ⟨rfl, hb10⟩
                rw [HCX.out]
                have hBz := hB9.trans (hb10.mono hB9.size)
                clear hx9 hB9
                go_wp2_with fail
                go_ret
                exact ⟨rfl, hBz⟩
      · have hno : relR l nm = none := by
          by_cases hcell : cellB l = true
          · rcases idxS_cases l nm with e | ⟨f, h1, h2⟩
            · exact relR_no2 e
            · exact absurd ⟨hcell, f, h1, h2⟩ hok
          · exact relR_no1 (by simpa using hcell)
        have HR := Lib.hid hno
        clear hno hok
        go_wp2_with fail
        refine (ReleaseStation_c nm hL1.1 hL1.2.1).mono ?_; rintro e w2 hret
        rw [HR.out] at hret; obtain ⟨a2, n2, c2, rfl, hx2, hb2⟩ := hret.none
        have hL2 := hL1.below hb2
        have hB2 := hb1.trans (hb2.mono hb1.size)
        clear hL1 hb1 hb2
        go_wp2_with fail
        refine (sReleaseStation_c nm hL2.1 hL2.2.1 hL2.2.2.2.2.big).mono ?_; rintro e w3 hret
        rw [HR.out] at hret; obtain ⟨a3, n3, c3, rfl, hy3, hb3⟩ := hret.none
        have hx3 := hx2.below hb3
        have hB3 := hB2.trans (hb3.mono hB2.size)
        clear hL2 hx2 hb3 hB2
        go_wp2_with fail
        refine (ssCells_same hx3.rd hy3.rd).mono ?_; rintro e w4 ⟨rfl, hq4⟩
        have hx4 := hx3.qw hq4
        have hy4 := hy3.qw hq4
        have hB4 := hB3.trans ((hq4.below w3.heap.size).mono hB3.size)
        clear hx3 hy3 hB3 hq4
        go_wp2_with fail
        refine (ssCells_same hx4.rd hy4.rd).mono ?_; rintro e w5 ⟨rfl, hq5⟩
        have hB5 := hB4.trans ((hq5.below w4.heap.size).mono hB4.size)
        go_wp2_with fail
        go_ret
        exact ⟨rfl, hB5⟩
    · have hn' : (1048576 : Int) < (len1 : Int) := by omega
      go_enter Try.func11, Try.ntmps11
      go_wp2_with fail
      go_ret
      exact ⟨rfl, Below.refl _ _⟩
  · have hn' : (1048576 : Int) < (len0 : Int) := by omega
    go_enter Try.func11, Try.ntmps11
    go_wp2_with fail
    go_ret
    exact ⟨rfl, Below.refl _ _⟩

set_option maxRecDepth 100000 in
theorem lifted (os : Os) (started : os.Started) (H : Type) (enc : TypeId × Value → H) :
    ReturnsInHanded {} Try.checked os 11 .any (Rows.fnReleaseSpec.pre6 enc Try.prog Try.f11 Rows.fnReleaseRow.domain false) (Rows.fnReleaseSpec.post enc Try.prog Try.f11 false true false false) := by
  refine returnsInHanded_of_change (C := Try.checked) own started (by kernel_rfl) Try.func11
    (ChangeSpec.witness6 (enc := enc) (C := Try.checked) false ⟨#[], #[.slice none 0 0, .slice none 0 0], []⟩ 8 (by kernel_rfl) (by kernel_rfl) (by kernel_rfl) (by kernel_rfl)) ?_
  intro W base args ds gs before hval0 hW hcnd _
  have hval : ∀ (j : Nat) t v, Try.f11.params[j]? = some t → args[j]? = some v → Value.okWide Try.prog W .any base t v := hval0
  have hW' := hW
  obtain ⟨p, q, hA0, hV, rfl, hfz, hnd⟩ := hW
  have hA : DataW.TrodAll enc Try.prog W 0 (fun _ => true) true Try.f11.params.toList args.toList ds p := hA0
  rw [Try.params11] at hA hval
  obtain ⟨v0, vs0, d0, ds0, p0, q0, hargs, rfl, rfl, h0, r0⟩ := trodAll_cons hA
  obtain ⟨v1, vs1, d1, ds1, p1, q1, rfl, rfl, rfl, h1, r1⟩ := trodAll_cons r0
  obtain ⟨rfl, rfl, rfl⟩ := trodAll_nil r1
  obtain rfl : args = #[v0, v1] := by cases args; simp_all
  obtain ⟨rfl, rfl⟩ := trodVars_none hV
  have k0 := h0
  have lt0 : ∀ x ∈ p0, x.block < W.heap.size := by obtain ⟨m, hm⟩ := k0; exact DataW.trod_lt m _ _ _ hm
  have k1 := h1
  have lt1 : ∀ x ∈ p1, x.block < W.heap.size := by obtain ⟨m, hm⟩ := k1; exact DataW.trod_lt m _ _ _ hm
  obtain ⟨a0, len0, cap0, rfl⟩ := okWide_slice Try.underlying22 (hval 0 22 v0 rfl rfl)
  obtain ⟨z0, w0⟩ : ∃ zs, IsRow .u8 W a0 len0 cap0 zs := by
    obtain ⟨fuel, hf⟩ := h0
    rcases open_ints Try.underlying22 Try.underlying5 (by kernel_rfl) hf with ⟨hcs, _⟩ | ⟨x, l, c, zs, hcs, _, hl, hm, hz, _, hcell, hwz⟩
    · simp [Value.cells] at hcs
      obtain ⟨rfl, rfl, rfl⟩ := hcs
      exact ⟨[], .inl ⟨rfl, rfl, rfl, rfl⟩⟩
    · simp [Value.cells] at hcs
      obtain ⟨rfl, rfl, rfl⟩ := hcs
      exact ⟨zs, .inr ⟨_, rfl, hl, hm, by simpa using hz, hcell, hwz⟩⟩
  obtain ⟨a1, len1, cap1, rfl⟩ := okWide_slice Try.underlying22 (hval 1 22 v1 rfl rfl)
  obtain ⟨z1, w1⟩ : ∃ zs, IsRow .u8 W a1 len1 cap1 zs := by
    obtain ⟨fuel, hf⟩ := h1
    rcases open_ints Try.underlying22 Try.underlying5 (by kernel_rfl) hf with ⟨hcs, _⟩ | ⟨x, l, c, zs, hcs, _, hl, hm, hz, _, hcell, hwz⟩
    · simp [Value.cells] at hcs
      obtain ⟨rfl, rfl, rfl⟩ := hcs
      exact ⟨[], .inl ⟨rfl, rfl, rfl, rfl⟩⟩
    · simp [Value.cells] at hcs
      obtain ⟨rfl, rfl, rfl⟩ := hcs
      exact ⟨zs, .inr ⟨_, rfl, hl, hm, by simpa using hz, hcell, hwz⟩⟩
  clear hA0 hval0
  refine (walk a0 len0 cap0 z0 a1 len1 cap1 z1 W w0 w1).mono fun e W' ⟨he, bel⟩ => ?_
  subst he
  exact ⟨_, rfl, _, _, _, [], _, [], hW', trodAll_mk1 (shut_bool Try.underlying4 _), (trodAll_cons_mk (Below.trod laidOut (by kernel_rfl) (of_decide_eq_true (by kernel_rfl)) k0 bel lt0) (trodAll_cons_mk (Below.trod laidOut (by kernel_rfl) (of_decide_eq_true (by kernel_rfl)) k1 bel lt1) trodAll_mk0)), rfl, bel.frame _, fun h => by cases h⟩

theorem over : Rows.fnReleaseRow.holds Try.pinned (OpenSpec.ofChange Rows.fnReleaseSpec) :=
  OpenClaim.holds_of_wide 11 Try.f11 rfl rfl rfl rfl rfl rfl rfl ⟨rfl, rfl, rfl, rfl, rfl⟩ rfl rfl rfl rfl rfl (by kernel_rfl) Try.func11 (by kernel_rfl)
    (of_decide_eq_true (by kernel_rfl)) (by unfold Func.isWrapper; first | (rw [if_pos (by decide +kernel)]; kernel_rfl) | (rw [if_neg (by decide +kernel)]; exact ⟨rfl, rfl⟩))
    (fun os started H enc _ => lifted os started H enc)

theorem proved : Rows.FnReleaseSaid := over
#print axioms proved
end Go.Proofs.Ytklbdkbaldkkpaa.fnRelease
