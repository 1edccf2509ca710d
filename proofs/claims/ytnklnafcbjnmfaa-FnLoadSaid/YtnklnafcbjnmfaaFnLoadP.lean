/- The law FnLoad holds for every input that the given row lets in: the program's answer is the reference's. No condition of its own. -/
import Derived.Test.YtnklnafcbjnmfaaRows
import Derived.WalkKit
import Derived.ProofKit
import Derived.OpenShut
import Derived.ShutString
import Derived.ChangeOld
import Derived.Below
import Derived.Lib.SmallJoins
import Derived.Test.YtnklnafcbjnmfaaLw
import Derived.Test.YtnklnafcbjnmfaaHm
import Derived.Test.YtnklnafcbjnmfaaHj
namespace Go.Proofs.Ytnklnafcbjnmfaa.fnLoad
open Go.ChangeShapes Go.WideShapes Go.ChangeAt Go.RowKit
open Go.ChangeMaps (open_string shut_string)
set_option linter.unusedVariables false

theorem own : ownKnob Try.prog.godebug = none := by kernel_rfl
theorem laidOut : laidOutB Try.prog = true := by kernel_rfl

/-- A slice of integers that came in: nil, or a row of 'cap' cells that hold the numbers zs. -/
def IsRow (k : IntKind) (w : World) (a : Option Addr) (len cap : Nat) (zs : List Int) : Prop :=
  (a = none ∧ len = 0 ∧ cap = 0 ∧ zs = []) ∨
  ∃ x, a = some x ∧ len ≤ cap ∧ cap ≤ maxLen ∧ zs.length = cap ∧ (∀ i, i < zs.length → w.cell? (x.add i) = some (.int k (zs.getD i 0))) ∧ ∀ n ∈ zs, (Lit.int k n).wf = true

theorem load_no {l : List Int} {ch : Int} (h : hopsB l ch = false) : loadOf l ch = [] := by simp [loadOf, h]
theorem load_yes {l : List Int} {ch : Int} (h : hopsB l ch = true) : loadOf l ch = loadL ch.toNat l := by simp [loadOf, h]
theorem jamHops_cc {l : List Int} {c : Int} (h : hopsB l 16 = true) (hc : 0 ≤ c ∧ c ≤ 15) : jamHops l [c, c] = cntB (fun x => x == c) l := by
  have hj : jamB [c, c] = true := by simp [jamB, allB, inB, hc.1, hc.2]
  unfold jamHops
  rw [h, hj]
  simp only [Bool.and_self, if_true]
  congr 2
  funext x
  simp [hasB]
  rfl
theorem cnt_sum {l : List Int} {m : Nat} (h : ∀ x ∈ l, 0 ≤ x ∧ x < m) : ((List.range m).map fun c : Nat => (cntB (fun x => x == (c : Int)) l : Int)).sum = l.length := by
  induction l with
  | nil =>
    have z : ∀ m : Nat, ((List.range m).map fun _ => (0 : Int)).sum = 0 := by
      intro m
      induction m with
      | zero => rfl
      | succ m ih => rw [List.range_succ, List.map_append, List.sum_append, ih]; rfl
    exact z m
  | cons x l ih =>
    have hx := h x (List.mem_cons_self ..)
    have ih := ih (fun y hy => h y (List.mem_cons_of_mem _ hy))
    have key : ∀ m : Nat, ((List.range m).map fun c : Nat => (cntB (fun y => y == (c : Int)) (x :: l) : Int)).sum = ((List.range m).map fun c : Nat => (cntB (fun y => y == (c : Int)) l : Int)).sum + (if 0 ≤ x ∧ x < m then 1 else 0) := by
      intro m
      induction m with
      | zero => rw [if_neg (by omega)]; rfl
      | succ m ihm =>
        rw [List.range_succ, List.map_append, List.map_append, List.sum_append, List.sum_append, ihm]
        have e : (cntB (fun y => y == (m : Int)) (x :: l) : Int) = cntB (fun y => y == (m : Int)) l + if x = m then 1 else 0 := by
          unfold cntB
          rw [List.filter_cons]
          by_cases hxm : x = m
          · simp [hxm]
          · simp [hxm]
        simp only [List.map_cons, List.map_nil, List.sum_cons, List.sum_nil, Int.add_zero]
        rw [e]
        split <;> split <;> split <;> omega
    rw [key, ih, if_pos hx, List.length_cons]
    omega
theorem loadL_len' {m : Nat} {l : List Int} : (loadL m l).length = m := by simp [loadL]
theorem loadL_at {m : Nat} {l : List Int} {c : Nat} (h : c < m) (h' : c < (loadL m l).length) : (loadL m l)[c] = cntB (fun x => x == (c : Int)) l := by simp [loadL]
/-- The sum of the first loads. -/
def loadT (l : List Int) (k : Nat) : Int := ((List.range k).map fun c : Nat => (cntB (fun x => x == (c : Int)) l : Int)).sum
theorem loadT_succ (l : List Int) (k : Nat) : loadT l (k + 1) = loadT l k + cntB (fun x => x == (k : Int)) l := by
  unfold loadT; rw [List.range_succ, List.map_append, List.sum_append]; simp
theorem loadT_bd (l : List Int) (k : Nat) : 0 ≤ loadT l k ∧ loadT l k ≤ k * l.length := by
  induction k with
  | zero => simp [loadT]
  | succ k ih =>
    rw [loadT_succ]
    have := @cntB_le (fun x => x == (k : Int)) l
    have e : ((k + 1 : Nat) : Int) * (l.length : Int) = (k : Int) * l.length + l.length := by rw [Int.natCast_add, Int.add_mul]; simp
    rw [e]; omega
theorem load_move {l : List Int} {m : Nat} {c : Nat} (h : ∀ x ∈ l, 0 ≤ x ∧ x < m) (hc : c < m) : cntB (fun x => x == (((c + 1) % m : Nat) : Int)) (l.map fun x => (x + 1) % (m : Int)) = cntB (fun x => x == (c : Int)) l := by
  unfold cntB
  rw [List.filter_map, List.length_map]
  congr 1
  refine List.filter_congr fun x hx => ?_
  have hx := h x hx
  simp only [Function.comp]
  rw [Bool.eq_iff_iff]
  simp only [beq_iff_eq]
  by_cases h1 : x + 1 = m
  · have e1 : (x + 1) % (m : Int) = 0 := by rw [h1]; exact Int.emod_self
    rw [e1]
    by_cases h2 : c + 1 = m
    · rw [h2, Nat.mod_self]; omega
    · rw [Nat.mod_eq_of_lt (by omega)]; omega
  · rw [Int.emod_eq_of_lt (by omega) (by omega)]
    by_cases h2 : c + 1 = m
    · rw [h2, Nat.mod_self]; omega
    · rw [Nat.mod_eq_of_lt (by omega)]; omega
theorem hops_in {l : List Int} {m : Nat} (h : hopsB l (m : Int) = true) : ∀ x ∈ l, 0 ≤ x ∧ x < m := by
  obtain ⟨_, _, ha⟩ := hopsB_ch h
  unfold allB at ha; rw [List.all_eq_true] at ha
  intro x hx
  have := inB_iff.1 (ha x hx)
  omega
theorem hops16' {l : List Int} {ch : Int} (h : hopsB l ch = true) : hopsB l 16 = true := by
  obtain ⟨h1, h2, h3⟩ := hopsB_ch h
  exact hopsB_mk (by omega) h2 (allB_mono h3 (by omega))
theorem mov1_yes {l : List Int} {ch : Int} (h : hopsB l ch = true) : movHops l ch 1 = some (l.map fun x => (x + 1) % ch) := movHops_yes (by unfold movOk; rw [h]; rfl)
theorem mov1_hops {l : List Int} {ch : Int} (h : hopsB l ch = true) : hopsB (l.map fun x => (x + 1) % ch) ch = true := by
  obtain ⟨h1, h2, h3⟩ := hopsB_ch h
  refine hopsB_mk h1 (by rw [List.length_map]; exact h2) ?_
  unfold allB; rw [List.all_eq_true]
  intro x hx
  obtain ⟨y, _, rfl⟩ := List.mem_map.1 hx
  have h0 := Int.emod_nonneg (y + 1) (show ch ≠ 0 by omega)
  have h4 := Int.emod_lt_of_pos (y + 1) (show 0 < ch by omega)
  exact inB_true h0 (by omega)
set_option maxRecDepth 100000
set_option maxHeartbeats 4000000 in
theorem walk (a0 : Option Addr) (len0 cap0 : Nat) (z0 : List Int) (w : World) (w0 : IsRow .u8 w a0 len0 cap0 z0) :
    Calls Try.prog 8 #[.slice a0 len0 cap0] w fun e w' => e = .returned (.bool true) ∧ Below w.heap.size w w' := by
  by_cases hn : len0 ≤ 1048576
  · have hC := codeW_of_row w0 (by omega)
    clear w0
    go_enter Try.func8, Try.ntmps8
    go_wp2_with fail
    refine (DrawLoadOf_c hC).mono ?_; rintro e w1 ⟨ao, n, c, l, ch, rfl, hL1, h301, hk0, hk1, hb1⟩
    clear hC
    by_cases hok : hopsB l ch = true
    · obtain ⟨hch, h300, hal⟩ := hopsB_ch hok
      obtain ⟨m, rfl⟩ := Int.eq_ofNat_of_zero_le (show 0 ≤ ch by omega)
      have HY := Lib.hid (show loadOf l (m : Int) = loadL m l from load_yes hok)
      have HM := Lib.hid (mov1_yes hok)
      have HIN := Lib.hid (hops_in hok)
      have H16 := Lib.hid (hops16' hok)
      have HY2 := Lib.hid (show loadOf (l.map fun x => (x + 1) % (m : Int)) (m : Int) = loadL m (l.map fun x => (x + 1) % (m : Int)) from load_yes (mov1_hops hok))
      have HOK := Lib.hid hok
      clear hok hal
      go_wp2_with fail
      refine (LoadOf_c (m : Int) hL1.1).mono ?_; rintro e w2 hret
      rw [HY.out] at hret; obtain ⟨a2, n2, c2, rfl, hx2, hb2⟩ := hret
      have hL2 := hL1.below hb2
      have hB2 := hb1.trans (hb2.mono hb1.size)
      clear hL1 hb1 hb2
      go_wp2_with fail
      refine (sLoadOf_c (m : Int) hL2.1).mono ?_; rintro e w3 hret
      rw [HY.out] at hret; obtain ⟨a3, n3, c3, rfl, hy3, hb3⟩ := hret
      have hL3 := hL2.below hb3
      have hx3 := hx2.below hb3
      have hB3 := hB2.trans (hb3.mono hB2.size)
      clear hL2 hx2 hb3 hB2
      go_wp2_with fail
      refine (ssInts_c hx3.rd hy3.rd).mono ?_; rintro e w4 ⟨rfl, hq4⟩
      rw [sameB_self]
      have hL4 := hL3.below (hq4.below _)
      have hx4 := hx3.qw hq4
      have hB4 := hB3.trans ((hq4.below w3.heap.size).mono hB3.size)
      clear hL3 hx3 hy3 hB3 hq4
      have hn2 : n2 = m := by rw [hx4.1, loadL_len']
      subst hn2
      have hne : ((n2 : Int) == 0) = false := by simp; omega
      have HL := Lib.hid hL4.1.1
      have hs := hL4.1.2.1
      have h300' : n ≤ 300 := by have := HL.out; omega
      have hm16 : n2 ≤ 16 := by omega
      have hm0 : 0 < n2 := by omega
      go_wp2_with fail
      go_loopw [6, 7] (fun q i wr => ∃ k : Nat, k ≤ n2 ∧ i = .int .i64 k ∧ q = .int .i64 (loadT l k) ∧ Below w4.heap.size w4 wr) (fun _ i _ => n2 - (intOf i).toNat)
      case atStart => exact ⟨0, Nat.zero_le _, rfl, rfl, Below.refl _ _⟩
      case round =>
        obtain ⟨k, hk, rfl, rfl, hb⟩ := hrel
        have hL5 := hL4.below hb
        have hx5 := hx4.below hb
        have hB5 := hB4.trans (hb.mono hB4.size)
        obtain ⟨t0, t1⟩ := loadT_bd l k
        have t2 : loadT l k ≤ 16 * 300 := by
          have h1 : (k : Int) * (l.length : Int) ≤ 16 * 300 := Int.mul_le_mul (by omega) (by omega) (by omega) (by omega)
          omega
        clear t1
        by_cases hlt : k < n2
        · obtain ⟨b2, o2, rfl, hl2, hc2⟩ := hx5.rd.at hlt
          rw [loadL_at hlt] at hc2
          have HT := Lib.hid (loadT_succ l k)
          have HJC := Lib.hid (jamHops_cc (c := (k : Int)) H16.out (by omega))
          have hcl := @cntB_le (fun x => x == (k : Int)) l
          have hvv : ((cntB (fun x => x == (k : Int)) l : Int) != (cntB (fun x => x == (k : Int)) l : Int)) = false := by simp
          generalize cntB (fun x => x == (k : Int)) l = V at *
          have hl0 := lt_of_cell hc2
          go_wp2_with fail
          go_region_held3 (fun w' => w'.cell? ⟨b2, o2 + k, none⟩ = some (.int .i64 V)) (first | exact hc2 | go_keep | exact hcA) (first | (go_at_call 29; refine (JammedHops_c (hL5.1.below (((Below.refl _ _).drew).alloc (Nat.le_refl _) _)) (rd_lit' _ [(k : Int), (k : Int)] _ _ _ rfl rfl (by simp))).mono ?_; rintro e w' ⟨rfl, rfl⟩; rw [HJC.out]))
          have hbn := (hb.drew).alloc hb.size (.cells #[.int .i64 (k : Int), .int .i64 (k : Int)] 3)
          clear hc2 hL5 hx5 hB5 hb
          go_wp2_with fail
          go_roundw
          case rel => exact ⟨k + 1, by omega, by go_num, by rw [HT.out], hbn⟩
          case measure => simp [intOf]; omega
        · obtain rfl : k = n2 := by omega
          have HSUM := Lib.hid (show loadT l k = n by rw [HL.out]; exact cnt_sum HIN.out)
          rw [HSUM.out]
          clear hL4 hx4 hB4 hb t0 t2
          go_wp2_with fail
          refine (MoveHops_c (k : Int) 1 hL5.1).mono ?_; rintro e w6 hret
          rw [HM.out] at hret; obtain ⟨a6, n6, c6, rfl, hu6, hb6⟩ := hret.some
          have hx6 := hx5.below hb6
          have hB6 := hB5.trans (hb6.mono hB5.size)
          clear hL5 hx5 hB5 hb6
          go_wp2_with fail
          refine (LoadOf_c (k : Int) hu6.rd).mono ?_; rintro e w7 hret
          rw [HY2.out] at hret; obtain ⟨a7, n7, c7, rfl, hv7, hb7⟩ := hret
          have hx7 := hx6.below hb7
          have hB7 := hB6.trans (hb7.mono hB6.size)
          have hn7 : n7 = k := by rw [hv7.1, loadL_len']
          subst hn7
          clear hx6 hu6 hB6 hb7
          go_wp2_with fail
          go_loopw [11] (fun i wr => ∃ j : Nat, j ≤ n7 ∧ i = .int .i64 j ∧ Qw w7 wr) (fun i _ => n7 - (intOf i).toNat)
          case atStart => exact ⟨0, Nat.zero_le _, rfl, Qw.refl _⟩
          case round =>
            obtain ⟨j, hj, rfl, hq⟩ := hrel
            by_cases hltj : j < n7
            · obtain ⟨g, hg⟩ : ∃ g, g = (j + 1) % n7 := ⟨_, rfl⟩
              have hgm : g < n7 := by rw [hg]; exact Nat.mod_lt _ (by omega)
              obtain ⟨b1, o1, rfl, hl1, hc1⟩ := (hv7.qw hq).rd.at hgm
              obtain ⟨b2, o2, rfl, hl2, hc2⟩ := (hx7.qw hq).rd.at hltj
              rw [loadL_at hgm] at hc1
              rw [loadL_at hltj] at hc2
              have hmv := load_move HIN.out hltj
              rw [← hg] at hmv
              rw [hmv] at hc1
              have hvv : ((cntB (fun x => x == (j : Int)) l : Int) != (cntB (fun x => x == (j : Int)) l : Int)) = false := by simp
              generalize cntB (fun x => x == (j : Int)) l = V at *
              have w1 : IntKind.i64.wrap ((j : Int) + 1) = (j : Int) + 1 := IntWalk.i64_in _ (by omega)
              have w2 : ((j : Int) + 1).tmod (n7 : Int) = (g : Int) := by rw [hg]; rfl
              clear hmv hg hv7 hx7 hB7
              go_wp2_with fail
              go_quiet (fail)
              clear w1 w2
              go_wp2_with fail
              go_roundw
              case rel => exact ⟨j + 1, by omega, by go_num, hq.trans (Qw.drewN _ _)⟩
              case measure => simp [intOf]; omega
            · have hB8 := hB7.trans ((hq.below w7.heap.size).mono hB7.size)
              clear hv7 hx7
              go_wp2_with fail
              go_ret
              exact ⟨rfl, hB8⟩
    · have hok' : hopsB l ch = false := by simpa using hok
      have HY := Lib.hid (load_no hok')
      clear hok
      go_wp2_with fail
      refine (LoadOf_c ch hL1.1).mono ?_; rintro e w2 hret
      rw [HY.out] at hret; obtain ⟨a2, n2, c2, rfl, hx2, hb2⟩ := hret
      have hL2 := hL1.below hb2
      have hB2 := hb1.trans (hb2.mono hb1.size)
      clear hL1 hb1 hb2
      go_wp2_with fail
      refine (sLoadOf_c ch hL2.1).mono ?_; rintro e w3 hret
      rw [HY.out] at hret; obtain ⟨a3, n3, c3, rfl, hy3, hb3⟩ := hret
      have hL3 := hL2.below hb3
      have hx3 := hx2.below hb3
      have hB3 := hB2.trans (hb3.mono hB2.size)
      clear hL2 hx2 hb3 hB2
      go_wp2_with fail
      refine (ssInts_c hx3.rd hy3.rd).mono ?_; rintro e w4 ⟨rfl, hq4⟩
      rw [sameB_self]
      have hL4 := hL3.below (hq4.below _)
      have hx4 := hx3.qw hq4
      have hB4 := hB3.trans ((hq4.below w3.heap.size).mono hB3.size)
      clear hL3 hx3 hy3 hB3 hq4
      have hn2 : n2 = 0 := hx4.1
      subst hn2
      go_wp2_with fail
      refine (sLoadOf_c ch hL4.1).mono ?_; rintro e w5 hret
      rw [HY.out] at hret; obtain ⟨a5, n5, c5, rfl, hy5, hb5⟩ := hret
      have hL5 := hL4.below hb5
      have hx5 := hx4.below hb5
      have hB5 := hB4.trans (hb5.mono hB4.size)
      clear hL4 hx4 hb5 hB4
      go_wp2_with fail
      refine (ssInts_c hx5.rd hy5.rd).mono ?_; rintro e w6 ⟨rfl, hq6⟩
      rw [sameB_self]
      have hL6 := hL5.below (hq6.below _)
      have hB6 := hB5.trans ((hq6.below w5.heap.size).mono hB5.size)
      clear hL5 hx5 hy5 hB5 hq6
      go_wp2_with fail
      refine (HopsValid_c ch hL6.1).mono ?_; rintro e w' ⟨rfl, rfl⟩
      rw [hok']
      go_wp2_with fail
      go_ret
      exact ⟨rfl, hB6⟩
  · have hn' : (1048576 : Int) < (len0 : Int) := by omega
    go_enter Try.func8, Try.ntmps8
    go_wp2_with fail
    go_ret
    exact ⟨rfl, Below.refl _ _⟩

set_option maxRecDepth 100000 in
theorem lifted (os : Os) (started : os.Started) (H : Type) (enc : TypeId × Value → H) :
    ReturnsInHanded {} Try.checked os 8 .any (Rows.fnLoadSpec.pre6 enc Try.prog Try.f8 Rows.fnLoadRow.domain false) (Rows.fnLoadSpec.post enc Try.prog Try.f8 false true false false) := by
  refine returnsInHanded_of_change (C := Try.checked) own started (by kernel_rfl) Try.func8
    (ChangeSpec.witness6 (enc := enc) (C := Try.checked) false ⟨#[], #[.slice none 0 0], []⟩ 8 (by kernel_rfl) (by kernel_rfl) (by kernel_rfl) (by kernel_rfl)) ?_
  intro W base args ds gs before hval0 hW hcnd _
  have hval : ∀ (j : Nat) t v, Try.f8.params[j]? = some t → args[j]? = some v → Value.okWide Try.prog W .any base t v := hval0
  have hW' := hW
  obtain ⟨p, q, hA0, hV, rfl, hfz, hnd⟩ := hW
  have hA : DataW.TrodAll enc Try.prog W 0 (fun _ => true) true Try.f8.params.toList args.toList ds p := hA0
  rw [Try.params8] at hA hval
  obtain ⟨v0, vs0, d0, ds0, p0, q0, hargs, rfl, rfl, h0, r0⟩ := trodAll_cons hA
  obtain ⟨rfl, rfl, rfl⟩ := trodAll_nil r0
  obtain rfl : args = #[v0] := by cases args; simp_all
  obtain ⟨rfl, rfl⟩ := trodVars_none hV
  have k0 := h0
  have lt0 : ∀ x ∈ p0, x.block < W.heap.size := by obtain ⟨m, hm⟩ := k0; exact DataW.trod_lt m _ _ _ hm
  obtain ⟨a0, len0, cap0, rfl⟩ := okWide_slice Try.underlying34 (hval 0 34 v0 rfl rfl)
  obtain ⟨z0, w0⟩ : ∃ zs, IsRow .u8 W a0 len0 cap0 zs := by
    obtain ⟨fuel, hf⟩ := h0
    rcases open_ints Try.underlying34 Try.underlying5 (by kernel_rfl) hf with ⟨hcs, _⟩ | ⟨x, l, c, zs, hcs, _, hl, hm, hz, _, hcell, hwz⟩
    · simp [Value.cells] at hcs
      obtain ⟨rfl, rfl, rfl⟩ := hcs
      exact ⟨[], .inl ⟨rfl, rfl, rfl, rfl⟩⟩
    · simp [Value.cells] at hcs
      obtain ⟨rfl, rfl, rfl⟩ := hcs
      exact ⟨zs, .inr ⟨_, rfl, hl, hm, by simpa using hz, hcell, hwz⟩⟩
  clear hA0 hval0
  refine (walk a0 len0 cap0 z0 W w0).mono fun e W' ⟨he, bel⟩ => ?_
  subst he
  exact ⟨_, rfl, _, _, _, [], _, [], hW', trodAll_mk1 (shut_bool Try.underlying4 _), (trodAll_cons_mk (Below.trod laidOut (by kernel_rfl) (of_decide_eq_true (by kernel_rfl)) k0 bel lt0) trodAll_mk0), rfl, bel.frame _, fun h => by cases h⟩

theorem over : Rows.fnLoadRow.holds Try.pinned (OpenSpec.ofChange Rows.fnLoadSpec) :=
  OpenClaim.holds_of_wide 8 Try.f8 rfl rfl rfl rfl rfl rfl rfl ⟨rfl, rfl, rfl, rfl, rfl⟩ rfl rfl rfl rfl rfl (by kernel_rfl) Try.func8 (by kernel_rfl)
    (of_decide_eq_true (by kernel_rfl)) (by unfold Func.isWrapper; first | (rw [if_pos (by decide +kernel)]; kernel_rfl) | (rw [if_neg (by decide +kernel)]; exact ⟨rfl, rfl⟩))
    (fun os started H enc _ => lifted os started H enc)

theorem proved : Rows.FnLoadSaid := over
#print axioms proved
end Go.Proofs.Ytnklnafcbjnmfaa.fnLoad
