/- The law FnShiftHops holds for every input that the given row lets in: the program's answer is the reference's. No condition of its own. -/
import Derived.Test.YtnklnafcbjnmfaaRows
import Derived.WalkKit
import Derived.ProofKit
import Derived.OpenShut
import Derived.ShutString
import Derived.ChangeOld
import Derived.Below
import Derived.Lib.SmallJoins
import Derived.Test.YtnklnafcbjnmfaaLw
import Derived.Test.YtnklnafcbjnmfaaHs
import Derived.Test.YtnklnafcbjnmfaaHc
namespace Go.Proofs.Ytnklnafcbjnmfaa.fnShiftHops
open Go.ChangeShapes Go.WideShapes Go.ChangeAt Go.RowKit
open Go.ChangeMaps (open_string shut_string)
set_option linter.unusedVariables false

theorem own : ownKnob Try.prog.godebug = none := by kernel_rfl
theorem laidOut : laidOutB Try.prog = true := by kernel_rfl

/-- A slice of integers that came in: nil, or a row of 'cap' cells that hold the numbers zs. -/
def IsRow (k : IntKind) (w : World) (a : Option Addr) (len cap : Nat) (zs : List Int) : Prop :=
  (a = none ∧ len = 0 ∧ cap = 0 ∧ zs = []) ∨
  ∃ x, a = some x ∧ len ≤ cap ∧ cap ≤ maxLen ∧ zs.length = cap ∧ (∀ i, i < zs.length → w.cell? (x.add i) = some (.int k (zs.getD i 0))) ∧ ∀ n ∈ zs, (Lit.int k n).wf = true

theorem rot_len {f : Nat} {l : List Int} (hf : f ≤ l.length) : (rotL f l).length = l.length := by
  unfold rotL; rw [List.length_append, List.length_drop, List.length_take]; omega
theorem rot_mem {f : Nat} {l : List Int} {x : Int} (h : x ∈ rotL f l) : x ∈ l := by
  unfold rotL at h
  rcases List.mem_append.1 h with h | h
  · exact List.mem_of_mem_drop h
  · exact List.mem_of_mem_take h
theorem rot_rot {a b : Nat} {l : List Int} (ha : a < l.length) (hb : b < l.length) : rotL a (rotL b l) = rotL ((a + b) % l.length) l := by
  have hl := rot_len (Nat.le_of_lt hb)
  have hm : (a + b) % l.length < l.length := Nat.mod_lt _ (by omega)
  have hlen : (rotL a (rotL b l)).length = (rotL ((a + b) % l.length) l).length := by rw [rot_len (by omega), hl, rot_len (by omega)]
  refine List.ext_getElem hlen fun i h1 h2 => ?_
  have hi : i < l.length := by rw [rot_len (by omega)] at h2; exact h2
  have e1 : (rotL a (rotL b l)).getD i 0 = (rotL a (rotL b l))[i] := by simp [List.getD, h1]
  have e2 : (rotL ((a + b) % l.length) l).getD i 0 = (rotL ((a + b) % l.length) l)[i] := by simp [List.getD, h2]
  rw [← e1, ← e2, rot_get (by omega) (by omega), hl, rot_get hb (Nat.mod_lt _ (by omega)), rot_get hm hi, Nat.mod_add_mod, Nat.add_mod_mod, Nat.add_assoc]
theorem rot_zero (l : List Int) : rotL 0 l = l := by simp [rotL]
theorem hops_rot {f : Nat} {l : List Int} (h : hopsB l 16 = true) (hf : f ≤ l.length) : hopsB (rotL f l) 16 = true := by
  obtain ⟨h1, h2, h3⟩ := hopsB_ch h
  refine hopsB_mk (by omega) (by rw [rot_len hf]; exact h2) ?_
  unfold allB at *; rw [List.all_eq_true] at *
  exact fun x hx => h3 x (rot_mem hx)
theorem tmod_emod (k n : Int) : k.tmod n % n = k % n := by
  have := Int.mul_tdiv_add_tmod k n
  have e : k.tmod n = k - n * k.tdiv n := by omega
  rw [e, Int.sub_mul_emod_self_left]
/-- The place of a shift. -/
def rs (n : Nat) (k : Int) : Nat := (k % (n : Int)).toNat
theorem rs_lt {n : Nat} (h : 0 < n) (k : Int) : rs n k < n := by
  unfold rs
  have h0 := Int.emod_nonneg k (show (n : Int) ≠ 0 by omega)
  have h1 := Int.emod_lt_of_pos k (show 0 < (n : Int) by omega)
  omega
theorem rs_cast {n : Nat} (h : 0 < n) (k : Int) : (rs n k : Int) = k % n := by
  unfold rs
  have h0 := Int.emod_nonneg k (show (n : Int) ≠ 0 by omega)
  omega
theorem rs_add {n : Nat} (h : 0 < n) (a b : Int) : (rs n a + rs n b) % n = rs n (a + b) := by
  have e : (((rs n a + rs n b) % n : Nat) : Int) = (rs n (a + b) : Int) := by
    rw [Int.natCast_emod, Int.natCast_add, rs_cast h, rs_cast h, rs_cast h, ← Int.add_emod]
  omega
theorem rs_tmod {n : Nat} (k : Int) : rs n (k.tmod n) = rs n k := by unfold rs; rw [tmod_emod]
theorem rs_neg {n : Nat} (k : Int) : rs n (-(k.tmod n)) = rs n (-k) := by
  unfold rs
  have := Int.mul_tdiv_add_tmod k n
  have e : -(k.tmod n) = -k + n * k.tdiv n := by omega
  rw [e, Int.add_mul_emod_self_left]
theorem rs_zero (n : Nat) : rs n 0 = 0 := by unfold rs; simp
theorem shift_rs {l : List Int} {k : Int} (h : hopsB l 16 = true) (h0 : 0 < l.length) : shiftHops l k = some (rotL (rs l.length k) l) := shiftHops_yes h h0
theorem shift_rot {l : List Int} {a : Int} (b : Int) (h : hopsB l 16 = true) (h0 : 0 < l.length) : shiftHops (rotL (rs l.length a) l) b = some (rotL (rs l.length (b + a)) l) := by
  have hl := rot_len (Nat.le_of_lt (rs_lt h0 a))
  rw [shift_rs (hops_rot h (Nat.le_of_lt (rs_lt h0 a))) (by omega), hl, rot_rot (rs_lt h0 b) (rs_lt h0 a), rs_add h0]
theorem col_rot {l : List Int} {k : Int} (h : hopsB l 16 = true) (h0 : 0 < l.length) : colHops (rotL (rs l.length k) l) l (k.tmod l.length) = l.length := by
  have hk := rs_lt h0 k
  have hl := rot_len (Nat.le_of_lt hk)
  rw [colHops_yes (colOk_yes (hops_rot h (Nat.le_of_lt hk)) h hl (by omega))]
  unfold meet
  have key : ∀ i, i < (rotL (rs l.length k) l).length → meetB (rotL (rs l.length k) l) l (k.tmod l.length % (l.length : Int)).toNat i = true := by
    intro i hi
    unfold meetB
    rw [tmod_emod]
    rw [rot_get hk (by omega)]
    show (l.getD ((i + rs l.length k) % l.length) 0 == l.getD ((i + rs l.length k) % l.length) 0) = true
    simp
  rw [cntR_congr key]
  unfold cntR; rw [List.filter_eq_self.2 (by simp), List.length_range, hl]
set_option maxRecDepth 100000
set_option maxHeartbeats 4000000 in
theorem walk (a0 : Option Addr) (len0 cap0 : Nat) (z0 : List Int) (a1 : Option Addr) (len1 cap1 : Nat) (z1 : List Int) (w : World) (w0 : IsRow .u8 w a0 len0 cap0 z0) (w1 : IsRow .u8 w a1 len1 cap1 z1) :
    Calls Try.prog 7 #[.slice a0 len0 cap0, .slice a1 len1 cap1] w fun e w' => e = .returned (.bool true) ∧ Below w.heap.size w w' := by
  by_cases hn : len0 ≤ 1048576
  · by_cases hn1 : len1 ≤ 1048576
    · have hC := codeW_of_row w0 (by omega)
      clear w0 w1
      go_enter Try.func7, Try.ntmps7
      go_wp2_with fail
      refine (DrawShiftHops_c hC).mono ?_; rintro e w1 ⟨ao, n, c, l, k, rfl, hL1, h301, hk0, hk1, hb1⟩
      clear hC
      by_cases hok : (hopsB l 16 && decide (0 < l.length)) = true
      · rw [Bool.and_eq_true, decide_eq_true_eq] at hok
        have hnl := hL1.1.1
        have HY := Lib.hid (shift_rs (k := k) hok.1 hok.2)
        have HB := Lib.hid (show shiftHops (rotL (rs l.length k) l) (-(k.tmod (n : Int))) = some l by
          rw [shift_rot _ hok.1 hok.2]
          have e : rs l.length (-(k.tmod (n : Int)) + k) = 0 := by
            rw [← hnl, ← rs_add (by omega), rs_neg, rs_add (by omega), show -k + k = 0 by omega, rs_zero]
          rw [e, rot_zero])
        have HM := Lib.hid (show shiftHops (rotL (rs l.length k) l) ((len1 : Int) % 30) = shiftHops l (k.tmod (n : Int) + (len1 : Int) % 30) by
          rw [shift_rot _ hok.1 hok.2, shift_rs hok.1 hok.2, ← hnl, ← rs_add (by omega), ← rs_add (by omega) (k.tmod (n : Int)), rs_tmod, Nat.add_comm])
        have HC := Lib.hid (show colHops (rotL (rs l.length k) l) l (k.tmod (n : Int)) = n by rw [hnl]; exact col_rot hok.1 hok.2)
        have HS := Lib.hid (shift_rs (k := k.tmod (n : Int) + (len1 : Int) % 30) hok.1 hok.2)
        have hn0 : 0 < n := by omega
        have hnb : n ≤ 301 := by omega
        have hN0 := Int.lt_tmod_of_pos k (show 0 < (n : Int) by omega)
        have hN1 := Int.tmod_lt_of_pos k (show 0 < (n : Int) by omega)
        have hne : ((n : Int) == 0) = false := by simp; omega
        generalize hNk : k.tmod (n : Int) = N at HB HM HC HS hN0 hN1
        generalize rotL (rs l.length k) l = X at HY HB HM HC
        generalize rotL (rs l.length (N + (len1 : Int) % 30)) l = Z at HS
        have HL := Lib.hid hnl
        clear hok hnl
        go_wp2_with fail
        refine (ShiftHops_c k hL1.1 hL1.2.1).mono ?_; rintro e w2 hret
        rw [HY.out] at hret; obtain ⟨a2, n2, c2, rfl, hx2, hb2⟩ := hret.some
        have hL2 := hL1.below hb2
        have hB2 := hb1.trans (hb2.mono hb1.size)
        clear hL1 hb1 hb2
        go_wp2_with fail
        refine (sShiftHops_c k hL2.1 hL2.2.1).mono ?_; rintro e w3 hret
        rw [HY.out] at hret; obtain ⟨a3, n3, c3, rfl, hy3, hb3⟩ := hret.some
        have hL3 := hL2.below hb3
        have hx3 := hx2.below hb3
        have hB3 := hB2.trans (hb3.mono hB2.size)
        clear hL2 hx2 hb3 hB2
        go_wp2_with fail
        refine (ssInts_c hx3.rd hy3.rd).mono ?_; rintro e w4 ⟨rfl, hq4⟩
        rw [sameB_self]
        have hL4 := hL3.below (hq4.below _)
        have hx4 := hx3.qw hq4
        have hB4 := hB3.trans ((hq4.below w3.heap.size).mono hB3.size)
        clear hL3 hx3 hy3 hB3 hq4
        go_wp2_with fail
        refine (ShiftHops_c (-N) hx4.rd hx4.cap).mono ?_; rintro e w5 hret
        rw [HB.out] at hret; obtain ⟨a5, n5, c5, rfl, hz5, hb5⟩ := hret.some
        have hL5 := hL4.below hb5
        have hx5 := hx4.below hb5
        have hB5 := hB4.trans (hb5.mono hB4.size)
        clear hL4 hx4 hb5 hB4
        go_wp2_with fail
        refine (ShiftHops_c ((len1 : Int) % 30) hx5.rd hx5.cap).mono ?_; rintro e w6 hret
        rw [HM.out, HS.out] at hret; obtain ⟨a6, n6, c6, rfl, hu6, hb6⟩ := hret.some
        have hL6 := hL5.below hb6
        have hx6 := hx5.below hb6
        have hz6 := hz5.below hb6
        have hB6 := hB5.trans (hb6.mono hB5.size)
        clear hL5 hx5 hz5 hb6 hB5
        go_wp2_with fail
        refine (ShiftHops_c (N + (len1 : Int) % 30) hL6.1 hL6.2.1).mono ?_; rintro e w7 hret
        rw [HS.out] at hret; obtain ⟨a7, n7, c7, rfl, hv7, hb7⟩ := hret.some
        have hL7 := hL6.below hb7
        have hx7 := hx6.below hb7
        have hz7 := hz6.below hb7
        have hu7 := hu6.below hb7
        have hB7 := hB6.trans (hb7.mono hB6.size)
        clear hL6 hx6 hz6 hu6 hb7 hB6
        go_wp2_with fail
        refine (ssInts_c hz7.rd hL7.1).mono ?_; rintro e w8 ⟨rfl, hq8⟩
        rw [sameB_self]
        have hL8 := hL7.below (hq8.below _)
        have hx8 := hx7.qw hq8
        have hu8 := hu7.qw hq8
        have hv8 := hv7.qw hq8
        have hB8 := hB7.trans ((hq8.below w7.heap.size).mono hB7.size)
        clear hL7 hx7 hz7 hu7 hv7 hB7 hq8
        go_wp2_with fail
        refine (ssInts_c hu8.rd hv8.rd).mono ?_; rintro e w9 ⟨rfl, hq9⟩
        rw [sameB_self]
        have hL9 := hL8.below (hq9.below _)
        have hx9 := hx8.qw hq9
        have hB9 := hB8.trans ((hq9.below w8.heap.size).mono hB8.size)
        clear hL8 hx8 hu8 hv8 hB8 hq9
        go_wp2_with fail
        refine (HopCollisions_c N hx9.rd hL9.1 hL9.2.1).mono ?_; rintro e w10 ⟨rfl, hb10⟩
        rw [HC.out]
        have hB10 := hB9.trans (hb10.mono hB9.size)
        clear hL9 hx9 hb10 hB9
        go_wp2_with fail
        go_ret
        exact ⟨rfl, hB10⟩
      · have HY := Lib.hid (show shiftHops l k = none by unfold shiftHops; rw [if_neg hok])
        clear hok
        go_wp2_with fail
        refine (ShiftHops_c k hL1.1 hL1.2.1).mono ?_; rintro e w2 hret
        rw [HY.out] at hret; obtain ⟨a2, n2, c2, rfl, hx2, hb2⟩ := hret.none
        have hL2 := hL1.below hb2
        have hB2 := hb1.trans (hb2.mono hb1.size)
        clear hL1 hb1 hb2
        go_wp2_with fail
        refine (sShiftHops_c k hL2.1 hL2.2.1).mono ?_; rintro e w3 hret
        rw [HY.out] at hret; obtain ⟨a3, n3, c3, rfl, hy3, hb3⟩ := hret.none
        have hx3 := hx2.below hb3
        have hB3 := hB2.trans (hb3.mono hB2.size)
        clear hL2 hx2 hb3 hB2
        go_wp2_with fail
        refine (ssInts_c hx3.rd hy3.rd).mono ?_; rintro e w4 ⟨rfl, hq4⟩
        rw [sameB_self]
        have hx4 := hx3.qw hq4
        have hy4 := hy3.qw hq4
        have hB4 := hB3.trans ((hq4.below w3.heap.size).mono hB3.size)
        clear hx3 hy3 hB3 hq4
        go_wp2_with fail
        refine (ssInts_c hx4.rd hy4.rd).mono ?_; rintro e w5 ⟨rfl, hq5⟩
        rw [sameB_self]
        have hB5 := hB4.trans ((hq5.below w4.heap.size).mono hB4.size)
        go_wp2_with fail
        go_ret
        exact ⟨rfl, hB5⟩
    · have hn' : (1048576 : Int) < (len1 : Int) := by omega
      go_enter Try.func7, Try.ntmps7
      go_wp2_with fail
      go_ret
      exact ⟨rfl, Below.refl _ _⟩
  · have hn' : (1048576 : Int) < (len0 : Int) := by omega
    go_enter Try.func7, Try.ntmps7
    go_wp2_with fail
    go_ret
    exact ⟨rfl, Below.refl _ _⟩

set_option maxRecDepth 100000 in
theorem lifted (os : Os) (started : os.Started) (H : Type) (enc : TypeId × Value → H) :
    ReturnsInHanded {} Try.checked os 7 .any (Rows.fnShiftHopsSpec.pre6 enc Try.prog Try.f7 Rows.fnShiftHopsRow.domain false) (Rows.fnShiftHopsSpec.post enc Try.prog Try.f7 false true false false) := by
  refine returnsInHanded_of_change (C := Try.checked) own started (by kernel_rfl) Try.func7
    (ChangeSpec.witness6 (enc := enc) (C := Try.checked) false ⟨#[], #[.slice none 0 0, .slice none 0 0], []⟩ 8 (by kernel_rfl) (by kernel_rfl) (by kernel_rfl) (by kernel_rfl)) ?_
  intro W base args ds gs before hval0 hW hcnd _
  have hval : ∀ (j : Nat) t v, Try.f7.params[j]? = some t → args[j]? = some v → Value.okWide Try.prog W .any base t v := hval0
  have hW' := hW
  obtain ⟨p, q, hA0, hV, rfl, hfz, hnd⟩ := hW
  have hA : DataW.TrodAll enc Try.prog W 0 (fun _ => true) true Try.f7.params.toList args.toList ds p := hA0
  rw [Try.params7] at hA hval
  obtain ⟨v0, vs0, d0, ds0, p0, q0, hargs, rfl, rfl, h0, r0⟩ := trodAll_cons hA
  obtain ⟨v1, vs1, d1, ds1, p1, q1, rfl, rfl, rfl, h1, r1⟩ := trodAll_cons r0
  obtain ⟨rfl, rfl, rfl⟩ := trodAll_nil r1
  obtain rfl : args = #[v0, v1] := by cases args; simp_all
  obtain ⟨rfl, rfl⟩ := trodVars_none hV
  have k0 := h0
  have lt0 : ∀ x ∈ p0, x.block < W.heap.size := by obtain ⟨m, hm⟩ := k0; exact DataW.trod_lt m _ _ _ hm
  have k1 := h1
  have lt1 : ∀ x ∈ p1, x.block < W.heap.size := by obtain ⟨m, hm⟩ := k1; exact DataW.trod_lt m _ _ _ hm
  obtain ⟨a0, len0, cap0, rfl⟩ := okWide_slice Try.underlying34 (hval 0 34 v0 rfl rfl)
  obtain ⟨z0, w0⟩ : ∃ zs, IsRow .u8 W a0 len0 cap0 zs := by
    obtain ⟨fuel, hf⟩ := h0
    rcases open_ints Try.underlying34 Try.underlying5 (by kernel_rfl) hf with ⟨hcs, _⟩ | ⟨x, l, c, zs, hcs, _, hl, hm, hz, _, hcell, hwz⟩
    · simp [Value.cells] at hcs
      obtain ⟨rfl, rfl, rfl⟩ := hcs
      exact ⟨[], .inl ⟨rfl, rfl, rfl, rfl⟩⟩
    · simp [Value.cells] at hcs
      obtain ⟨rfl, rfl, rfl⟩ := hcs
      exact ⟨zs, .inr ⟨_, rfl, hl, hm, by simpa using hz, hcell, hwz⟩⟩
  obtain ⟨a1, len1, cap1, rfl⟩ := okWide_slice Try.underlying34 (hval 1 34 v1 rfl rfl)
  obtain ⟨z1, w1⟩ : ∃ zs, IsRow .u8 W a1 len1 cap1 zs := by
    obtain ⟨fuel, hf⟩ := h1
    rcases open_ints Try.underlying34 Try.underlying5 (by kernel_rfl) hf with ⟨hcs, _⟩ | ⟨x, l, c, zs, hcs, _, hl, hm, hz, _, hcell, hwz⟩
    · simp [Value.cells] at hcs
      obtain ⟨rfl, rfl, rfl⟩ := hcs
      exact ⟨[], .inl ⟨rfl, rfl, rfl, rfl⟩⟩
    · simp [Value.cells] at hcs
      obtain ⟨rfl, rfl, rfl⟩ := hcs
      exact ⟨zs, .inr ⟨_, rfl, hl, hm, by simpa using hz, hcell, hwz⟩⟩
  clear hA0 hval0
  refine (walk a0 len0 cap0 z0 a1 len1 cap1 z1 W w0 w1).mono fun e W' ⟨he, bel⟩ => ?_
  subst he
  exact ⟨_, rfl, _, _, _, [], _, [], hW', trodAll_mk1 (shut_bool Try.underlying4 _), (trodAll_cons_mk (Below.trod laidOut (by kernel_rfl) (of_decide_eq_true (by kernel_rfl)) k0 bel lt0) (trodAll_cons_mk (Below.trod laidOut (by kernel_rfl) (of_decide_eq_true (by kernel_rfl)) k1 bel lt1) trodAll_mk0)), rfl, bel.frame _, fun h => by cases h⟩

theorem over : Rows.fnShiftHopsRow.holds Try.pinned (OpenSpec.ofChange Rows.fnShiftHopsSpec) :=
  OpenClaim.holds_of_wide 7 Try.f7 rfl rfl rfl rfl rfl rfl rfl ⟨rfl, rfl, rfl, rfl, rfl⟩ rfl rfl rfl rfl rfl (by kernel_rfl) Try.func7 (by kernel_rfl)
    (of_decide_eq_true (by kernel_rfl)) (by unfold Func.isWrapper; first | (rw [if_pos (by decide +kernel)]; kernel_rfl) | (rw [if_neg (by decide +kernel)]; exact ⟨rfl, rfl⟩))
    (fun os started H enc _ => lifted os started H enc)

theorem proved : Rows.FnShiftHopsSaid := over
#print axioms proved
end Go.Proofs.Ytnklnafcbjnmfaa.fnShiftHops
