/- Draws of payloads, rows and registers (DrawProtectPayload, DrawOpenPayload). No condition beyond lengths. -/
import Derived.Test.YtadcckjlcmnhbaaOd
import Derived.Test.YtadcckjlcmnhbaaOc
import Derived.Test.YtadcckjlcmnhbaaDq
namespace Go.Proofs.Ytadcckjlcmnhbaa
open Go.RowKit

/-- What a protected payload is. -/
theorem prR_good {p q : ByteArray} {n s t x : Int} (hq : prR p n s t x = some q) : allS bitC q = true ∧ q.size ≤ 600 ∧ 0 < q.size ∧ q.size % (7 * n.toNat) = 0 ∧ (1 ≤ n ∧ n ≤ 40) ∧ regB s t x = true ∧ payB p = true := by
  have h1 : payB p = true := by
    cases h : payB p with
    | true => rfl
    | false => rw [prR_no1 h] at hq; cases hq
  have h2 : inB n 1 40 = true := by
    cases h : inB n 1 40 with
    | true => rfl
    | false => rw [prR_no2 h] at hq; cases hq
  have h3 : regB s t x = true := by
    cases h : regB s t x with
    | true => rfl
    | false => rw [prR_no3 h] at hq; cases hq
  obtain ⟨R, rfl, hR1, hR4⟩ := inB_40 h2
  have hP := prot_all h1 hR1 hR4
  have hps := prR_some h1 h2 h3 hP
  rw [hq] at hps
  obtain ⟨S, T, X, rfl, rfl, rfl, _⟩ := regB_nat h3
  have hCR : (encT (padT (frameT p) (4 * R))).size / R * R = (encT (padT (frameT p) (4 * R))).size := Nat.div_mul_cancel (Nat.dvd_of_mod_eq_zero (mod_of hP.rows))
  have hWB : bitsB (wvT (encT (padT (frameT p) (4 * R))) R) = true := bits_mk (by rw [wv_size]; exact hP.top) (wv_bits (by omega) hCR (bits_all hP.out))
  rw [scrR_yes hWB h3] at hps
  have e := Option.some.inj hps
  have hz : q.size = (encT (padT (frameT p) (4 * R))).size := by rw [← e, scr_size, wv_size]
  exact ⟨by rw [← e]; exact scr_bits _ _ _ _, by rw [hz]; exact hP.top, by rw [hz]; exact hP.pos, by rw [hz]; exact hP.rows, by omega, h3, h1⟩
theorem prR_getD (p : ByteArray) (n s t x : Int) : allS bitC ((prR p n s t x).getD ByteArray.empty) = true ∧ ((prR p n s t x).getD ByteArray.empty).size ≤ 600 := by
  cases h : prR p n s t x with
  | none => exact ⟨rfl, by show (0 : Nat) ≤ 600; omega⟩
  | some q => have := prR_good h; exact ⟨this.1, this.2.1⟩
/-- The post: a text, a number and a register. -/
def RetTIR (w : World) (m : Nat) (e : Ending) (w' : World) : Prop :=
  ∃ (p : ByteArray) (n s t x : Int), e = .returned (.tuple #[.string p, .int .i64 n, .agg #[.int .i64 s, .int .i64 t, .int .i64 x]]) ∧ p.size ≤ m ∧ (-1 ≤ n ∧ n ≤ 41) ∧ Below w.heap.size w w'

set_option maxRecDepth 100000 in
set_option maxHeartbeats 3200000 in
theorem DrawProtectPayload_c {w : World} {ao : Option Addr} {n c : Nat} (h : CodeW w ao n c) : Calls Try.prog 15 #[.slice ao n c] w (RetTIR w 101) := by
  have hbz : Below w.heap.size w (w.alloc (.cells #[.int .i64 0, .int .i64 0, .int .i64 0] 42)) := (Below.refl _ _).alloc (Nat.le_refl _) _
  have hBx := Box.new w #[.int .i64 0, .int .i64 0, .int .i64 0] 42
  obtain ⟨lb, hR0, hcap, hby⟩ := h
  have hR := hR0.below hbz
  clear hR0
  go_enter Try.func15, Try.ntmps15
  go_wp2_with fail
  refine (l9Open_c hR hcap hby).mono ?_; rintro e w1 ⟨rfl, hr1, hb1⟩
  have hBx1 := hBx.below hb1 hBx.lt
  have hB1 := hbz.trans (hb1.mono hbz.size)
  have hbg : w.heap.size < (w.alloc (.cells #[.int .i64 0, .int .i64 0, .int .i64 0] 42)).heap.size := hBx.lt
  clear hR hby hb1 hBx hbz
  obtain ⟨g, hg⟩ : ∃ g, (w.alloc (.cells #[.int .i64 0, .int .i64 0, .int .i64 0] 42)).heap.size = g := ⟨_, rfl⟩
  rw [hg] at hr1 hbg ⊢
  clear hg
  have hgl := hr1.lt
  have hwb : w.heap.size ≠ g := by omega
  go_wp2_with fail
  refine (l1StringB_c 30 hr1 (by omega) (by omega)).mono ?_; rintro e w2 ⟨p, q2, rfl, hp30, hpb, hq2, hq3, hr2, hg2⟩
  have hBx2 := hBx1.gr hg2 hwb
  have hB2 := hB1.trans (below_of_gr hg2 (Nat.le_of_lt hbg) hB1.size)
  have hz2 := hg2.size
  clear hr1 hg2 hBx1 hB1 hpb
  go_wp2_with fail
  refine (pick_c _ hr2 (by omega)).mono ?_; rintro e w3 ⟨u, rfl, u0, u1, hr3, hg3⟩
  have hBx3 := hBx2.gr hg3 hwb
  have hB3 := hB2.trans (below_of_gr hg3 (Nat.le_of_lt hbg) hB2.size)
  have hz3 := hg3.size
  have hu12 : u ≤ 11 := by omega
  clear hr2 hg3 hBx2 hB2 u1
  go_wp2_with fail
  refine (l1Open_c hr3 (by omega)).mono ?_; rintro e w4 ⟨s, t, x, q4, rfl, hq4, hq5, hr4, hg4⟩
  have hBx4 := hBx3.gr hg4 hwb
  have hB4 := hB3.trans (below_of_gr hg4 (Nat.le_of_lt hbg) hB3.size)
  have hz4 := hg4.size
  clear hr3 hg4 hBx3 hB3
  have hY := Box.new w4 #[.int .i64 s, .int .i64 t, .int .i64 x] 42
  have hbl1 : Below w4.heap.size w4 (w4.alloc (.cells #[.int .i64 s, .int .i64 t, .int .i64 x] 42)) := (Below.refl _ _).alloc (Nat.le_refl _) _
  have hr5 := hr4.below hbl1
  have hBx5 := hBx4.below hbl1 hBx4.lt
  have hB5 := hB4.trans (hbl1.mono hB4.size)
  have hyg : w4.heap.size ≠ g := by omega
  clear hBx4 hB4 hr4 hbl1
  go_wp2_with fail
  refine (pick_c _ hr5 (by omega)).mono ?_; rintro e w6 ⟨v, rfl, v0, v1, hr6, hg6⟩
  have hBx6 := hBx5.gr hg6 hwb
  have hY6 := hY.gr hg6 hyg
  have hB6 := hB5.trans (below_of_gr hg6 (Nat.le_of_lt hbg) hB5.size)
  have hyz : w4.heap.size ≠ w.heap.size := by have := hB6.size; omega
  clear hBx5 hY hB5 hg6 hr5 v1
  by_cases hv0 : (v == 0) = true
  · have hbl : Below w6.heap.size w6 (w6.alloc (.cells (([0, 40, 41, -1] : List Int).map (Value.int .i64)).toArray 3)) := (Below.refl _ _).alloc (Nat.le_refl _) _
    have hlt6 := hr6.lt
    have hne : w6.heap.size ≠ g := by omega
    have hBx7 := hBx6.below hbl hBx6.lt
    have hY7 := hY6.below hbl hY6.lt
    have hB7 := hB6.trans (hbl.mono hB6.size)
    clear hBx6 hY6 hB6
    go_wp2_with fail
    refine (num_lit [0, 40, 41, -1] hr6 (by omega) rfl rfl (by decide) (by decide)).mono ?_; rintro e w8 ⟨m, rfl, hm, hr8, hg8⟩
    have hm2 : -1 ≤ m ∧ m ≤ 41 := by simp at hm; omega
    have hBx8 := hBx7.gr hg8 hwb
    have hY8 := hY7.gr hg8 hyg
    have hB8 := hB7.trans (below_of_gr hg8 (Nat.le_of_lt hbg) hB7.size)
    clear hBx7 hY7 hB7 hg8 hm hr8 hbl
    clear hv0
    have hdr : Below w8.heap.size w8 w8.drew := Below.drew (Below.refl _ _)
    have hBxd := hBx8.below hdr hBx8.lt
    have hBd := hB8.trans (hdr.mono hB8.size)
    have C0 := box_k3 hY8
    have f0 := hBx8.free 0; have f1 := hBx8.free 1; have f2 := hBx8.free 2
    have d0 := hBx8.cell (i := 0) rfl; have d1 := hBx8.cell (i := 1) rfl; have d2 := hBx8.cell (i := 2) rfl
    clear hdr hBxd hBd hY8
    go_wp2_with fail
    go_region_held3 (fun w' => w'.cell? ⟨w4.heap.size, 0, none⟩ = some (.int .i64 s) ∧ w'.cell? ⟨w4.heap.size, 1, none⟩ = some (.int .i64 t) ∧ w'.cell? ⟨w4.heap.size, 2, none⟩ = some (.int .i64 x)) (first | exact C0 | exact c3_far hyz C0 _ _ _) (fail)
    have hBxF := hBx8.fill3 (.int .i64 s) (.int .i64 t) (.int .i64 x)
    have hBF := below_fill3 hB8 (Nat.le_refl w.heap.size) (.int .i64 s) (.int .i64 t) (.int .i64 x)
    have e0 := hBxF.cell (i := 0) rfl
    have e1 := hBxF.cell (i := 1) rfl
    have e2 := hBxF.cell (i := 2) rfl
    go_wp2_with fail
    refine bodyPost_ret (v := .tuple #[.string p, .int .i64 (m), .agg #[.int .i64 s, .int .i64 t, .int .i64 x]]) (by simp [results, Try.results15, go_sem, e0, e1, e2]) rfl ?_
    exact ⟨p, _, s, t, x, rfl, by omega, by omega, Below.drew hBF⟩
  · have hv0' : (v == 0) = false := by simpa using hv0
    clear hv0
    by_cases hv1 : (v == 1) = true
    · have hbl : Below w6.heap.size w6 (w6.alloc (.cells (([100, 101] : List Int).map (Value.int .i64)).toArray 3)) := (Below.refl _ _).alloc (Nat.le_refl _) _
      have hlt6 := hr6.lt
      have hBx7 := hBx6.below hbl hBx6.lt
      have hY7 := hY6.below hbl hY6.lt
      have hB7 := hB6.trans (hbl.mono hB6.size)
      clear hBx6 hY6 hB6
      go_wp2_with fail
      refine (num_lit [100, 101] hr6 (by omega) rfl rfl (by decide) (by decide)).mono ?_; rintro e w8 ⟨m, rfl, hm, hr8, hg8⟩
      have hm2 : m = 100 ∨ m = 101 := by simpa using hm
      obtain ⟨M, rfl⟩ : ∃ M : Nat, m = (M : Int) := ⟨m.toNat, by omega⟩
      have hM : M ≤ 101 := by omega
      have hBx8 := hBx7.gr hg8 hwb
      have hY8 := hY7.gr hg8 hyg
      have hB8 := hB7.trans (below_of_gr hg8 (Nat.le_of_lt hbg) hB7.size)
      clear hBx7 hY7 hB7 hg8 hm hr8 hbl hm2
      go_wp2_with fail
      refine (l9Many_c M _ (by omega)).mono ?_; rintro e w' ⟨rfl, rfl⟩
      have hom := ones_size M
      generalize ones M = pm at *
      clear hv1 hv0'
      have hdr : Below w8.heap.size w8 w8.drew := Below.drew (Below.refl _ _)
      have hBxd := hBx8.below hdr hBx8.lt
      have hBd := hB8.trans (hdr.mono hB8.size)
      have C0 := box_k3 hY8
      have f0 := hBx8.free 0; have f1 := hBx8.free 1; have f2 := hBx8.free 2
      have d0 := hBx8.cell (i := 0) rfl; have d1 := hBx8.cell (i := 1) rfl; have d2 := hBx8.cell (i := 2) rfl
      clear hdr hBxd hBd hY8
      go_wp2_with fail
      go_region_held3 (fun w' => w'.cell? ⟨w4.heap.size, 0, none⟩ = some (.int .i64 s) ∧ w'.cell? ⟨w4.heap.size, 1, none⟩ = some (.int .i64 t) ∧ w'.cell? ⟨w4.heap.size, 2, none⟩ = some (.int .i64 x)) (first | exact C0 | exact c3_far hyz C0 _ _ _) (fail)
      have hBxF := hBx8.fill3 (.int .i64 s) (.int .i64 t) (.int .i64 x)
      have hBF := below_fill3 hB8 (Nat.le_refl w.heap.size) (.int .i64 s) (.int .i64 t) (.int .i64 x)
      have e0 := hBxF.cell (i := 0) rfl
      have e1 := hBxF.cell (i := 1) rfl
      have e2 := hBxF.cell (i := 2) rfl
      go_wp2_with fail
      refine bodyPost_ret (v := .tuple #[.string pm, .int .i64 (1 + u), .agg #[.int .i64 s, .int .i64 t, .int .i64 x]]) (by simp [results, Try.results15, go_sem, e0, e1, e2]) rfl ?_
      exact ⟨pm, _, s, t, x, rfl, by omega, by omega, Below.drew hBF⟩
    · have hv1' : (v == 1) = false := by simpa using hv1
      clear hv1 hr6
      have hdr : Below w6.heap.size w6 w6.drew := Below.drew (Below.refl _ _)
      have hBxd := hBx6.below hdr hBx6.lt
      have hBd := hB6.trans (hdr.mono hB6.size)
      have C0 := box_k3 hY6
      have f0 := hBx6.free 0; have f1 := hBx6.free 1; have f2 := hBx6.free 2
      have d0 := hBx6.cell (i := 0) rfl; have d1 := hBx6.cell (i := 1) rfl; have d2 := hBx6.cell (i := 2) rfl
      clear hdr hBxd hBd hY6
      go_wp2_with fail
      go_region_held3 (fun w' => w'.cell? ⟨w4.heap.size, 0, none⟩ = some (.int .i64 s) ∧ w'.cell? ⟨w4.heap.size, 1, none⟩ = some (.int .i64 t) ∧ w'.cell? ⟨w4.heap.size, 2, none⟩ = some (.int .i64 x)) (first | exact C0 | exact c3_far hyz C0 _ _ _) (fail)
      have hBxF := hBx6.fill3 (.int .i64 s) (.int .i64 t) (.int .i64 x)
      have hBF := below_fill3 hB6 (Nat.le_refl w.heap.size) (.int .i64 s) (.int .i64 t) (.int .i64 x)
      have e0 := hBxF.cell (i := 0) rfl
      have e1 := hBxF.cell (i := 1) rfl
      have e2 := hBxF.cell (i := 2) rfl
      go_wp2_with fail
      refine bodyPost_ret (v := .tuple #[.string p, .int .i64 (1 + u), .agg #[.int .i64 s, .int .i64 t, .int .i64 x]]) (by simp [results, Try.results15, go_sem, e0, e1, e2]) rfl ?_
      exact ⟨p, _, s, t, x, rfl, by omega, by omega, Below.drew hBF⟩

end Go.Proofs.Ytadcckjlcmnhbaa
