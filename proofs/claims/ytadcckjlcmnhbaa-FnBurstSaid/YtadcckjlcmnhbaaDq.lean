/- Draws of chapter 7: registers that are sometimes none, and what is drawn with them. No condition beyond lengths. -/
import Derived.Test.YtadcckjlcmnhbaaDx
import Derived.Deep.RegionHeld3
namespace Go.Proofs.Ytadcckjlcmnhbaa
open Go.RowKit

/-- A register that is drawn, valid or not. -/
def AnyRegP (w : World) (g p k : Nat) (e : Ending) (w' : World) : Prop :=
  ∃ s t x : Int, ∃ q, e = .returned (.agg #[.int .i64 s, .int .i64 t, .int .i64 x]) ∧ p ≤ q ∧ q ≤ p + k ∧ Rdr w' g q ∧ w.grownBy w' (some g)
theorem Box.fill3 {w : World} {b : Nat} {x0 x1 x2 : Value} {t : TypeId} (h : Box w b #[x0, x1, x2] t) (y0 y1 y2 : Value) :
    Box (((w.setCell ⟨b, 0, none⟩ y0).setCell ⟨b, 1, none⟩ y1).setCell ⟨b, 2, none⟩ y2) b #[y0, y1, y2] t := by
  have := ((h.set2 0 y0).set2 1 y1).set2 2 y2
  simpa using this
theorem Rdr.fill3 {w : World} {g p b : Nat} (h : Rdr w g p) (hb : g < b) (y0 y1 y2 : Value) : Rdr (((w.setCell ⟨b, 0, none⟩ y0).setCell ⟨b, 1, none⟩ y1).setCell ⟨b, 2, none⟩ y2) g p :=
  ((h.farGt (gr_set b 0 y0) hb).farGt (gr_set b 1 y1) hb).farGt (gr_set b 2 y2) hb
theorem gr_fill3 {w w1 : World} {g b : Nat} (h : w.grownBy w1 (some g)) (hb : w.heap.size ≤ b) (y0 y1 y2 : Value) : w.grownBy (((w1.setCell ⟨b, 0, none⟩ y0).setCell ⟨b, 1, none⟩ y1).setCell ⟨b, 2, none⟩ y2) (some g) :=
  gr_setNew (gr_setNew (gr_setNew h hb 0 y0) hb 1 y1) hb 2 y2

set_option maxRecDepth 100000 in
set_option maxHeartbeats 3200000 in
theorem l1Bad_c {w : World} {g p : Nat} (s t x : Int) (h : Rdr w g p) (hp : p ≤ 1073740000) (hs : 0 ≤ s ∧ s ≤ 8) : Calls Try.prog 86 #[.pointer (some ⟨g, 0, none⟩), .agg #[.int .i64 s, .int .i64 t, .int .i64 x]] w (AnyRegP w g p 2) := by
  have hgl := h.lt
  have hX := (Box.new w #[.int .i64 s, .int .i64 t, .int .i64 x] 42).alloc (.cells #[.int .i64 0, .int .i64 0, .int .i64 0] 42)
  have hZ := Box.new (w.alloc (.cells #[.int .i64 s, .int .i64 t, .int .i64 x] 42)) #[.int .i64 0, .int .i64 0, .int .i64 0] 42
  have hhb : (w.alloc (.cells #[.int .i64 s, .int .i64 t, .int .i64 x] 42)).heap.size = w.heap.size + 1 := by simp
  rw [hhb] at hZ
  have hb0 : Below w.heap.size w ((w.alloc (.cells #[.int .i64 s, .int .i64 t, .int .i64 x] 42)).alloc (.cells #[.int .i64 0, .int .i64 0, .int .i64 0] 42)) := ((Below.refl _ _).alloc (Nat.le_refl _) _).alloc (by simp) _
  have hr0 := h.below hb0
  have hg0 := gr_of_below hb0 (some g)
  have hxg : w.heap.size ≠ g := by omega
  have hzg : w.heap.size + 1 ≠ g := by omega
  clear h hhb hb0
  go_enter Try.func86, Try.ntmps86
  go_wp2_with fail
  refine (pick_c _ hr0 (by omega)).mono ?_; rintro e w1 ⟨u, rfl, u0, u1, hr1, hg1⟩
  have hX1 := hX.gr hg1 hxg
  have hZ1 := hZ.gr hg1 hzg
  have hgA := hg0.trans hg1
  clear hX hZ hr0 hg0 hg1 u1
  by_cases hu0 : (u == 0) = true
  · skip
    go_wp2_with fail
    refine (num_lit [1, 9, 0, -1, 9223372036854775807] hr1 (by omega) rfl rfl (by simp) (by simp)).mono ?_; rintro e w2 ⟨y, rfl, hy, hr2, hg2⟩
    have hbl : Below w1.heap.size w1 (w1.alloc (.cells (([1, 9, 0, -1, 9223372036854775807] : List Int).map (Value.int .i64)).toArray 3)) := (Below.refl _ _).alloc (Nat.le_refl _) _
    have hX2 := (hX1.below hbl hX1.lt).gr hg2 hxg
    have hZ2 := (hZ1.below hbl hZ1.lt).gr hg2 hzg
    have hgB := (gr_trans_below hgA hbl).trans hg2
    clear hX1 hZ1 hgA hbl hr1 hg2 hy
    have hX9 := hX2.set2 0 (.int .i64 y)
    simp only [List.setIfInBounds_toArray, List.set_cons_zero] at hX9
    have hZ9 := hZ2.other (a := ⟨w.heap.size, 0, none⟩) (show w.heap.size + 1 ≠ w.heap.size by omega) (.int .i64 y)
    have hr9 := hr2.farGt (gr_set w.heap.size 0 (.int .i64 y)) hgl
    have hg9 := gr_setNew hgB (Nat.le_refl _) 0 (.int .i64 y)
    have f9 := hX2.free 0
    have v9 := hX2.cell (i := 0) rfl
    clear hX2 hZ2 hr2 hgB
    have c0 := hX9.cell (i := 0) rfl
    have c1 := hX9.cell (i := 1) rfl
    have c2 := hX9.cell (i := 2) rfl
    have d0 := hZ9.cell (i := 0) rfl
    have d1 := hZ9.cell (i := 1) rfl
    have d2 := hZ9.cell (i := 2) rfl
    have f0 := hZ9.free 0
    have f1 := hZ9.free 1
    have f2 := hZ9.free 2
    have hZF := hZ9.fill3 (.int .i64 y) (.int .i64 t) (.int .i64 x)
    have b0 := hZF.cell (i := 0) rfl
    have b1 := hZF.cell (i := 1) rfl
    have b2 := hZF.cell (i := 2) rfl
    have hrF := hr9.fill3 (show g < w.heap.size + 1 by omega) (.int .i64 y) (.int .i64 t) (.int .i64 x)
    have hgF := gr_fill3 hg9 (show w.heap.size ≤ w.heap.size + 1 by omega) (.int .i64 y) (.int .i64 t) (.int .i64 x)
    clear hr9 hg9 hX9 hZ9 hZF
    go_wp2_with fail
    refine bodyPost_ret (v := .agg #[.int .i64 y, .int .i64 t, .int .i64 x]) (by simp [results, Try.results86, go_sem, b0, b1, b2]) rfl ?_
    exact ⟨y, t, x, _, rfl, by omega, by omega, hrF, hgF⟩
  · have hu0' : (u == 0) = false := by simpa using hu0
    clear hu0
    by_cases hu1 : (u == 1) = true
    · skip
      have c0 := hX1.cell (i := 0) rfl
      go_wp2_with fail
      refine (l1Two_c _ _ hs).mono ?_; rintro e w' ⟨rfl, rfl⟩
      obtain ⟨P, hP⟩ : ∃ P : Int, P = 2 ^ s.toNat := ⟨_, rfl⟩
      rw [← hP]
      clear hP c0
      go_wp2_with fail
      refine (num_lit [0, 256, -1, P] hr1 (by omega) rfl rfl (by simp) (by simp)).mono ?_; rintro e w2 ⟨y, rfl, hy, hr2, hg2⟩
      have hbl : Below w1.heap.size w1 (w1.alloc (.cells (([0, 256, -1, P] : List Int).map (Value.int .i64)).toArray 3)) := (Below.refl _ _).alloc (Nat.le_refl _) _
      have hX2 := (hX1.below hbl hX1.lt).gr hg2 hxg
      have hZ2 := (hZ1.below hbl hZ1.lt).gr hg2 hzg
      have hgB := (gr_trans_below hgA hbl).trans hg2
      clear hX1 hZ1 hgA hbl hr1 hg2 hy
      have hX9 := hX2.set2 1 (.int .i64 y)
      simp only [List.setIfInBounds_toArray, List.set_cons_zero, List.set_cons_succ] at hX9
      have hZ9 := hZ2.other (a := ⟨w.heap.size, 1, none⟩) (show w.heap.size + 1 ≠ w.heap.size by omega) (.int .i64 y)
      have hr9 := hr2.farGt (gr_set w.heap.size 1 (.int .i64 y)) hgl
      have hg9 := gr_setNew hgB (Nat.le_refl _) 1 (.int .i64 y)
      have f9 := hX2.free 1
      have v9 := hX2.cell (i := 1) rfl
      clear hX2 hZ2 hr2 hgB
      have c0 := hX9.cell (i := 0) rfl
      have c1 := hX9.cell (i := 1) rfl
      have c2 := hX9.cell (i := 2) rfl
      have d0 := hZ9.cell (i := 0) rfl
      have d1 := hZ9.cell (i := 1) rfl
      have d2 := hZ9.cell (i := 2) rfl
      have f0 := hZ9.free 0
      have f1 := hZ9.free 1
      have f2 := hZ9.free 2
      have hZF := hZ9.fill3 (.int .i64 s) (.int .i64 y) (.int .i64 x)
      have b0 := hZF.cell (i := 0) rfl
      have b1 := hZF.cell (i := 1) rfl
      have b2 := hZF.cell (i := 2) rfl
      have hrF := hr9.fill3 (show g < w.heap.size + 1 by omega) (.int .i64 s) (.int .i64 y) (.int .i64 x)
      have hgF := gr_fill3 hg9 (show w.heap.size ≤ w.heap.size + 1 by omega) (.int .i64 s) (.int .i64 y) (.int .i64 x)
      clear hr9 hg9 hX9 hZ9 hZF
      go_wp2_with fail
      refine bodyPost_ret (v := .agg #[.int .i64 s, .int .i64 y, .int .i64 x]) (by simp [results, Try.results86, go_sem, b0, b1, b2]) rfl ?_
      exact ⟨s, y, x, _, rfl, by omega, by omega, hrF, hgF⟩
    · have hu1' : (u == 1) = false := by simpa using hu1
      clear hu1
      by_cases hu2 : (u == 2) = true
      · skip
        have c0 := hX1.cell (i := 0) rfl
        go_wp2_with fail
        refine (l1Two_c _ _ hs).mono ?_; rintro e w' ⟨rfl, rfl⟩
        obtain ⟨P, hP⟩ : ∃ P : Int, P = 2 ^ s.toNat := ⟨_, rfl⟩
        rw [← hP]
        clear hP c0
        go_wp2_with fail
        refine (num_lit [-1, P, 9223372036854775807] hr1 (by omega) rfl rfl (by simp) (by simp)).mono ?_; rintro e w2 ⟨y, rfl, hy, hr2, hg2⟩
        have hbl : Below w1.heap.size w1 (w1.alloc (.cells (([-1, P, 9223372036854775807] : List Int).map (Value.int .i64)).toArray 3)) := (Below.refl _ _).alloc (Nat.le_refl _) _
        have hX2 := (hX1.below hbl hX1.lt).gr hg2 hxg
        have hZ2 := (hZ1.below hbl hZ1.lt).gr hg2 hzg
        have hgB := (gr_trans_below hgA hbl).trans hg2
        clear hX1 hZ1 hgA hbl hr1 hg2 hy
        have hX9 := hX2.set2 2 (.int .i64 y)
        simp only [List.setIfInBounds_toArray, List.set_cons_zero, List.set_cons_succ] at hX9
        have hZ9 := hZ2.other (a := ⟨w.heap.size, 2, none⟩) (show w.heap.size + 1 ≠ w.heap.size by omega) (.int .i64 y)
        have hr9 := hr2.farGt (gr_set w.heap.size 2 (.int .i64 y)) hgl
        have hg9 := gr_setNew hgB (Nat.le_refl _) 2 (.int .i64 y)
        have f9 := hX2.free 2
        have v9 := hX2.cell (i := 2) rfl
        clear hX2 hZ2 hr2 hgB
        have c0 := hX9.cell (i := 0) rfl
        have c1 := hX9.cell (i := 1) rfl
        have c2 := hX9.cell (i := 2) rfl
        have d0 := hZ9.cell (i := 0) rfl
        have d1 := hZ9.cell (i := 1) rfl
        have d2 := hZ9.cell (i := 2) rfl
        have f0 := hZ9.free 0
        have f1 := hZ9.free 1
        have f2 := hZ9.free 2
        have hZF := hZ9.fill3 (.int .i64 s) (.int .i64 t) (.int .i64 y)
        have b0 := hZF.cell (i := 0) rfl
        have b1 := hZF.cell (i := 1) rfl
        have b2 := hZF.cell (i := 2) rfl
        have hrF := hr9.fill3 (show g < w.heap.size + 1 by omega) (.int .i64 s) (.int .i64 t) (.int .i64 y)
        have hgF := gr_fill3 hg9 (show w.heap.size ≤ w.heap.size + 1 by omega) (.int .i64 s) (.int .i64 t) (.int .i64 y)
        clear hr9 hg9 hX9 hZ9 hZF
        go_wp2_with fail
        refine bodyPost_ret (v := .agg #[.int .i64 s, .int .i64 t, .int .i64 y]) (by simp [results, Try.results86, go_sem, b0, b1, b2]) rfl ?_
        exact ⟨s, t, y, _, rfl, by omega, by omega, hrF, hgF⟩
      · have hu2' : (u == 2) = false := by simpa using hu2
        clear hu2
        have c0 := hX1.cell (i := 0) rfl
        have c1 := hX1.cell (i := 1) rfl
        have c2 := hX1.cell (i := 2) rfl
        have d0 := hZ1.cell (i := 0) rfl
        have d1 := hZ1.cell (i := 1) rfl
        have d2 := hZ1.cell (i := 2) rfl
        have f0 := hZ1.free 0
        have f1 := hZ1.free 1
        have f2 := hZ1.free 2
        have hZF := hZ1.fill3 (.int .i64 s) (.int .i64 t) (.int .i64 x)
        have b0 := hZF.cell (i := 0) rfl
        have b1 := hZF.cell (i := 1) rfl
        have b2 := hZF.cell (i := 2) rfl
        have hrF := hr1.fill3 (show g < w.heap.size + 1 by omega) (.int .i64 s) (.int .i64 t) (.int .i64 x)
        have hgF := gr_fill3 hgA (show w.heap.size ≤ w.heap.size + 1 by omega) (.int .i64 s) (.int .i64 t) (.int .i64 x)
        clear hr1 hgA hX1 hZ1 hZF
        go_wp2_with fail
        refine bodyPost_ret (v := .agg #[.int .i64 s, .int .i64 t, .int .i64 x]) (by simp [results, Try.results86, go_sem, b0, b1, b2]) rfl ?_
        exact ⟨s, t, x, _, rfl, by omega, by omega, hrF, hgF⟩

set_option maxRecDepth 100000 in
set_option maxHeartbeats 1600000 in
theorem l1Open_c {w : World} {g p : Nat} (h : Rdr w g p) (hp : p ≤ 1073730000) : Calls Try.prog 43 #[.pointer (some ⟨g, 0, none⟩)] w (AnyRegP w g p 6) := by
  have hgl := h.lt
  have hbz : Below w.heap.size w (w.alloc (.cells #[.int .i64 0, .int .i64 0, .int .i64 0] 42)) := (Below.refl _ _).alloc (Nat.le_refl _) _
  have hZ := Box.new w #[.int .i64 0, .int .i64 0, .int .i64 0] 42
  have hr0 := h.below hbz
  have hg0 := gr_of_below hbz (some g)
  have hzg : w.heap.size ≠ g := by omega
  clear h hbz
  go_enter Try.func43, Try.ntmps43
  go_wp2_with fail
  refine (l1Some_c hr0 (by omega)).mono ?_; rintro e w1 ⟨s, t, x, q, rfl, hv, hq0, hq1, hr1, hg1⟩
  have hs : 0 ≤ s ∧ s ≤ 8 := by
    obtain ⟨S, T, X, rfl, _, _, h1, _⟩ := regB_nat hv
    omega
  have hZ1 := hZ.gr hg1 hzg
  have hgA := hg0.trans hg1
  clear hZ hr0 hg0 hg1 hv
  go_wp2_with fail
  refine (l1Bad_c s t x hr1 (by omega) hs).mono ?_; rintro e w2 ⟨s2, t2, x2, q2, rfl, hq2, hq3, hr2, hg2⟩
  have hZ2 := hZ1.gr hg2 hzg
  have hgB := hgA.trans hg2
  have d0 := hZ2.cell (i := 0) rfl
  have d1 := hZ2.cell (i := 1) rfl
  have d2 := hZ2.cell (i := 2) rfl
  have f0 := hZ2.free 0
  have f1 := hZ2.free 1
  have f2 := hZ2.free 2
  have hZF := hZ2.fill3 (.int .i64 s2) (.int .i64 t2) (.int .i64 x2)
  have b0 := hZF.cell (i := 0) rfl
  have b1 := hZF.cell (i := 1) rfl
  have b2 := hZF.cell (i := 2) rfl
  have hrF := hr2.fill3 hgl (.int .i64 s2) (.int .i64 t2) (.int .i64 x2)
  have hgF := gr_fill3 hgB (Nat.le_refl _) (.int .i64 s2) (.int .i64 t2) (.int .i64 x2)
  clear hZ1 hgA hg2 hr1 hr2 hZ2 hgB hZF
  go_wp2_with fail
  refine bodyPost_ret (v := .agg #[.int .i64 s2, .int .i64 t2, .int .i64 x2]) (by simp [results, Try.results43, go_sem, b0, b1, b2]) rfl ?_
  exact ⟨s2, t2, x2, q2, rfl, by omega, by omega, hrF, hgF⟩

/-- The post: a register, a number of channels and a number of hops. -/
def RetRII (w : World) (e : Ending) (w' : World) : Prop :=
  ∃ s t x ch k : Int, e = .returned (.tuple #[.agg #[.int .i64 s, .int .i64 t, .int .i64 x], .int .i64 ch, .int .i64 k]) ∧ (-1 ≤ ch ∧ ch ≤ 17) ∧ (-1 ≤ k ∧ k ≤ 9223372036854775807) ∧ Below w.heap.size w w'
theorem k3_below {w w' : World} (hb : Below w.heap.size w w') {p0 p1 p2 : Addr} {v0 v1 v2 : Value}
    (h : w.cell? p0 = some v0 ∧ w.cell? p1 = some v1 ∧ w.cell? p2 = some v2) : w'.cell? p0 = some v0 ∧ w'.cell? p1 = some v1 ∧ w'.cell? p2 = some v2 := by
  obtain ⟨h0, h1, h2⟩ := h
  have k : ∀ {p : Addr} {v : Value}, w.cell? p = some v → w'.cell? p = some v := fun {p v} e => (hb.cell (lt_of_cell e)).trans e
  exact ⟨k h0, k h1, k h2⟩
theorem box_k3 {w : World} {b : Nat} {x0 x1 x2 : Value} {t : TypeId} (h : Box w b #[x0, x1, x2] t) : w.cell? ⟨b, 0, none⟩ = some x0 ∧ w.cell? ⟨b, 1, none⟩ = some x1 ∧ w.cell? ⟨b, 2, none⟩ = some x2 :=
  ⟨h.cell rfl, h.cell rfl, h.cell rfl⟩
theorem c3_far {w : World} {b b0 : Nat} {v0 v1 v2 : Value} (hne : b ≠ b0)
    (h : w.cell? ⟨b, 0, none⟩ = some v0 ∧ w.cell? ⟨b, 1, none⟩ = some v1 ∧ w.cell? ⟨b, 2, none⟩ = some v2) (x0 x1 x2 : Value) :
    (((w.setCell ⟨b0, 0, none⟩ x0).setCell ⟨b0, 1, none⟩ x1).setCell ⟨b0, 2, none⟩ x2).cell? ⟨b, 0, none⟩ = some v0 ∧
    (((w.setCell ⟨b0, 0, none⟩ x0).setCell ⟨b0, 1, none⟩ x1).setCell ⟨b0, 2, none⟩ x2).cell? ⟨b, 1, none⟩ = some v1 ∧
    (((w.setCell ⟨b0, 0, none⟩ x0).setCell ⟨b0, 1, none⟩ x1).setCell ⟨b0, 2, none⟩ x2).cell? ⟨b, 2, none⟩ = some v2 := by
  obtain ⟨h0, h1, h2⟩ := h
  have k : ∀ {w : World} {o i : Nat} (v : Value), (w.setCell ⟨b0, i, none⟩ v).cell? ⟨b, o, none⟩ = w.cell? ⟨b, o, none⟩ := fun {w o i} v => World.cell?_of_block (w := w) (Below.heap_setCell _ _ _ _ hne)
  exact ⟨by rw [k, k, k]; exact h0, by rw [k, k, k]; exact h1, by rw [k, k, k]; exact h2⟩
theorem below_fill3 {w0 w : World} {b B : Nat} (h : Below B w0 w) (hb : B ≤ b) (y0 y1 y2 : Value) :
    Below B w0 (((w.setCell ⟨b, 0, none⟩ y0).setCell ⟨b, 1, none⟩ y1).setCell ⟨b, 2, none⟩ y2) :=
  ((h.setCell (p := ⟨b, 0, none⟩) hb y0).setCell (p := ⟨b, 1, none⟩) hb y1).setCell (p := ⟨b, 2, none⟩) hb y2

end Go.Proofs.Ytadcckjlcmnhbaa
