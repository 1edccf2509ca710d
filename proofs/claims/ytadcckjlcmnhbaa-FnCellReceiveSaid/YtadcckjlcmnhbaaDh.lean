/- Draws of chapter 7: hops, jammed channels, numbers of channels. No condition beyond lengths. -/
import Derived.Test.YtadcckjlcmnhbaaD
import Derived.Test.YtadcckjlcmnhbaaHl
import Derived.Test.YtadcckjlcmnhbaaRh
import Derived.Test.YtadcckjlcmnhbaaHs
namespace Go.Proofs.Ytadcckjlcmnhbaa
open Go.RowKit

theorem Rd.zero (w : World) (ao : Option Addr) : Rd w ao 0 [] := ⟨rfl, by omega, fun i hi => absurd hi (by omega)⟩
/-- Own memory of the call, a slice that reads as l. -/
def RdC (w : World) (ao : Option Addr) (n c : Nat) (l : List Int) : Prop := Rd w ao n l ∧ n ≤ c ∧ (ao = none → c = 0)
theorem Own.rdc {w : World} {lo n c : Nat} {ao : Option Addr} {l : List Int} (h : Own w lo ao n c l) : RdC w ao n c l := by
  refine ⟨h.rd, ?_⟩
  rcases h.2.2.2 with ⟨h1, h2⟩ | ⟨g, cap, cur, hv, _, _, hc, _⟩
  · cases h1; exact ⟨Nat.le_refl _, fun _ => rfl⟩
  · cases hv; exact ⟨hc, fun e => by cases e⟩
theorem RdC.below {w w' : World} {n c : Nat} {ao : Option Addr} {l : List Int} (h : RdC w ao n c l) (hb : Below w.heap.size w w') : RdC w' ao n c l := ⟨h.1.below hb, h.2⟩

theorem allB_linAt {ch u : Int} (hc : 0 < ch) (n : Nat) : allB 0 (ch - 1) ((List.range n).map (linAt ch u)) = true := by
  unfold allB
  rw [List.all_eq_true]
  intro x hx
  obtain ⟨i, _, rfl⟩ := List.mem_map.1 hx
  have h0 := Int.emod_nonneg (u * i) (show ch ≠ 0 by omega)
  have h1 := Int.emod_lt_of_pos (u * i) hc
  exact inB_true h0 (by unfold linAt; omega)
theorem allB_hopL {s t x : Nat} {ch : Int} (hc : 0 < ch) (n : Nat) : allB 0 (ch - 1) (hopL s t x ch n) = true := by
  unfold allB
  rw [List.all_eq_true]
  intro y hy
  obtain ⟨i, _, rfl⟩ := List.mem_map.1 hy
  have h0 := Int.emod_nonneg (hopX s t x i : Int) (show ch ≠ 0 by omega)
  have h1 := Int.emod_lt_of_pos (hopX s t x i : Int) hc
  exact inB_true h0 (by omega)
theorem hopsB_mk {l : List Int} {ch : Int} (h1 : 1 ≤ ch ∧ ch ≤ 16) (h2 : l.length ≤ 300) (h3 : allB 0 (ch - 1) l = true) : hopsB l ch = true := by
  unfold hopsB; rw [chB_iff.2 h1, decide_eq_true h2, h3]; rfl

/-- A register that is drawn. -/
def SomeRegP (w : World) (g p : Nat) (e : Ending) (w' : World) : Prop :=
  ∃ s t x : Int, ∃ q, e = .returned (.agg #[.int .i64 s, .int .i64 t, .int .i64 x]) ∧ regB s t x = true ∧ p ≤ q ∧ q ≤ p + 4 ∧ Rdr w' g q ∧ w.grownBy w' (some g)

theorem gr_trans_below {w w1 w2 : World} {g : Nat} (h : w.grownBy w1 (some g)) (hb : Below w1.heap.size w1 w2) : w.grownBy w2 (some g) := h.trans (gr_of_below hb _)

set_option maxRecDepth 100000 in
set_option maxHeartbeats 400000 in
theorem l1Some_c {w : World} {g p : Nat} (h : Rdr w g p) (hp : p ≤ 1073741000) : Calls Try.prog 87 #[.pointer (some ⟨g, 0, none⟩)] w (SomeRegP w g p) := by
  have hbz : Below w.heap.size w (w.alloc (.cells #[.int .i64 0, .int .i64 0, .int .i64 0] 42)) := (Below.refl _ _).alloc (Nat.le_refl _) _
  have hRg := Box.new w #[.int .i64 0, .int .i64 0, .int .i64 0] 42
  have hgl := h.lt
  have h1 := (h.below hbz).alloc (.cells #[.int .i64 3, .int .i64 4, .int .i64 5, .int .i64 2, .int .i64 6, .int .i64 7, .int .i64 8] 3)
  have hRg1 := hRg.alloc (.cells #[.int .i64 3, .int .i64 4, .int .i64 5, .int .i64 2, .int .i64 6, .int .i64 7, .int .i64 8] 3)
  have hgb : w.heap.size ≠ g := by omega
  go_enter Try.func87, Try.ntmps87
  go_wp2_with fail
  refine (num_c h1 (by omega) (rd_lit' _ [3, 4, 5, 2, 6, 7, 8] _ _ _ (by simp) rfl (by decide)) (by intro a ha; cases ha; simp; omega) (by decide)).mono ?_; rintro e w1 ⟨s, rfl, hs, hr1, hg1⟩
  have hs2 : 2 ≤ s ∧ s ≤ 8 := by simp at hs; omega
  have hRg2 := hRg1.gr hg1 hgb
  have hgA : w.grownBy w1 (some g) := (gr_of_below (hbz.alloc (by simp) _) _).trans hg1
  clear hs hg1 h1 hbz h hRg hRg1
  go_wp2_with fail
  refine (l1Two_c _ _ (by omega)).mono ?_; rintro e w' ⟨rfl, rfl⟩
  have hpw : (4 : Int) ≤ 2 ^ s.toNat ∧ (2 : Int) ^ s.toNat ≤ 256 := by rcases size_cases hs2 with rfl | rfl | rfl | rfl | rfl | rfl | rfl <;> decide
  have HP := Lib.hid (show (2 : Int) ^ s.toNat = 2 ^ s.toNat from rfl)
  obtain ⟨P, hP⟩ : ∃ P : Int, P = 2 ^ s.toNat := ⟨_, rfl⟩
  have HPP := Lib.hid hP
  rw [← hP] at hpw ⊢
  clear hP HP
  go_wp2_with fail
  refine (pick_c _ hr1 (by omega)).mono ?_; rintro e w2 ⟨v, rfl, v0, v1, hr2, hg2⟩
  have hRg3 := hRg2.gr hg2 hgb
  have hgB := hgA.trans hg2
  clear hRg2 hgA hg2 hr1
  go_wp2_with fail
  refine (pick_c _ hr2 (by omega)).mono ?_; rintro e w3 ⟨u, rfl, u0, u1, hr3, hg3⟩
  have hRg4 := hRg3.gr hg3 hgb
  have hgC := hgB.trans hg3
  clear hRg3 hgB hg3 hr2
  have HT := Lib.hid (l1Two_c s)
  by_cases hu : (u == 0) = true
  · obtain ⟨k, hk⟩ := Int.eq_ofNat_of_zero_le (show 0 ≤ s - 2 by omega)
    have hkl : k < [(3 : Int), 3, 3, 5, 3, 3, 29].length := by simp; omega
    obtain ⟨t, ht, htb⟩ : ∃ t : Int, (w3.alloc (.cells #[.int .i64 3, .int .i64 3, .int .i64 3, .int .i64 5, .int .i64 3, .int .i64 3, .int .i64 29] 3)).cell? ⟨w3.heap.size, k, none⟩ = some (.int .i64 t) ∧ 1 ≤ t ∧ t < P := by
      have hB := Box.new w3 #[.int .i64 3, .int .i64 3, .int .i64 3, .int .i64 5, .int .i64 3, .int .i64 3, .int .i64 29] 3
      have hPP := HPP.out
      rcases size_cases hs2 with rfl | rfl | rfl | rfl | rfl | rfl | rfl
      · obtain rfl : k = 0 := by omega
        exact ⟨3, hB.cell rfl, by omega, by rw [hPP]; decide⟩
      · obtain rfl : k = 1 := by omega
        exact ⟨3, hB.cell rfl, by omega, by rw [hPP]; decide⟩
      · obtain rfl : k = 2 := by omega
        exact ⟨3, hB.cell rfl, by omega, by rw [hPP]; decide⟩
      · obtain rfl : k = 3 := by omega
        exact ⟨5, hB.cell rfl, by omega, by rw [hPP]; decide⟩
      · obtain rfl : k = 4 := by omega
        exact ⟨3, hB.cell rfl, by omega, by rw [hPP]; decide⟩
      · obtain rfl : k = 5 := by omega
        exact ⟨3, hB.cell rfl, by omega, by rw [hPP]; decide⟩
      · obtain rfl : k = 6 := by omega
        exact ⟨29, hB.cell rfl, by omega, by rw [hPP]; decide⟩
    have hbl : Below w3.heap.size w3 (w3.alloc (.cells #[.int .i64 3, .int .i64 3, .int .i64 3, .int .i64 5, .int .i64 3, .int .i64 3, .int .i64 29] 3)) := (Below.refl _ _).alloc (Nat.le_refl _) _
    have hr4 := hr3.below hbl
    have hRg5 := hRg4.below hbl hRg4.lt
    have hgD := gr_trans_below hgC hbl
    have hk7 : (k : Int) < 7 := by simp at hkl; omega
    have hk7' : k < 7 := by omega
    have H1 : s - 2 = (k : Int) := hk
    clear hr3 hRg4 hgC hbl hkl hk
    go_wp2_with fail
    refine (HT.out _ (by omega)).mono ?_; rintro e w' ⟨rfl, rfl⟩
    rw [← HPP.out]
    clear H1
    go_wp2_with fail
    refine (pick_c _ hr4 (by omega)).mono ?_; rintro e w4 ⟨x, rfl, x0, x1, hr5, hg5⟩
    have hRg6 := hRg5.gr hg5 hgb
    have hgE := hgD.trans hg5
    have c0 := hRg6.cell (i := 0) rfl
    have c1 := hRg6.cell (i := 1) rfl
    have c2 := hRg6.cell (i := 2) rfl
    have f0 := hRg6.free 0
    have f1 := hRg6.free 1
    have f2 := hRg6.free 2
    have hz := hRg6.lt
    have hRgF := ((hRg6.set2 0 (.int .i64 s)).set2 1 (.int .i64 t)).set2 2 (.int .i64 x)
    have b0 := hRgF.cell (i := 0) (by simp; rfl)
    have b1 := hRgF.cell (i := 1) (by simp; rfl)
    have b2 := hRgF.cell (i := 2) (by simp; rfl)
    have hrF := (((hr5.farGt (gr_set w.heap.size 0 (.int .i64 s)) hgl).farGt (gr_set w.heap.size 1 (.int .i64 t)) hgl).farGt (gr_set w.heap.size 2 (.int .i64 x)) hgl)
    have hgF := gr_setNew (gr_setNew (gr_setNew hgE (Nat.le_refl _) 0 (.int .i64 s)) (Nat.le_refl _) 1 (.int .i64 t)) (Nat.le_refl _) 2 (.int .i64 x)
    have HRB := Lib.hid (show regB s t x = true by
      have hPP := HPP.out
      unfold regB tapB
      rw [inB_true hs2.1 hs2.2, ← hPP, inB_true htb.1 (by omega), inB_true x0 (by omega)]; rfl)
    clear hRg6 hRgF hgE hg5 hr5 hr4 hRg5 hgD
    go_wp2_with fail
    refine bodyPost_ret (v := .agg #[.int .i64 s, .int .i64 t, .int .i64 x]) (by simp [results, Try.results87, go_sem, b0, b1, b2]) rfl ?_
    exact ⟨s, t, x, p + 1 + 1 + 1 + 1, rfl, HRB.out, by omega, by omega, hrF, hgF⟩
  · have hu' : (u == 0) = false := by simpa using hu
    have hgD := hgC
    have hRg5 := hRg4
    have hr4 := hr3
    have htb : 1 ≤ 1 + v ∧ 1 + v < P := by omega
    clear hgC hRg4 hr3 hu
    go_wp2_with fail
    refine (HT.out _ (by omega)).mono ?_; rintro e w' ⟨rfl, rfl⟩
    rw [← HPP.out]
    go_wp2_with fail
    refine (pick_c _ hr4 (by omega)).mono ?_; rintro e w4 ⟨x, rfl, x0, x1, hr5, hg5⟩
    have hRg6 := hRg5.gr hg5 hgb
    have hgE := hgD.trans hg5
    have c0 := hRg6.cell (i := 0) rfl
    have c1 := hRg6.cell (i := 1) rfl
    have c2 := hRg6.cell (i := 2) rfl
    have f0 := hRg6.free 0
    have f1 := hRg6.free 1
    have f2 := hRg6.free 2
    have hz := hRg6.lt
    have hRgF := ((hRg6.set2 0 (.int .i64 s)).set2 1 (.int .i64 (1 + v))).set2 2 (.int .i64 x)
    have b0 := hRgF.cell (i := 0) (by simp; rfl)
    have b1 := hRgF.cell (i := 1) (by simp; rfl)
    have b2 := hRgF.cell (i := 2) (by simp; rfl)
    have hrF := (((hr5.farGt (gr_set w.heap.size 0 (.int .i64 s)) hgl).farGt (gr_set w.heap.size 1 (.int .i64 (1 + v))) hgl).farGt (gr_set w.heap.size 2 (.int .i64 x)) hgl)
    have hgF := gr_setNew (gr_setNew (gr_setNew hgE (Nat.le_refl _) 0 (.int .i64 s)) (Nat.le_refl _) 1 (.int .i64 (1 + v))) (Nat.le_refl _) 2 (.int .i64 x)
    have HRB := Lib.hid (show regB s (1 + v) x = true by
      have hPP := HPP.out
      unfold regB tapB
      rw [inB_true hs2.1 hs2.2, ← hPP, inB_true htb.1 (by omega), inB_true x0 (by omega)]; rfl)
    clear hRg6 hRgF hgE hg5 hr5 hr4 hRg5 hgD
    go_wp2_with fail
    refine bodyPost_ret (v := .agg #[.int .i64 s, .int .i64 (1 + v), .int .i64 x]) (by simp [results, Try.results87, go_sem, b0, b1, b2]) rfl ?_
    exact ⟨s, (1 + v), x, p + 1 + 1 + 1 + 1, rfl, HRB.out, by omega, by omega, hrF, hgF⟩

theorem num_lit {w : World} {g p n b c : Nat} {t : TypeId} (l : List Int) (h : Rdr w g p) (hp : p ≤ 1073741824) (hb : b = w.heap.size) (hn : n = l.length) (hs : l.length ≤ 1099511627776) (hn0 : 0 < n) :
    Calls Try.prog 44 #[.pointer (some ⟨g, 0, none⟩), .slice (some ⟨b, 0, none⟩) n c] (w.alloc (.cells (l.map (Value.int .i64)).toArray t)) (NumP (w.alloc (.cells (l.map (Value.int .i64)).toArray t)) g p l) := by
  refine num_c (h.alloc _) hp (rd_lit' w l t b n hb hn hs) ?_ hn0
  intro a ha
  cases ha
  have := h.lt
  intro _
  show b ≠ g
  omega

/-- Hops that are drawn, on how many channels. -/
def SomeHopsP (w : World) (g p : Nat) (e : Ending) (w' : World) : Prop :=
  ∃ ao n c, ∃ l : List Int, ∃ ch : Int, ∃ q, e = .returned (.tuple #[.slice ao n c, .int .i64 ch]) ∧ Own w' w.heap.size ao n c l ∧ (1 ≤ ch ∧ ch ≤ 16) ∧ hopsB l ch = true ∧ 0 < l.length ∧ l.length ≤ 14 ∧ p ≤ q ∧ q ≤ p + 20 ∧ Rdr w' g q ∧ w.grownBy w' (some g)

end Go.Proofs.Ytadcckjlcmnhbaa
