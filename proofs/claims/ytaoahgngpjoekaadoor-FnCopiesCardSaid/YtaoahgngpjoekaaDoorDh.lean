/- Draws of chapter 7: hops, jammed channels, numbers of channels. No condition beyond lengths. -/
import Derived.Test.YtaoahgngpjoekaaDoorD
import Derived.Test.YtaoahgngpjoekaaDoorHl
import Derived.Test.YtaoahgngpjoekaaDoorRh
import Derived.Test.YtaoahgngpjoekaaDoorHs
namespace Go.Proofs.YtaoahgngpjoekaaDoor
open Go.RowKit

theorem Rd.zero (w : World) (ao : Option Addr) : Rd w ao 0 [] := ⟨rfl, by omega, fun i hi => absurd hi (by omega)⟩
/-- Own memory of the call, a slice that reads as l. -/
def RdC (w : World) (ao : Option Addr) (n c : Nat) (l : List Int) : Prop := Rd w ao n l ∧ n ≤ c ∧ (ao = none → c = 0)
theorem Own.rdc {w : World} {lo n c : Nat} {ao : Option Addr} {l : List Int} (h : Own w lo ao n c l) : RdC w ao n c l := by
  refine ⟨h.rd, ?_⟩
  rcases h.2.2.2 with ⟨h1, h2⟩ | ⟨g, cap, cur, hv, _, _, hc, _⟩
  · cases h1; exact ⟨Nat.le_refl _, fun _ => rfl⟩
  · cases hv; exact ⟨hc, fun e => by cases e⟩
theorem RdC.below {w w' : World} {n c : Nat} {ao : Option Addr} {l : List Int} (h : RdC w ao n c l) (hb : Below w.heap.size w w') : RdC w' ao n c l := ⟨h.1.below hb, h.2⟩

theorem allB_linAt {ch u : Int} (hc : 0 < ch) (n : Nat) : allB 0 (ch - 1) ((List.range n).map (linAt ch u)) = true := by
  unfold allB
  rw [List.all_eq_true]
  intro x hx
  obtain ⟨i, _, rfl⟩ := List.mem_map.1 hx
  have h0 := Int.emod_nonneg (u * i) (show ch ≠ 0 by omega)
  have h1 := Int.emod_lt_of_pos (u * i) hc
  exact inB_true h0 (by unfold linAt; omega)
theorem allB_hopL {s t x : Nat} {ch : Int} (hc : 0 < ch) (n : Nat) : allB 0 (ch - 1) (hopL s t x ch n) = true := by
  unfold allB
  rw [List.all_eq_true]
  intro y hy
  obtain ⟨i, _, rfl⟩ := List.mem_map.1 hy
  have h0 := Int.emod_nonneg (hopX s t x i : Int) (show ch ≠ 0 by omega)
  have h1 := Int.emod_lt_of_pos (hopX s t x i : Int) hc
  exact inB_true h0 (by omega)
theorem hopsB_mk {l : List Int} {ch : Int} (h1 : 1 ≤ ch ∧ ch ≤ 16) (h2 : l.length ≤ 300) (h3 : allB 0 (ch - 1) l = true) : hopsB l ch = true := by
  unfold hopsB; rw [chB_iff.2 h1, decide_eq_true h2, h3]; rfl

/-- A register that is drawn. -/
def SomeRegP (w : World) (g p : Nat) (e : Ending) (w' : World) : Prop :=
  ∃ s t x : Int, ∃ q, e = .returned (.agg #[.int .i64 s, .int .i64 t, .int .i64 x]) ∧ regB s t x = true ∧ p ≤ q ∧ q ≤ p + 4 ∧ Rdr w' g q ∧ w.grownBy w' (some g)

theorem gr_trans_below {w w1 w2 : World} {g : Nat} (h : w.grownBy w1 (some g)) (hb : Below w1.heap.size w1 w2) : w.grownBy w2 (some g) := h.trans (gr_of_below hb _)

set_option maxRecDepth 100000 in
set_option maxHeartbeats 400000 in
theorem l1Some_c {w : World} {g p : Nat} (h : Rdr w g p) (hp : p ≤ 1073741000) : Calls Tryd.prog 49 #[.pointer (some ⟨g, 0, none⟩)] w (SomeRegP w g p) := by
  have hbz : Below w.heap.size w (w.alloc (.cells #[.int .i64 0, .int .i64 0, .int .i64 0] 67)) := (Below.refl _ _).alloc (Nat.le_refl _) _
  have hRg := Box.new w #[.int .i64 0, .int .i64 0, .int .i64 0] 67
  have hgl := h.lt
  have h1 := (h.below hbz).alloc (.cells #[.int .i64 3, .int .i64 4, .int .i64 5, .int .i64 2, .int .i64 6, .int .i64 7, .int .i64 8] 3)
  have hRg1 := hRg.alloc (.cells #[.int .i64 3, .int .i64 4, .int .i64 5, .int .i64 2, .int .i64 6, .int .i64 7, .int .i64 8] 3)
  have hgb : w.heap.size ≠ g := by omega
  go_enter Tryd.func49, Tryd.ntmps49
  go_wp2_with fail
  refine (num_c h1 (by omega) (rd_lit' _ [3, 4, 5, 2, 6, 7, 8] _ _ _ (by simp) rfl (by decide)) (by intro a ha; cases ha; simp; omega) (by decide)).mono ?_; rintro e w1 ⟨s, rfl, hs, hr1, hg1⟩
  have hs2 : 2 ≤ s ∧ s ≤ 8 := by simp at hs; omega
  have hRg2 := hRg1.gr hg1 hgb
  have hgA : w.grownBy w1 (some g) := (gr_of_below (hbz.alloc (by simp) _) _).trans hg1
  clear hs hg1 h1 hbz h hRg hRg1
  go_wp2_with fail
  refine (l1Two_c _ _ (by omega)).mono ?_; rintro e w' ⟨rfl, rfl⟩
  have hpw : (4 : Int) ≤ 2 ^ s.toNat ∧ (2 : Int) ^ s.toNat ≤ 256 := by rcases size_cases hs2 with rfl | rfl | rfl | rfl | rfl | rfl | rfl <;> decide
  have HP := Lib.hid (show (2 : Int) ^ s.toNat = 2 ^ s.toNat from rfl)
  obtain ⟨P, hP⟩ : ∃ P : Int, P = 2 ^ s.toNat := ⟨_, rfl⟩
  have HPP := Lib.hid hP
  rw [← hP] at hpw ⊢
  clear hP HP
  go_wp2_with fail
  refine (pick_c _ hr1 (by omega)).mono ?_; rintro e w2 ⟨v, rfl, v0, v1, hr2, hg2⟩
  have hRg3 := hRg2.gr hg2 hgb
  have hgB := hgA.trans hg2
  clear hRg2 hgA hg2 hr1
  go_wp2_with fail
  refine (pick_c _ hr2 (by omega)).mono ?_; rintro e w3 ⟨u, rfl, u0, u1, hr3, hg3⟩
  have hRg4 := hRg3.gr hg3 hgb
  have hgC := hgB.trans hg3
  clear hRg3 hgB hg3 hr2
  have HT := Lib.hid (l1Two_c s)
  by_cases hu : (u == 0) = true
  · obtain ⟨k, hk⟩ := Int.eq_ofNat_of_zero_le (show 0 ≤ s - 2 by omega)
    have hkl : k < [(3 : Int), 3, 3, 5, 3, 3, 29].length := by simp; omega
    obtain ⟨t, ht, htb⟩ : ∃ t : Int, (w3.alloc (.cells #[.int .i64 3, .int .i64 3, .int .i64 3, .int .i64 5, .int .i64 3, .int .i64 3, .int .i64 29] 3)).cell? ⟨w3.heap.size, k, none⟩ = some (.int .i64 t) ∧ 1 ≤ t ∧ t < P := by
      have hB := Box.new w3 #[.int .i64 3, .int .i64 3, .int .i64 3, .int .i64 5, .int .i64 3, .int .i64 3, .int .i64 29] 3
      have hPP := HPP.out
      rcases size_cases hs2 with rfl | rfl | rfl | rfl | rfl | rfl | rfl
      · obtain rfl : k = 0 := by omega
        exact ⟨3, hB.cell rfl, by omega, by rw [hPP]; decide⟩
      · obtain rfl : k = 1 := by omega
        exact ⟨3, hB.cell rfl, by omega, by rw [hPP]; decide⟩
      · obtain rfl : k = 2 := by omega
        exact ⟨3, hB.cell rfl, by omega, by rw [hPP]; decide⟩
      · obtain rfl : k = 3 := by omega
        exact ⟨5, hB.cell rfl, by omega, by rw [hPP]; decide⟩
      · obtain rfl : k = 4 := by omega
        exact ⟨3, hB.cell rfl, by omega, by rw [hPP]; decide⟩
      · obtain rfl : k = 5 := by omega
        exact ⟨3, hB.cell rfl, by omega, by rw [hPP]; decide⟩
      · obtain rfl : k = 6 := by omega
        exact ⟨29, hB.cell rfl, by omega, by rw [hPP]; decide⟩
    have hbl : Below w3.heap.size w3 (w3.alloc (.cells #[.int .i64 3, .int .i64 3, .int .i64 3, .int .i64 5, .int .i64 3, .int .i64 3, .int .i64 29] 3)) := (Below.refl _ _).alloc (Nat.le_refl _) _
    have hr4 := hr3.below hbl
    have hRg5 := hRg4.below hbl hRg4.lt
    have hgD := gr_trans_below hgC hbl
    have hk7 : (k : Int) < 7 := by simp at hkl; omega
    have hk7' : k < 7 := by omega
    have H1 : s - 2 = (k : Int) := hk
    clear hr3 hRg4 hgC hbl hkl hk
    go_wp2_with fail
    refine (HT.out _ (by omega)).mono ?_; rintro e w' ⟨rfl, rfl⟩
    rw [← HPP.out]
    clear H1
    go_wp2_with fail
    refine (pick_c _ hr4 (by omega)).mono ?_; rintro e w4 ⟨x, rfl, x0, x1, hr5, hg5⟩
    have hRg6 := hRg5.gr hg5 hgb
    have hgE := hgD.trans hg5
    have c0 := hRg6.cell (i := 0) rfl
    have c1 := hRg6.cell (i := 1) rfl
    have c2 := hRg6.cell (i := 2) rfl
    have f0 := hRg6.free 0
    have f1 := hRg6.free 1
    have f2 := hRg6.free 2
    have hz := hRg6.lt
    have hRgF := ((hRg6.set2 0 (.int .i64 s)).set2 1 (.int .i64 t)).set2 2 (.int .i64 x)
    have b0 := hRgF.cell (i := 0) (by simp; rfl)
    have b1 := hRgF.cell (i := 1) (by simp; rfl)
    have b2 := hRgF.cell (i := 2) (by simp; rfl)
    have hrF := (((hr5.farGt (gr_set w.heap.size 0 (.int .i64 s)) hgl).farGt (gr_set w.heap.size 1 (.int .i64 t)) hgl).farGt (gr_set w.heap.size 2 (.int .i64 x)) hgl)
    have hgF := gr_setNew (gr_setNew (gr_setNew hgE (Nat.le_refl _) 0 (.int .i64 s)) (Nat.le_refl _) 1 (.int .i64 t)) (Nat.le_refl _) 2 (.int .i64 x)
    have HRB := Lib.hid (show regB s t x = true by
      have hPP := HPP.out
      unfold regB tapB
      rw [inB_true hs2.1 hs2.2, ← hPP, inB_true htb.1 (by omega), inB_true x0 (by omega)]; rfl)
    clear hRg6 hRgF hgE hg5 hr5 hr4 hRg5 hgD
    go_wp2_with fail
    refine bodyPost_ret (v := .agg #[.int .i64 s, .int .i64 t, .int .i64 x]) (by simp [results, Tryd.results49, go_sem, b0, b1, b2]) rfl ?_
    exact ⟨s, t, x, p + 1 + 1 + 1 + 1, rfl, HRB.out, by omega, by omega, hrF, hgF⟩
  · have hu' : (u == 0) = false := by simpa using hu
    have hgD := hgC
    have hRg5 := hRg4
    have hr4 := hr3
    have htb : 1 ≤ 1 + v ∧ 1 + v < P := by omega
    clear hgC hRg4 hr3 hu
    go_wp2_with fail
    refine (HT.out _ (by omega)).mono ?_; rintro e w' ⟨rfl, rfl⟩
    rw [← HPP.out]
    go_wp2_with fail
    refine (pick_c _ hr4 (by omega)).mono ?_; rintro e w4 ⟨x, rfl, x0, x1, hr5, hg5⟩
    have hRg6 := hRg5.gr hg5 hgb
    have hgE := hgD.trans hg5
    have c0 := hRg6.cell (i := 0) rfl
    have c1 := hRg6.cell (i := 1) rfl
    have c2 := hRg6.cell (i := 2) rfl
    have f0 := hRg6.free 0
    have f1 := hRg6.free 1
    have f2 := hRg6.free 2
    have hz := hRg6.lt
    have hRgF := ((hRg6.set2 0 (.int .i64 s)).set2 1 (.int .i64 (1 + v))).set2 2 (.int .i64 x)
    have b0 := hRgF.cell (i := 0) (by simp; rfl)
    have b1 := hRgF.cell (i := 1) (by simp; rfl)
    have b2 := hRgF.cell (i := 2) (by simp; rfl)
    have hrF := (((hr5.farGt (gr_set w.heap.size 0 (.int .i64 s)) hgl).farGt (gr_set w.heap.size 1 (.int .i64 (1 + v))) hgl).farGt (gr_set w.heap.size 2 (.int .i64 x)) hgl)
    have hgF := gr_setNew (gr_setNew (gr_setNew hgE (Nat.le_refl _) 0 (.int .i64 s)) (Nat.le_refl _) 1 (.int .i64 (1 + v))) (Nat.le_refl _) 2 (.int .i64 x)
    have HRB := Lib.hid (show regB s (1 + v) x = true by
      have hPP := HPP.out
      unfold regB tapB
      rw [inB_true hs2.1 hs2.2, ← hPP, inB_true htb.1 (by omega), inB_true x0 (by omega)]; rfl)
    clear hRg6 hRgF hgE hg5 hr5 hr4 hRg5 hgD
    go_wp2_with fail
    refine bodyPost_ret (v := .agg #[.int .i64 s, .int .i64 (1 + v), .int .i64 x]) (by simp [results, Tryd.results49, go_sem, b0, b1, b2]) rfl ?_
    exact ⟨s, (1 + v), x, p + 1 + 1 + 1 + 1, rfl, HRB.out, by omega, by omega, hrF, hgF⟩

theorem num_lit {w : World} {g p n b c : Nat} {t : TypeId} (l : List Int) (h : Rdr w g p) (hp : p ≤ 1073741824) (hb : b = w.heap.size) (hn : n = l.length) (hs : l.length ≤ 1099511627776) (hn0 : 0 < n) :
    Calls Tryd.prog 14 #[.pointer (some ⟨g, 0, none⟩), .slice (some ⟨b, 0, none⟩) n c] (w.alloc (.cells (l.map (Value.int .i64)).toArray t)) (NumP (w.alloc (.cells (l.map (Value.int .i64)).toArray t)) g p l) := by
  refine num_c (h.alloc _) hp (rd_lit' w l t b n hb hn hs) ?_ hn0
  intro a ha
  cases ha
  have := h.lt
  intro _
  show b ≠ g
  omega

/-- Hops that are drawn, on how many channels. -/
def SomeHopsP (w : World) (g p : Nat) (e : Ending) (w' : World) : Prop :=
  ∃ ao n c, ∃ l : List Int, ∃ ch : Int, ∃ q, e = .returned (.tuple #[.slice ao n c, .int .i64 ch]) ∧ Own w' w.heap.size ao n c l ∧ (1 ≤ ch ∧ ch ≤ 16) ∧ hopsB l ch = true ∧ 0 < l.length ∧ l.length ≤ 14 ∧ p ≤ q ∧ q ≤ p + 20 ∧ Rdr w' g q ∧ w.grownBy w' (some g)

set_option maxRecDepth 100000 in
set_option maxHeartbeats 800000 in
theorem l7Some_c {w : World} {g p : Nat} (h : Rdr w g p) (hp : p ≤ 1073740000) : Calls Tryd.prog 29 #[.pointer (some ⟨g, 0, none⟩)] w (SomeHopsP w g p) := by
  have hgl := h.lt
  go_enter Tryd.func29, Tryd.ntmps29
  go_wp2_with fail
  refine (num_lit [4, 5, 7, 8, 3, 16, 1, 2] h (by omega) rfl rfl (by decide) (by decide)).mono ?_; rintro e w1 ⟨ch, rfl, hch, hr1, hg1⟩
  have hch2 : 1 ≤ ch ∧ ch ≤ 16 := by simp at hch; omega
  have hgA := (gr_of_below ((Below.refl _ _).alloc (Nat.le_refl w.heap.size) _) (some g)).trans hg1
  clear hch hg1 h
  go_wp2_with fail
  refine (pick_c _ hr1 (by omega)).mono ?_; rintro e w2 ⟨u, rfl, u0, u1, hr2, hg2⟩
  have hgB := hgA.trans hg2
  clear hgA hg2 hr1
  have hzB := hgB.size
  by_cases hu0 : (u == 0) = true
  · go_wp2_with fail
    refine (pick_c _ hr2 (by omega)).mono ?_; rintro e w3 ⟨v, rfl, v0, v1, hr3, hg3⟩
    have hgC := hgB.trans hg3
    clear hgB hg3 hr2
    go_wp2_with fail
    refine (pick_c _ hr3 (by omega)).mono ?_; rintro e w4 ⟨m, rfl, m0, m1, hr4, hg4⟩
    have hgD := hgC.trans hg4
    clear hgC hg4 hr3
    have hok : linOk ch v (1 + m) = true := by
      unfold linOk
      rw [chB_iff.2 hch2, inB_true v0 (by omega), inB_true (by omega) (by omega)]; rfl
    have HL := Lib.hid (linHops_yes hok)
    clear hok
    go_wp2_with fail
    refine (sLinearHops_c _ _ _ _).mono ?_; rintro e w5 hret; rw [HL.out] at hret; obtain ⟨a1, n1, c1, rfl, ho, hb5⟩ := hret.some
    have hr5 := hr4.below hb5
    have hgE := gr_trans_below hgD hb5
    have hzD := hgD.size
    have ho2 := ho.mono hzD
    clear hr4 hgD hb5 ho
    go_wp2_with fail
    go_ret2
    exact ⟨_, _, _, _, ch, _, rfl, ho2, hch2, hopsB_mk hch2 (by simp; omega) (allB_linAt (by omega) _), by simp; omega, by simp; omega, by omega, by omega, hr5, hgE⟩
  · have hu0' : (u == 0) = false := by simpa using hu0
    clear hu0
    by_cases hu1 : (u == 1) = true
    · go_wp2_with fail
      refine (l1Some_c hr2 (by omega)).mono ?_; rintro e w3 ⟨s, t, x, q, rfl, hreg, hq0, hq1, hr3, hg3⟩
      have HRG := Lib.hid hreg
      have hgC := hgB.trans hg3
      clear hgB hg3 hr2 hreg
      go_wp2_with fail
      refine (pick_c _ hr3 (by omega)).mono ?_; rintro e w4 ⟨m, rfl, m0, m1, hr4, hg4⟩
      have hgD := hgC.trans hg4
      clear hgC hg4 hr3
      have HL := Lib.hid (hopSeq_yes (show hopOk s t x ch (1 + m) = true by unfold hopOk; rw [HRG.out, chB_iff.2 hch2, inB_true (by omega) (by omega)]; rfl))
      go_wp2_with fail
      refine (sHopSequence_c _ _ _ _ _ _).mono ?_; rintro e w5 hret; rw [HL.out] at hret; obtain ⟨a1, n1, c1, rfl, ho, hb5⟩ := hret.some
      have hr5 := hr4.below hb5
      have hgE := gr_trans_below hgD hb5
      have hzD := hgD.size
      have ho2 := ho.mono hzD
      clear hr4 hgD hb5 ho
      go_wp2_with fail
      go_ret2
      exact ⟨_, _, _, _, ch, _, rfl, ho2, hch2, hopsB_mk hch2 (by rw [hopL_len]; omega) (allB_hopL (by omega) _), by rw [hopL_len]; omega, by rw [hopL_len]; omega, by omega, by omega, hr5, hgE⟩
    · have hu1' : (u == 1) = false := by simpa using hu1
      clear hu1
      have ho0 : OwnV (w2.alloc (.cells #[] 3)) w.heap.size (.slice (some ⟨w2.heap.size, 0, none⟩) 0 0) [] := OwnV.mono (OwnV.made0 w2 (Nat.le_refl _)) hzB
      have hr3 := hr2.alloc (.cells #[] 3)
      have hgC := gr_trans_below hgB ((Below.refl _ _).alloc (Nat.le_refl w2.heap.size) (.cells #[] 3))
      clear hr2 hgB
      go_wp2_with fail
      refine (pick_c _ hr3 (by omega)).mono ?_; rintro e w3 ⟨m, rfl, m0, m1, hr4, hg4⟩
      have hgD := hgC.trans hg4
      have ho1 := ho0.gr hg4 hgl
      clear hgC hg4 hr3 ho0
      go_wp2_with fail
      go_loopw [9, 10] (fun v i wr => ∃ (k : Nat) (l : List Int), i = .int .i64 (k : Nat) ∧ l.length + k ≤ 12 ∧ 0 < l.length + k ∧ OwnV wr w.heap.size v l ∧ allB 0 (ch - 1) l = true ∧ Rdr wr g (p + 3 + l.length) ∧ w.grownBy wr (some g)) (fun _ i _ => (intOf i).toNat)
      case atStart =>
        obtain ⟨k, hk⟩ := Int.eq_ofNat_of_zero_le (show 0 ≤ 1 + m by omega)
        exact ⟨k, [], by rw [hk], by simp; omega, by simp; omega, ho1, rfl, hr4, hgD⟩
      case round =>
        clear ho1 hr4 hgD m0 m1
        obtain ⟨k, l, rfl, hlk, hlk0, ho, hal, hr, hg⟩ := hrel
        have HA := Lib.hid hal; clear hal
        have hz := hg.size
        by_cases hk0 : 0 < k
        · go_wp2_with fail
          refine (pick_c _ hr (by omega)).mono ?_; rintro e w4 ⟨v2, rfl, v20, v21, hr5, hg5⟩
          have ho2 := ho.gr hg5 hgl
          have hgE := hg.trans hg5
          have hzE := hgE.size
          clear ho hg hg5 hr
          go_wp2_with (at_builtin; refine wp_app1 w4 rfl (.tmp 53) (.tmp 57) rfl w.heap.size _ l v2 rfl ho2 rfl (by omega) hzE ?_; intro v' w5 ho3 _ hb5)
          have hr6 := hr5.farGt2 hb5 hgl
          have hgF := gr_trans_below2 hgE hb5
          clear ho2 hr5 hgE hb5
          go_roundw
          case rel => exact ⟨k - 1, l ++ [v2], by go_num, by simp; omega, by simp; omega, ho3, by unfold allB at *; rw [List.all_append, HA.out]; simp [inB]; omega, by simpa [Nat.add_assoc] using hr6, hgF⟩
          case measure => simp [intOf]; omega
        · obtain rfl : k = 0 := by omega
          obtain ⟨a2, n2, c2, hv, ho2⟩ := ho.own (by omega)
          subst hv
          go_wp2_with fail
          go_ret2
          exact ⟨_, _, _, l, ch, _, rfl, ho2, hch2, hopsB_mk hch2 (by omega) HA.out, by omega, by omega, by omega, by omega, hr, hg⟩

end Go.Proofs.YtaoahgngpjoekaaDoor
