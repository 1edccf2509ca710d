/- ShiftHops of the program and of the reference. No condition beyond lengths. -/
import Derived.Test.YtaoahgngpjoekaaDoorHj
import Derived.Deep.RegionLaw
namespace Go.Proofs.YtaoahgngpjoekaaDoor
open Go.RowKit

theorem Own.cap {w : World} {lo : Nat} {ao : Option Addr} {n c : Nat} {l : List Int} (h : Own w lo ao n c l) : n ≤ c := by
  rcases h.2.2.2 with ⟨h1, h2⟩ | ⟨g, cap, cur, hv, _, _, hc, _⟩
  · omega
  · cases hv; exact hc

def rotL (k : Nat) (l : List Int) : List Int := l.drop k ++ l.take k
def shiftHops (l : List Int) (k : Int) : Option (List Int) := if (hopsB l 16 && decide (0 < l.length)) = true then some (rotL (k % l.length).toNat l) else none
theorem shiftHops_no1 {l : List Int} {k : Int} (h : hopsB l 16 = false) : shiftHops l k = none := by simp [shiftHops, h]
theorem shiftHops_no2 {l : List Int} {k : Int} (h : l.length = 0) : shiftHops l k = none := by simp [shiftHops, h]
theorem shiftHops_yes {l : List Int} {k : Int} (h : hopsB l 16 = true) (h2 : 0 < l.length) : shiftHops l k = some (rotL (k % l.length).toNat l) := by simp [shiftHops, h, h2]

/-- slices.Grow of a nil slice: a row of the call's own without elements. -/
def RetV (w : World) (l : List Int) (e : Ending) (w' : World) : Prop := ∃ v, e = .returned v ∧ OwnV w' w.heap.size v l ∧ Below w.heap.size w w'

set_option maxRecDepth 100000 in
set_option maxHeartbeats 800000 in
theorem Grow_c (n : Nat) (w : World) (hn : n ≤ 1099511627776) : Calls Tryd.prog 42 #[.slice none 0 0, .int .i64 n] w (RetV w []) := by
  obtain ⟨i0, hi, hz0, hz1, hz2⟩ := info_parts info_int
  rcases Nat.eq_zero_or_pos n with rfl | h0
  · go_enter Tryd.func42, Tryd.ntmps42
    go_wp2
    go_ret
    exact ⟨_, rfl, OwnV.nil _ _, Below.refl _ _⟩
  · have hr := fun ty => Lib.run_append_nil_zeros (P := Tryd.prog) w 23 3 ty 3 i0 (.int .i64 0) .i64 .i64 Tryd.underlying23 Tryd.underlying3 hi hz0 n h0 (by rw [hz1]; omega) (by omega) (by rw [hz2]; omega)
    have hG : n ≤ grownCap w n 0 3 := grownCap_ge w _ _ _
    have hGm : grownCap w n 0 3 ≤ maxLen := grownCap_le_maxLen w n 0 3 (by unfold maxLen; omega)
    have hsz : (Builtin.zeroCells (Value.int IntKind.i64 0).cells n ++ Builtin.zeroCells (Value.int IntKind.i64 0).cells (grownCap w n 0 3 - n)).size = grownCap w n 0 3 * 1 := by
      rw [Array.size_append, size_zeroCells, size_zeroCells]
      have : (Value.int IntKind.i64 0).cells.size = 1 := rfl
      rw [this]; omega
    have hown : OwnV (w.drew.alloc (.cells (Builtin.zeroCells (Value.int IntKind.i64 0).cells n ++ Builtin.zeroCells (Value.int IntKind.i64 0).cells (grownCap w n 0 3 - n)) 3)) w.heap.size (.slice (some ⟨w.heap.size, 0, none⟩) 0 (grownCap w n 0 3)) [] := World.ownsRow_made w.drew _ _ (Nat.le_refl _) hGm hsz
    have hb : Below w.heap.size w (w.drew.alloc (.cells (Builtin.zeroCells (Value.int IntKind.i64 0).cells n ++ Builtin.zeroCells (Value.int IntKind.i64 0).cells (grownCap w n 0 3 - n)) 3)) := ((Below.refl _ _).drew).alloc (Nat.le_refl _) _
    generalize grownCap w n 0 3 = G at *
    generalize Builtin.zeroCells (Value.int IntKind.i64 0).cells n ++ Builtin.zeroCells (Value.int IntKind.i64 0).cells (G - n) = cs at *
    have hG' : (n : Int) ≤ (G : Int) := by omega
    have hGm' : G ≤ 9223372036854775807 := hGm
    have HR := Lib.hid hr
    have HO := Lib.hid hown
    clear hsz hr hown hGm
    go_enter Tryd.func42, Tryd.ntmps42
    go_wp2_with (at_builtin; refine Lib.wpList_append_run _ rfl _ _ _ _ rfl _ _ rfl rfl _ _ (HR.out _) ?_)
    go_ret
    exact ⟨_, rfl, HO.out, hb⟩

set_option maxRecDepth 100000 in
set_option maxHeartbeats 1600000 in
theorem Concat2_c {ao bo : Option Addr} {n m c d g : Nat} {l r : List Int} {w : World} (h0 : w.cell? ⟨g, 0, none⟩ = some (.slice ao n c)) (h1 : w.cell? ⟨g, 1, none⟩ = some (.slice bo m d))
    (h : Rd w ao n l) (h' : Rd w bo m r) (hc : ao = none → c = 0) (hd : bo = none → d = 0) (hlen : n + m ≤ 1099511627776) :
    Calls Tryd.prog 26 #[.slice (some ⟨g, 0, none⟩) 2 2] w (RetV w (l ++ r)) := by
  have hs := h.2.1
  have hs' := h'.2.1
  have hn := Lib.hid h.1
  have hm := Lib.hid h'.1
  have hg0 := lt_of_cell h0
  have hg1 := lt_of_cell h1
  go_enter Tryd.func26, Tryd.ntmps26
  go_wp2
  go_loop [3, 11] (fun s i => (i = .int .i64 (0 : Nat) ∧ s = .int .i64 (0 : Nat)) ∨ (i = .int .i64 (1 : Nat) ∧ s = .int .i64 n) ∨ (i = .int .i64 (2 : Nat) ∧ s = .int .i64 ((n + m : Nat) : Int))) (fun _ i => 2 - (intOf i).toNat)
  case atStart => exact .inl ⟨rfl, rfl⟩
  case round =>
    rcases hrel with ⟨rfl, rfl⟩ | ⟨rfl, rfl⟩ | ⟨rfl, rfl⟩
    · go_wp2
      go_round
      case rel => exact .inr (.inl ⟨rfl, by go_num⟩)
      case measure => simp [intOf]
    · go_wp2
      go_round
      case rel => exact .inr (.inr ⟨rfl, by go_num⟩)
      case measure => simp [intOf]
    · go_wp2_with (go_at_call 42; refine (Grow_c (n + m) _ (by omega)).mono ?_; rintro e w1 ⟨v, rfl, hown, hb⟩)
      go_loopw [6, 27] (fun v i wr => Below w.heap.size w wr ∧ ((i = .int .i64 (0 : Nat) ∧ OwnV wr w.heap.size v []) ∨ (i = .int .i64 (1 : Nat) ∧ OwnV wr w.heap.size v l) ∨ (i = .int .i64 (2 : Nat) ∧ OwnV wr w.heap.size v (l ++ r)))) (fun _ i _ => 2 - (intOf i).toNat)
      case atStart => exact ⟨hb, .inl ⟨rfl, hown⟩⟩
      case round =>
        clear hown hb
        obtain ⟨hb, hcase⟩ := hrel
        have hsz := hb.size
        have hc0 : wr.cell? ⟨g, 0, none⟩ = some (.slice ao n c) := by rw [hb.cell hg0]; exact h0
        have hc1 : wr.cell? ⟨g, 1, none⟩ = some (.slice bo m d) := by rw [hb.cell hg1]; exact h1
        have hR := h.below hb
        have hR' := h'.below hb
        rcases hcase with ⟨rfl, hown⟩ | ⟨rfl, hown⟩ | ⟨rfl, hown⟩
        · go_wp2_with (at_builtin; refine wp_appS wr rfl _ _ rfl w.heap.size _ _ l ao n c rfl (by exact hown) rfl hR hc (by simp; omega) hsz ?_; intro v' w1 hown' _ hb')
          go_roundw
          case rel => exact ⟨hb.trans hb', .inr (.inl ⟨rfl, hown'⟩)⟩
          case measure => simp [intOf]
        · go_wp2_with (at_builtin; refine wp_appS wr rfl _ _ rfl w.heap.size _ _ r bo m d rfl (by exact hown) rfl hR' hd (by rw [← hn.out]; omega) hsz ?_; intro v' w1 hown' _ hb')
          go_roundw
          case rel => exact ⟨hb.trans hb', .inr (.inr ⟨rfl, hown'⟩)⟩
          case measure => simp [intOf]
        · go_wp2
          go_ret
          exact ⟨_, rfl, hown, hb⟩

set_option maxRecDepth 100000 in
set_option maxHeartbeats 800000 in
theorem ShiftHops_c {ao : Option Addr} {n c : Nat} {l : List Int} (k : Int) {w : World} (h : Rd w ao n l) (hcap : n ≤ c) :
    Calls Tryd.prog 8 #[.slice ao n c, .int .i64 k] w (RetIntsB w (shiftHops l k)) := by
  have hs := h.2.1
  have hn := h.1
  by_cases h1 : hopsB l 16 = true
  · by_cases h2 : n = 0
    · have hr := Lib.hid (shiftHops_no2 (k := k) (show l.length = 0 by omega))
      subst h2
      have HN := Lib.hid hn; clear hn
      go_enter Tryd.func8, Tryd.ntmps8
      go_wp2_with fail
      refine (isHops_c h).mono ?_; rintro e w' ⟨rfl, rfl⟩
      go_wp2_with fail
      go_ret2
      exact retIntsB_nil hr.out (Below.refl _ _)
    · have hr := Lib.hid (shiftHops_yes (k := k) h1 (by omega))
      rw [← hn] at hr
      have hne : ((n : Int) == 0) = false := by simp; omega
      obtain ⟨b, off, rfl, hl, hcell⟩ := h.at (show 0 < n by omega)
      have hk0 := Int.emod_nonneg k (show (n : Int) ≠ 0 by omega)
      have hk1 := Int.emod_lt_of_pos k (show 0 < (n : Int) by omega)
      have HM := Lib.hid (modulo_c k n)
      generalize k % (n : Int) = q at hk0 hk1 HM hr
      obtain ⟨f, rfl⟩ := Int.eq_ofNat_of_zero_le hk0
      have hf : f < n := by omega
      have hf2 : f ≤ n := by omega
      have hf3 : ¬ c = f := by omega
      have hf4 : f ≤ c := by omega
      have HN := Lib.hid hn; clear hn
      go_enter Tryd.func8, Tryd.ntmps8
      go_wp2_with fail
      refine (isHops_c h).mono ?_; rintro e w' ⟨rfl, rfl⟩
      go_wp2_with fail
      refine (HM.out _ (by omega) (by omega)).mono ?_; rintro e w' ⟨rfl, rfl⟩
      go_wp2_with fail
      go_still_tail 6, (by kernel_rfl)
      change wpList _ _ _ _ _ w.drew
      go_wp2_with fail
      have hb0 : Below w.heap.size w (w.alloc (.cells #[.slice (some ⟨b, off + f, none⟩) (n - f) (c - f), .slice (some ⟨b, off, none⟩) f c] 23)).drew := ((Below.refl _ _).alloc (Nat.le_refl _) _).drew
      refine (Concat2_c (g := w.heap.size) (c := c - f) (d := c) (by simp [World.cell?_alloc_new]) (by simp [World.cell?_alloc_new]) ((h.drop hf2).below hb0) ((h.take hf2).below hb0) (by intro e; cases e) (by intro e; cases e) (by omega)).mono ?_
      rintro e w1 ⟨v, rfl, hown, hb⟩
      go_wp2_with fail
      go_ret2
      refine retIntsB_mk (hown.mono (by simp)) ?_ ?_ (by rw [hr.out]; rfl) (hb0.trans (hb.mono (by simp)))
      · have := h.1; simp; omega
      · rw [hr.out]; rfl
  · have h1' : hopsB l 16 = false := by simpa using h1
    have hr := Lib.hid (shiftHops_no1 (k := k) h1')
    have HN := Lib.hid hn
    clear h1 hn
    go_enter Tryd.func8, Tryd.ntmps8
    go_wp2_with fail
    refine (isHops_c h).mono ?_; rintro e w' ⟨rfl, rfl⟩
    go_wp2_with fail
    go_ret2
    exact retIntsB_nil hr.out (Below.refl _ _)

end Go.Proofs.YtaoahgngpjoekaaDoor
