/- The draw of the linear hops. No condition beyond lengths. -/
import Derived.Test.YtnklnafcbjnmfaaDx
namespace Go.Proofs.Ytnklnafcbjnmfaa
open Go.RowKit

set_option maxRecDepth 100000 in
set_option maxHeartbeats 800000 in
theorem DrawLinearHops_c {w : World} {ao : Option Addr} {n c : Nat} (h : CodeW w ao n c) : Calls Try.prog 21 #[.slice ao n c] w (RetIII w) := by
  obtain ⟨lb, hR, hcap, hby⟩ := h
  go_enter Try.func21, Try.ntmps21
  go_wp2_with fail
  refine (l9Open_c hR hcap hby).mono ?_; rintro e w1 ⟨rfl, hr1, hb1⟩
  have hz1 := hb1.size
  clear hR hby
  go_wp2_with fail
  refine (num_lit [5, 7, 3, 11, 13, 4, 6, 2, 1] hr1 (by omega) rfl rfl (by decide) (by decide)).mono ?_; rintro e w2 ⟨ch, rfl, hx, hr2, hg2⟩
  have hch : 1 ≤ ch ∧ ch ≤ 13 := by simp at hx; omega
  have hb2 : Below w.heap.size w w2 := by
    refine (hb1.alloc (B := w.heap.size) hz1 _).trans (below_of_gr hg2 (by simp) ?_)
    exact (hb1.alloc (B := w.heap.size) hz1 _).size
  have hz2 := hb2.size
  clear hx hr1 hg2
  go_wp2_with fail
  refine (pick_c _ hr2 (by omega)).mono ?_; rintro e w3 ⟨u, rfl, u0, u1, hr3, hg3⟩
  have hb3 := hb2.trans (below_of_gr hg3 (Nat.le_refl _) hz2)
  have hz3 := hb3.size
  clear hr2 hg3
  go_wp2_with fail
  refine (pick_c _ hr3 (by omega)).mono ?_; rintro e w4 ⟨s, rfl, s0, s1, hr4, hg4⟩
  have hb4 := hb3.trans (below_of_gr hg4 (Nat.le_refl _) hz3)
  have hz4 := hb4.size
  clear hr3 hg4
  by_cases hs0 : (s == 0) = true
  · go_wp2_with fail
    refine (num_lit [-1, ch, 9223372036854775807] hr4 (by omega) rfl rfl (by simp) (by simp)).mono ?_; rintro e w5 ⟨x, rfl, hx, hr5, hg5⟩
    have hx2 : -1 ≤ x ∧ x ≤ 9223372036854775807 := by simp at hx; omega
    have hb5 : Below w.heap.size w w5 := by
      refine (hb4.alloc (B := w.heap.size) hz4 _).trans (below_of_gr hg5 (Nat.le_refl _) ?_)
      exact (hb4.alloc (B := w.heap.size) hz4 _).size
    have hz5 := hb5.size
    clear hx hr4 hg5
    go_wp2_with fail
    refine (l7Number_c ch hr5 (by omega) (by omega)).mono ?_; rintro e w6 ⟨k, q, rfl, hk0, hk1, hq0, hq1, hr6, hg6⟩
    have hb6 := hb5.trans (below_of_gr hg6 (Nat.le_refl _) hz5)
    have hz6 := hb6.size
    clear hr5 hg6
    go_wp2_with fail
    refine (l7Count_c hr6 (by omega)).mono ?_; rintro e w7 ⟨m, q2, rfl, hm0, hm1, hq2, hq3, hr7, hg7⟩
    have hb7 := hb6.trans (below_of_gr hg7 (Nat.le_refl _) hz6)
    clear hr6 hr7 hg7
    go_wp2_with fail
    go_ret3
    exact ⟨k, x, m, rfl, ⟨hk0, hk1⟩, hx2, ⟨hm0, hm1⟩, hb7⟩
  · go_wp2_with fail
    refine (l7Number_c ch hr4 (by omega) (by omega)).mono ?_; rintro e w6 ⟨k, q, rfl, hk0, hk1, hq0, hq1, hr6, hg6⟩
    have hb6 := hb4.trans (below_of_gr hg6 (Nat.le_refl _) hz4)
    have hz6 := hb6.size
    clear hr4 hg6
    go_wp2_with fail
    refine (l7Count_c hr6 (by omega)).mono ?_; rintro e w7 ⟨m, q2, rfl, hm0, hm1, hq2, hq3, hr7, hg7⟩
    have hb7 := hb6.trans (below_of_gr hg7 (Nat.le_refl _) hz6)
    clear hr6 hr7 hg7
    go_wp2_with fail
    go_ret3
    exact ⟨k, u, m, rfl, ⟨hk0, hk1⟩, ⟨by omega, by omega⟩, ⟨hm0, hm1⟩, hb7⟩

end Go.Proofs.Ytnklnafcbjnmfaa
