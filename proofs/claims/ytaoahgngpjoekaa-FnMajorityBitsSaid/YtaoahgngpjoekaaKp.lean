/- DrawMajorityBits. No condition beyond lengths. -/
import Derived.Test.YtaoahgngpjoekaaKn
import Derived.Test.YtaoahgngpjoekaaKo
import Derived.Test.YtaoahgngpjoekaaKf
namespace Go.Proofs.Ytaoahgngpjoekaa
open Go.RowKit

def CountP (w : World) (g p : Nat) (e : Ending) (w' : World) : Prop :=
  ∃ v : Int, e = .returned (.int .i64 v) ∧ -1 ≤ v ∧ v ≤ 11 ∧ Rdr w' g (p + 2) ∧ w.grownBy w' (some g)
theorem rep_draw {t : ByteArray} {n : Int} (h : allS bitC t = true) (hz : t.size ≤ 12) : allS bitC ((repR t n).getD ByteArray.empty) = true ∧ ((repR t n).getD ByteArray.empty).size ≤ 108 := by
  have hb : bitsB t = true := bits_mk (by omega) h
  by_cases h2 : oddB n = true
  · obtain ⟨N, rfl, hN1, hN9, _⟩ := oddB_is h2
    have hm : t.size * N ≤ 108 := Nat.le_trans (Nat.mul_le_mul hz hN9) (by decide)
    rw [repR_yes hb h2 (by omega)]
    have ha : allS bitC (repT t N) = true := allS_bitL (repL_bit N h)
    exact ⟨ha, by show (repT t N).size ≤ 108; rw [repT_size]; exact hm⟩
  · rw [repR_no2 (by simpa using h2)]
    exact ⟨rfl, Nat.zero_le _⟩

set_option maxHeartbeats 800000 in
theorem l6Count_c {w : World} {g p : Nat} (h : Rdr w g p) (hp : p ≤ 1073740000) : Calls Try.prog 81 #[.pointer (some ⟨g, 0, none⟩)] w (CountP w g p) := by
  go_enter Try.func81, Try.ntmps81
  go_wp2_with fail
  refine (pick_c _ h (by omega)).mono ?_; rintro e w1 ⟨u, rfl, u0, u1, hr1, hg1⟩
  have hgl := hr1.lt
  clear h u1
  by_cases hu : (u == 0) = true
  · go_wp2_with fail
    refine (num_lit [0, 2, 11, -1] hr1 (by omega) rfl rfl (by decide) (by decide)).mono ?_; rintro e w2 ⟨x, rfl, hx, hr2, hg2⟩
    have hgA := (gr_trans_below hg1 ((Below.refl _ _).alloc (Nat.le_refl w1.heap.size) _)).trans hg2
    have hx2 : -1 ≤ x ∧ x ≤ 11 := by simp at hx; omega
    clear hx hg1 hg2 hr1
    go_wp2_with fail
    go_ret
    exact ⟨x, rfl, hx2.1, hx2.2, hr2, hgA⟩
  · have hu' : (u == 0) = false := by simpa using hu
    clear hu
    go_wp2_with fail
    refine (num_lit [3, 5, 1, 7, 9] hr1 (by omega) rfl rfl (by decide) (by decide)).mono ?_; rintro e w2 ⟨x, rfl, hx, hr2, hg2⟩
    have hgA := (gr_trans_below hg1 ((Below.refl _ _).alloc (Nat.le_refl w1.heap.size) _)).trans hg2
    have hx2 : -1 ≤ x ∧ x ≤ 11 := by simp at hx; omega
    clear hx hg1 hg2 hr1
    go_wp2_with fail
    go_ret
    exact ⟨x, rfl, hx2.1, hx2.2, hr2, hgA⟩

set_option maxRecDepth 100000 in
set_option maxHeartbeats 800000 in
theorem DrawMajorityBits_c {w : World} {ao : Option Addr} {n c : Nat} (h : CodeW w ao n c) : Calls Try.prog 28 #[.slice ao n c] w (TextI w) := by
  obtain ⟨lb, hR, hcap, hby⟩ := h
  go_enter Try.func28, Try.ntmps28
  go_wp2_with fail
  refine (l9Open_c hR hcap hby).mono ?_; rintro e w1 ⟨rfl, hr1, hb1⟩
  have hz1 := hb1.size
  clear hR hby
  go_wp2_with fail
  refine (l6Count_c hr1 (by omega)).mono ?_; rintro e w2 ⟨m, rfl, hm0, hm1, hr2, hg2⟩
  have hb2 := hb1.trans (below_of_gr hg2 (Nat.le_refl _) hz1)
  clear hr1 hg2 hb1
  go_wp2_with fail
  refine (l1StringB_c 12 hr2 (by omega) (by omega)).mono ?_; rintro e w3 ⟨t, q3, rfl, ht, htb, hq0, hq1, hr3, hg3⟩
  have hb3 := hb2.trans (below_of_gr hg3 (Nat.le_refl _) hb2.size)
  obtain ⟨hRB, hRz⟩ := rep_draw (n := m) htb ht
  clear hr2 hg3 hb2 htb
  go_wp2_with fail
  refine (sRepeatBits_c t m _ (by omega)).mono ?_; rintro e w4 ⟨rfl, hb4⟩
  have hr4 := hr3.below hb4
  have hb5 := hb3.trans (hb4.mono hb3.size)
  clear hr3 hb3 hb4
  generalize (repR t m).getD ByteArray.empty = u at *
  generalize (repR t m).isSome = ub at *
  have HU := Lib.hid hRB
  clear hRB
  go_wp2_with fail
  refine (l6Harm_c u hr4 (by omega) (by omega) HU.out).mono ?_; rintro e w5 ⟨v, q5, rfl, hv, hvb, hq2, hq3, hr5, hg5⟩
  have hb6 := hb5.trans (below_of_gr hg5 (Nat.le_refl _) hb5.size)
  clear hr4 hg5 hb5 hvb
  go_wp2_with fail
  refine (pick_c _ hr5 (by omega)).mono ?_; rintro e w6 ⟨y, rfl, y0, y1, hr6, hg6⟩
  have hb7 := hb6.trans (below_of_gr hg6 (Nat.le_refl _) hb6.size)
  clear hr5 hg6 hb6 y1
  by_cases hy : (y == 0) = true
  · have hv2 : v.size ≤ 108 := by omega
    clear hv HU
    go_wp2_with fail
    refine (l6Wild_c _ hr6 (by omega) (by rw [ap_size]; show v.size + 1 ≤ 600; omega)).mono ?_; rintro e w7 ⟨s, q7, rfl, hs, hq70, hq71, hr7, hg7⟩
    have hb8 := hb7.trans (below_of_gr hg7 (Nat.le_refl _) hb7.size)
    go_wp2_with fail
    go_ret2
    exact ⟨s, m, rfl, hs, hm0, by omega, hb8⟩
  · have hy' : (y == 0) = false := by simpa using hy
    clear hy
    go_wp2_with fail
    refine (l6Wild_c v hr6 (by omega) (by omega)).mono ?_; rintro e w7 ⟨s, q7, rfl, hs, hq70, hq71, hr7, hg7⟩
    have hb8 := hb7.trans (below_of_gr hg7 (Nat.le_refl _) hb7.size)
    go_wp2_with fail
    go_ret2
    exact ⟨s, m, rfl, hs, hm0, by omega, hb8⟩

end Go.Proofs.Ytaoahgngpjoekaa
