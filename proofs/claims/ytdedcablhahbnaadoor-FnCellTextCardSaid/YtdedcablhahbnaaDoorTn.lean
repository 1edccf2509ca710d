/- Draws of a cell and of its text (DrawFormatCell). No condition beyond lengths. -/
import Derived.Test.YtdedcablhahbnaaDoorTm
import Derived.Test.YtdedcablhahbnaaDoorDm
import Derived.Test.YtdedcablhahbnaaDoorKa
namespace Go.Proofs.YtdedcablhahbnaaDoor
open Go.RowKit

def RetSL (w : World) (e : Ending) (w' : World) : Prop :=
  ∃ ao n c, ∃ l : List Stn, e = .returned (.slice ao n c) ∧ RdSC w' ao n c l ∧ Below w.heap.size w w'

set_option maxHeartbeats 800000 in
theorem DrawFormatCell_c {w : World} {ao : Option Addr} {n c : Nat} (h : CodeW w ao n c) : Calls Tryd.prog 4 #[.slice ao n c] w (RetSL w) := by
  obtain ⟨lb, hR, hcap, hby⟩ := h
  go_enter Tryd.func4, Tryd.ntmps4
  go_wp2_with fail
  refine (l9Open_c hR hcap hby).mono ?_; rintro e w1 ⟨rfl, hr1, hb1⟩
  have hz1 := hb1.size
  clear hR hby
  go_wp2_with fail
  refine (l8Open_c hr1 (by omega)).mono ?_; rintro e w2 ⟨a1, n1, c1, l1, q1, rfl, ho1, h4, ht, hq0, hq1, hr2, hb2⟩
  have hbb := hb1.trans hb2
  go_wp2_with fail
  go_ret
  exact ⟨a1, n1, c1, l1, rfl, RdSC.of ho1 h4 ht, hbb⟩

theorem fmt_pos {l : List Stn} (h : cellB l = true) : 1 ≤ (fmtT l).size := by
  rcases Nat.eq_zero_or_pos (fmtT l).size with h0 | h0
  · exfalso
    have e : fmtT l = ⟨#[]⟩ := bts_inj (size_bts h0)
    have h1 := par_fmt h
    rw [e] at h1
    cases h1
  · exact h0
theorem fmt_489 (l : List Stn) : (fmtT l).size ≤ 489 := by
  by_cases h : cellB l = true
  · rw [fmt_yes h]
    have h1 := dash_sz (joinT 59 (l.map stT))
    have hc := cellB_iff.1 h
    have h2 := join_len (M := 60) (s := [59]) rfl (ps := (l.map stT).map bts) fun p hp => by
      obtain ⟨q, hq, rfl⟩ := List.mem_map.1 hp
      obtain ⟨x, hx, rfl⟩ := List.mem_map.1 hq
      rw [bts_len]; exact stT_size (hc.2.1 x hx)
    rw [List.length_map, List.length_map] at h2
    have h3 : (joinT 59 (l.map stT)).size ≤ l.length * 61 := by unfold joinT; rw [txt_size]; exact h2
    have : l.length * 61 ≤ 8 * 61 := Nat.mul_le_mul_right _ hc.1
    omega
  · rw [fmt_no (by simpa using h)]; decide
theorem grd2 {a b k : Nat} (ha : a = k) (hb : b ≤ 1) (hk : k ≤ 489) : ¬ 9223372036854775807 < a + b := by omega
theorem grd3 {a b c k d e : Nat} (ha : a = k) (hb : b ≤ 1) (hc : c = d - e) (hk : k ≤ 489 ∧ d ≤ 489) : ¬ 9223372036854775807 < a + b + c := by omega
theorem wr_sum {k m : Nat} (h : k + m ≤ 1000000) : IntKind.i64.wrap ((k : Int) + (m : Int)) = ((k + m : Nat) : Int) := by rw [IntWalk.i64_in _ (by omega)]; rfl
def RetTz (w : World) (e : Ending) (w' : World) : Prop := ∃ t : ByteArray, e = .returned (.string t) ∧ t.size ≤ 1000 ∧ Below w.heap.size w w'

set_option maxRecDepth 100000 in
set_option maxHeartbeats 1600000 in
theorem DrawParseCell_c {w : World} {ao : Option Addr} {n c : Nat} (h : CodeW w ao n c) : Calls Tryd.prog 10 #[.slice ao n c] w (RetTz w) := by
  obtain ⟨lb, hR, hcap, hby⟩ := h
  go_enter Tryd.func10, Tryd.ntmps10
  go_wp2_with fail
  refine (l9Open_c hR hcap hby).mono ?_; rintro e w1 ⟨rfl, hr1, hb1⟩
  have hz1 := hb1.size
  clear hR hby
  go_wp2_with fail
  refine (l8Some_c hr1 (by omega)).mono ?_; rintro e w2 ⟨a1, n1, c1, l1, q1, rfl, ho1, h4, ht, hq0, hq1, hr2, hg2, hcb⟩
  have hbb := hb1.trans (below_of_gr hg2 (Nat.le_refl _) hb1.size)
  have HT := Lib.hid ht.big
  have hT0 := fmt_pos hcb
  have hT1 := fmt_489 l1
  clear hr1 hb1 hg2 hcb ht
  go_wp2_with fail
  refine (sFormatCell_c ho1.rd HT.out).mono ?_; rintro e w3 ⟨rfl, hb3⟩
  have hr3 := hr2.below hb3
  have hbc := hbb.trans (hb3.mono hbb.size)
  clear hr2 hbb hb3 ho1 HT
  generalize fmtT l1 = T at *
  go_wp2_with fail
  refine (pick_c _ hr3 (by omega)).mono ?_; rintro e w4 ⟨u, rfl, u0, u1, hr4, hg4⟩
  have hbd := hbc.trans (below_of_gr hg4 (Nat.le_refl _) hbc.size)
  clear hr3 hbc hg4
  by_cases hu : (u == 0) = true
  · go_wp2_with fail
    go_ret
    exact ⟨T, rfl, by omega, hbd⟩
  · have hu' : (u == 0) = false := by simpa using hu
    clear hu u0 u1
    go_wp2_with fail
    refine (pick_c _ hr4 (by omega)).mono ?_; rintro e w5 ⟨k', rfl, k0, k1, hr5, hg5⟩
    obtain ⟨k, rfl⟩ := Int.eq_ofNat_of_zero_le k0
    have hk : k < T.size := by omega
    have hbe := hbd.trans (below_of_gr hg5 (Nat.le_refl _) hbd.size)
    have hk0 : k ≤ T.size := Nat.le_of_lt hk
    have hx0 : (T.extract 0 k).size = k := by rw [ex_size (by omega)]; omega
    clear hr4 hbd hg5 k0 k1
    have hgl := hr5.lt
    have hbL : Below w5.heap.size w5 (w5.alloc (.cells #[.string ⟨#[]⟩, .string ⟨#[48]⟩, .string ⟨#[58]⟩, .string ⟨#[59]⟩, .string ⟨#[45]⟩, .string ⟨#[120]⟩, .string ⟨#[49]⟩] 9)).drew := Below.drew ((Below.refl _ _).alloc (Nat.le_refl _) _)
    have hrL := hr5.below hbL
    have hL : RdT (w5.alloc (.cells #[.string ⟨#[]⟩, .string ⟨#[48]⟩, .string ⟨#[58]⟩, .string ⟨#[59]⟩, .string ⟨#[45]⟩, .string ⟨#[120]⟩, .string ⟨#[49]⟩] 9)).drew (some ⟨w5.heap.size, 0, none⟩) 7 [⟨#[]⟩, ⟨#[48]⟩, ⟨#[58]⟩, ⟨#[59]⟩, ⟨#[45]⟩, ⟨#[120]⟩, ⟨#[49]⟩] :=
      rdT_lit' w5 [⟨#[]⟩, ⟨#[48]⟩, ⟨#[58]⟩, ⟨#[59]⟩, ⟨#[45]⟩, ⟨#[120]⟩, ⟨#[49]⟩] 9 _ 7 rfl rfl (by decide)
    have hLne : ∀ a : Addr, (some ⟨w5.heap.size, 0, none⟩ : Option Addr) = some a → 0 < 7 → a.block ≠ w.heap.size := by
      intro a ha _
      cases ha
      show w5.heap.size ≠ w.heap.size
      omega
    have hbf := hbe.trans (hbL.mono hbe.size)
    have HX0 := Lib.hid hx0
    clear hr5 hbe hbL hx0
    have OFC := Lib.hid (of_c (c := 7) hrL (by omega) hL hLne (by decide))
    clear hL hLne
    go_wp2_with fail
    go_region_with (first | (go_at_call 27; refine OFC.out.mono ?_; rintro e w6 ⟨x, rfl, hx, hr6, hg6⟩; have hxs : x.size ≤ 1 := mem_small (by decide) hx; have g1 := grd2 HX0.out hxs (by omega); clear hx) | (go_at_call 26; refine (pick_c _ hr6 (by omega)).mono ?_; rintro e w7 ⟨m', rfl, m0, m1, hr7, hg7⟩; obtain ⟨m, rfl⟩ := Int.eq_ofNat_of_zero_le m0; have hm : k + m ≤ T.size := (by omega); have wkm : IntKind.i64.wrap ((k : Int) + (m : Int)) = ((k + m : Nat) : Int) := wr_sum (by omega); have hx2 : (T.extract (k + m) T.size).size = T.size - (k + m) := ex_size (Nat.le_refl _); have g3 := grd3 HX0.out hxs hx2 (by omega); clear hx2))
    all_goals
      have hbz := hbf.trans (below_of_gr (hg6.trans hg7) (Nat.le_refl _) hbf.size)
      have hzz : (T.extract 0 k ++ x ++ T.extract (k + m) T.size).size ≤ 1000 := by
        have h1 := HX0.out
        have h2 := ex_size (s := T) (a := k + m) (Nat.le_refl T.size)
        rw [ap_size, ap_size]; omega
      clear wkm OFC
      go_wp2_with fail
      go_ret
      exact ⟨_, rfl, hzz, hbz⟩

end Go.Proofs.YtdedcablhahbnaaDoor
