/- Draws of chapter 8: the generators of the laws. No condition beyond lengths. -/
import Derived.Test.YtklbdkbaldkkpaaDk
import Derived.Test.YtklbdkbaldkkpaaDx
namespace Go.Proofs.Ytklbdkbaldkkpaa
open Go.RowKit

theorem results_tmp4 {fn : Func} {t u v x : Tmp} (h : fn.results = #[.tmp t, .tmp u, .tmp v, .tmp x]) (tmps : Array Value) (P : Program) (w : World) :
    (results fn tmps).run P w = .ok (.tuple #[tmps.getD t undef, tmps.getD u undef, tmps.getD v undef, tmps.getD x undef]) w := by
  simp [results, h]
/-- A cell that is drawn and sometimes spoilt. -/
def OpenCP (w : World) (g p : Nat) (e : Ending) (w' : World) : Prop :=
  ∃ ao n c, ∃ l : List Stn, ∃ q, e = .returned (.slice ao n c) ∧ OwnS w' w.heap.size ao n c l ∧ l.length ≤ 4 ∧ TinyS l ∧ p ≤ q ∧ q ≤ p + 23 ∧ Rdr w' g q ∧ Below g w w'

set_option maxHeartbeats 800000 in
theorem l8Open_c {w : World} {g p : Nat} (h : Rdr w g p) (hp : p ≤ 1073730000) : Calls Try.prog 63 #[.pointer (some ⟨g, 0, none⟩)] w (OpenCP w g p) := by
  have hgl := h.lt
  go_enter Try.func63, Try.ntmps63
  go_wp2_with fail
  refine (l8Some_c h (by omega)).mono ?_; rintro e w1 ⟨ao, n, c, l, q, rfl, ho, hl, ht, hq0, hq1, hr1, hg1⟩
  have hb1 := below_of_gr hg1 (Nat.le_refl g) (by omega)
  clear h hg1
  go_wp2_with fail
  refine (l8Bad_c hr1 (by omega) ho hgl hl ht).mono ?_; rintro e w2 ⟨a2, n2, c2, l2, q2, rfl, ho2, hl2, ht2, hq2, hq3, hr2, hb2⟩
  go_wp2_with fail
  go_ret
  exact ⟨a2, n2, c2, l2, q2, rfl, ho2, hl2, ht2, by omega, by omega, hr2, hb1.trans hb2⟩

/-- A text that is drawn. -/
def TextP (w : World) (g p : Nat) (e : Ending) (w' : World) : Prop :=
  ∃ v : ByteArray, ∃ q, e = .returned (.string v) ∧ v.size ≤ 1000 ∧ p ≤ q ∧ q ≤ p + 2 ∧ Rdr w' g q ∧ w.grownBy w' (some g)

set_option maxHeartbeats 800000 in
theorem l8Which_c {w : World} {g p lo n c : Nat} {ao : Option Addr} {l : List Stn} (h : Rdr w g p) (hp : p ≤ 1073740000) (ho : OwnS w lo ao n c l) (hlo : g < lo) (ht : TinyS l) :
    Calls Try.prog 93 #[.pointer (some ⟨g, 0, none⟩), .slice ao n c] w (TextP w g p) := by
  have HT := Lib.hid ht; clear ht
  have hs := ho.2.1
  by_cases hn0 : 0 < n
  · go_enter Try.func93, Try.ntmps93
    go_wp2_with fail
    refine (pick_c _ h (by omega)).mono ?_; rintro e w1 ⟨u, rfl, u0, u1, hr1, hg1⟩
    have ho1 := ho.gr hg1 hlo
    clear h ho u1
    by_cases hu : 0 < u
    · go_wp2_with fail
      refine (pick_c _ hr1 (by omega)).mono ?_; rintro e w2 ⟨k', rfl, k0, k1, hr2, hg2⟩
      obtain ⟨k, rfl⟩ := Int.eq_ofNat_of_zero_le k0
      have hkn : k < n := by omega
      have ho2 := ho1.gr hg2 hlo
      have hgB := hg1.trans hg2
      obtain ⟨b, off, rfl, hl, hc0, hc1, hc2, hc3⟩ := ho2.rd.at hkn
      clear k0 k1 ho1 ho2 hr1
      go_wp2_with fail
      go_ret
      exact ⟨_, _, rfl, (HT.out _ (List.getElem_mem hl)).1, by omega, by omega, hr2, hgB⟩
    · go_wp2_with fail
      refine (of_lit [⟨#[97]⟩, ⟨#[98]⟩, ⟨#[122]⟩, ⟨#[]⟩, ⟨#[65]⟩] hr1 (by omega) rfl rfl (by decide) (by decide)).mono ?_; rintro e w3 ⟨x, rfl, hx, hr3, hg3⟩
      have hxs : x.size ≤ 1000 := mem_small (by decide) hx
      have hgC := (gr_trans_below hg1 ((Below.refl _ _).alloc (Nat.le_refl w1.heap.size) _)).trans hg3
      clear hx
      go_wp2_with fail
      go_ret
      exact ⟨_, _, rfl, hxs, by omega, by omega, hr3, hgC⟩
  · obtain rfl : n = 0 := by omega
    have hnn : ¬ (0 : Int) < ((0 : Nat) : Int) := by omega
    go_enter Try.func93, Try.ntmps93
    go_wp2_with fail
    refine (of_lit [⟨#[97]⟩, ⟨#[98]⟩, ⟨#[122]⟩, ⟨#[]⟩, ⟨#[65]⟩] h (by omega) rfl rfl (by decide) (by decide)).mono ?_; rintro e w3 ⟨x, rfl, hx, hr3, hg3⟩
    have hxs : x.size ≤ 1000 := mem_small (by decide) hx
    have hgC := (gr_of_below ((Below.refl _ _).alloc (Nat.le_refl w.heap.size) _) (some g)).trans hg3
    clear hx
    go_wp2_with fail
    go_ret
    exact ⟨_, _, rfl, hxs, by omega, by omega, hr3, hgC⟩

set_option maxHeartbeats 800000 in
theorem l8Aim_c {w : World} {g p : Nat} (h : Rdr w g p) (hp : p ≤ 1073740000) : Calls Try.prog 65 #[.pointer (some ⟨g, 0, none⟩)] w (IntP w g p 2 (-1) 9223372036854775807) := by
  go_enter Try.func65, Try.ntmps65
  go_wp2_with fail
  refine (pick_c _ h (by omega)).mono ?_; rintro e w1 ⟨u, rfl, u0, u1, hr1, hg1⟩
  by_cases hu0 : (u == 0) = true
  · go_wp2_with fail
    refine (num_lit [-1, 40, 41, 9223372036854775807] hr1 (by omega) rfl rfl (by decide) (by decide)).mono ?_; rintro e w2 ⟨x, rfl, hx, hr2, hg2⟩
    have hx2 : -1 ≤ x ∧ x ≤ 9223372036854775807 := by simp at hx; omega
    have hgA := (gr_trans_below hg1 ((Below.refl _ _).alloc (Nat.le_refl w1.heap.size) _)).trans hg2
    clear hx
    go_wp2_with fail
    go_ret
    exact ⟨x, _, rfl, hx2.1, hx2.2, by omega, by omega, hr2, hgA⟩
  · have hu0' : (u == 0) = false := by simpa using hu0
    clear hu0
    go_wp2_with fail
    refine (pick_c _ hr1 (by omega)).mono ?_; rintro e w2 ⟨x, rfl, x0, x1, hr2, hg2⟩
    go_wp2_with fail
    go_ret
    exact ⟨x, _, rfl, by omega, by omega, by omega, by omega, hr2, hg1.trans hg2⟩

/-- What the law's walk needs of a list of stations that was drawn. -/
def RdSC (w : World) (ao : Option Addr) (n c : Nat) (l : List Stn) : Prop := RdS w ao n l ∧ n ≤ c ∧ (ao = none → c = 0) ∧ l.length ≤ 4 ∧ TinyS l
theorem RdSC.of {w : World} {lo n c : Nat} {ao : Option Addr} {l : List Stn} (h : OwnS w lo ao n c l) (hl : l.length ≤ 4) (ht : TinyS l) : RdSC w ao n c l := ⟨h.rd, h.cap'.1, h.cap'.2, hl, ht⟩
theorem RdSC.below {w w' : World} {n c : Nat} {ao : Option Addr} {l : List Stn} (h : RdSC w ao n c l) (hb : Below w.heap.size w w') : RdSC w' ao n c l := ⟨h.1.below hb, h.2⟩
def RetSI (w : World) (e : Ending) (w' : World) : Prop :=
  ∃ ao n c, ∃ l : List Stn, ∃ k : Int, e = .returned (.tuple #[.slice ao n c, .int .i64 k]) ∧ RdSC w' ao n c l ∧ -1 ≤ k ∧ k ≤ 9223372036854775807 ∧ Below w.heap.size w w'
def RetST (w : World) (e : Ending) (w' : World) : Prop :=
  ∃ ao n c, ∃ l : List Stn, ∃ t : ByteArray, e = .returned (.tuple #[.slice ao n c, .string t]) ∧ RdSC w' ao n c l ∧ t.size ≤ 1000 ∧ Below w.heap.size w w'
def RetSTII (w : World) (e : Ending) (w' : World) : Prop :=
  ∃ ao n c, ∃ l : List Stn, ∃ t : ByteArray, ∃ d k : Int, e = .returned (.tuple #[.slice ao n c, .string t, .int .i64 d, .int .i64 k]) ∧ RdSC w' ao n c l ∧ t.size ≤ 1000 ∧ (-1 ≤ d ∧ d ≤ 7) ∧ (0 ≤ k ∧ k ≤ 21) ∧ Below w.heap.size w w'

set_option maxHeartbeats 800000 in
theorem DrawPowerStep_c {w : World} {ao : Option Addr} {n c : Nat} (h : CodeW w ao n c) : Calls Try.prog 39 #[.slice ao n c] w (RetSI w) := by
  obtain ⟨lb, hR, hcap, hby⟩ := h
  go_enter Try.func39, Try.ntmps39
  go_wp2_with fail
  refine (l9Open_c hR hcap hby).mono ?_; rintro e w1 ⟨rfl, hr1, hb1⟩
  have hz1 := hb1.size
  clear hR hby
  go_wp2_with fail
  refine (l8Open_c hr1 (by omega)).mono ?_; rintro e w2 ⟨a1, n1, c1, l1, q1, rfl, ho1, h4, ht, hq0, hq1, hr2, hb2⟩
  have hgl := hr1.lt
  have hbb := hb1.trans hb2
  clear hr1 hb1 hb2
  go_wp2_with fail
  refine (l8Aim_c hr2 (by omega)).mono ?_; rintro e w3 ⟨k, q3, rfl, hk0, hk1, hq4, hq5, hr3, hg3⟩
  have ho3 := ho1.gr hg3 hgl
  have hbc := hbb.trans (below_of_gr hg3 (Nat.le_refl _) hbb.size)
  clear ho1 hg3 hbb hr2
  go_wp2_with fail
  go_ret2
  exact ⟨a1, n1, c1, l1, k, rfl, RdSC.of ho3 h4 ht, hk0, hk1, hbc⟩

set_option maxHeartbeats 400000 in
theorem DrawPowerTime_c {w : World} {ao : Option Addr} {n c : Nat} (h : CodeW w ao n c) : Calls Try.prog 30 #[.slice ao n c] w (RetSI w) := by
  go_enter Try.func30, Try.ntmps30
  go_wp2_with fail
  refine (DrawPowerStep_c h).mono ?_; rintro e w1 ⟨a1, n1, c1, l1, k, rfl, hS, hk0, hk1, hb⟩
  go_wp2_with fail
  go_ret2
  exact ⟨a1, n1, c1, l1, k, rfl, hS, hk0, hk1, hb⟩

set_option maxHeartbeats 800000 in
theorem DrawReleaseStation_c {w : World} {ao : Option Addr} {n c : Nat} (h : CodeW w ao n c) : Calls Try.prog 43 #[.slice ao n c] w (RetST w) := by
  obtain ⟨lb, hR, hcap, hby⟩ := h
  go_enter Try.func43, Try.ntmps43
  go_wp2_with fail
  refine (l9Open_c hR hcap hby).mono ?_; rintro e w1 ⟨rfl, hr1, hb1⟩
  have hz1 := hb1.size
  clear hR hby
  go_wp2_with fail
  refine (l8Open_c hr1 (by omega)).mono ?_; rintro e w2 ⟨a1, n1, c1, l1, q1, rfl, ho1, h4, ht, hq0, hq1, hr2, hb2⟩
  have hgl := hr1.lt
  have hbb := hb1.trans hb2
  clear hr1 hb1 hb2
  go_wp2_with fail
  refine (l8Which_c hr2 (by omega) ho1 hgl ht).mono ?_; rintro e w3 ⟨v, q3, rfl, hv, hq4, hq5, hr3, hg3⟩
  have ho3 := ho1.gr hg3 hgl
  have hbc := hbb.trans (below_of_gr hg3 (Nat.le_refl _) hbb.size)
  clear ho1 hg3 hbb hr2
  go_wp2_with fail
  go_ret2
  exact ⟨a1, n1, c1, l1, v, rfl, RdSC.of ho3 h4 ht, hv, hbc⟩

set_option maxRecDepth 100000 in
set_option maxHeartbeats 1600000 in
theorem DrawAdmitStation_c {w : World} {ao : Option Addr} {n c : Nat} (h : CodeW w ao n c) : Calls Try.prog 34 #[.slice ao n c] w (RetSTII w) := by
  obtain ⟨lb, hR, hcap, hby⟩ := h
  go_enter Try.func34, Try.ntmps34
  go_wp2_with fail
  refine (l9Open_c hR hcap hby).mono ?_; rintro e w1 ⟨rfl, hr1, hb1⟩
  have hz1 := hb1.size
  clear hR hby
  go_wp2_with fail
  refine (l8Open_c hr1 (by omega)).mono ?_; rintro e w2 ⟨a1, n1, c1, l1, q1, rfl, ho1, h4, ht, hq0, hq1, hr2, hb2⟩
  have hgl := hr1.lt
  have hbb := hb1.trans hb2
  clear hr1 hb1 hb2
  go_wp2_with fail
  refine (pick_c _ hr2 (by omega)).mono ?_; rintro e w3 ⟨d, rfl, d0, d1, hr3, hg3⟩
  have d2 : d ≤ 4 := by omega
  have ho3 := ho1.gr hg3 hgl
  have hbc := hbb.trans (below_of_gr hg3 (Nat.le_refl _) hbb.size)
  clear ho1 hg3 hbb hr2 d1
  go_wp2_with fail
  refine (pick_c _ hr3 (by omega)).mono ?_; rintro e w4 ⟨m, rfl, m0, m1, hr4, hg4⟩
  have m2 : m ≤ 5 := by omega
  have ho4 := ho3.gr hg4 hgl
  have hbd := hbc.trans (below_of_gr hg4 (Nat.le_refl _) hbc.size)
  clear ho3 hg4 hbc hr3 m1
  go_wp2_with fail
  refine (pick_c _ hr4 (by omega)).mono ?_; rintro e w5 ⟨u, rfl, u0, u1, hr5, hg5⟩
  have ho5 := ho4.gr hg5 hgl
  have hbe := hbd.trans (below_of_gr hg5 (Nat.le_refl _) hbd.size)
  clear ho4 hg5 hbd hr4 u1
  by_cases hu0 : (u == 0) = true
  · go_wp2_with fail
    refine (num_lit [-1, 0, 7] hr5 (by omega) rfl rfl (by decide) (by decide)).mono ?_; rintro e w6 ⟨y, rfl, hy, hr6, hg6⟩
    have hy2 : -1 ≤ y ∧ y ≤ 7 := by simp at hy; omega
    have ho6 := (ho5.below ((Below.refl _ _).alloc (Nat.le_refl w5.heap.size) _)).gr hg6 hgl
    have hbf := hbe.trans (below_of_gr ((gr_of_below ((Below.refl _ _).alloc (Nat.le_refl w5.heap.size) _) _).trans hg6) (Nat.le_refl _) hbe.size)
    clear hy ho5 hbe hg6 hr5
    go_wp2_with fail
    refine (of_lit [⟨#[110]⟩, ⟨#[109]⟩, ⟨#[97]⟩, ⟨#[110, 101, 119]⟩, ⟨#[]⟩, ⟨#[66]⟩] hr6 (by omega) rfl rfl (by decide) (by decide)).mono ?_; rintro e w8 ⟨x, rfl, hx, hr8, hg8⟩
    have hxs : x.size ≤ 1000 := mem_small (by decide) hx
    have ho8 := (ho6.below ((Below.refl _ _).alloc (Nat.le_refl w6.heap.size) _)).gr hg8 hgl
    have hbz := hbf.trans (below_of_gr ((gr_of_below ((Below.refl _ _).alloc (Nat.le_refl w6.heap.size) _) _).trans hg8) (Nat.le_refl _) hbf.size)
    clear hx ho6 hbf hg8 hr6
    go_wp2_with fail
    refine bodyPost_ret (results_tmp4 rfl _ _ _) rfl ?_
    exact ⟨a1, n1, c1, l1, x, _, _, rfl, RdSC.of ho8 h4 ht, hxs, hy2, by omega, hbz⟩
  · have hu0' : (u == 0) = false := by simpa using hu0
    clear hu0
    by_cases hu1 : (u == 1) = true
    · go_wp2_with fail
      refine (num_lit [0, 20, 21] hr5 (by omega) rfl rfl (by decide) (by decide)).mono ?_; rintro e w6 ⟨y, rfl, hy, hr6, hg6⟩
      have hy2 : 0 ≤ y ∧ y ≤ 21 := by simp at hy; omega
      have ho6 := (ho5.below ((Below.refl _ _).alloc (Nat.le_refl w5.heap.size) _)).gr hg6 hgl
      have hbf := hbe.trans (below_of_gr ((gr_of_below ((Below.refl _ _).alloc (Nat.le_refl w5.heap.size) _) _).trans hg6) (Nat.le_refl _) hbe.size)
      clear hy ho5 hbe hg6 hr5
      go_wp2_with fail
      refine (of_lit [⟨#[110]⟩, ⟨#[109]⟩, ⟨#[97]⟩, ⟨#[110, 101, 119]⟩, ⟨#[]⟩, ⟨#[66]⟩] hr6 (by omega) rfl rfl (by decide) (by decide)).mono ?_; rintro e w8 ⟨x, rfl, hx, hr8, hg8⟩
      have hxs : x.size ≤ 1000 := mem_small (by decide) hx
      have ho8 := (ho6.below ((Below.refl _ _).alloc (Nat.le_refl w6.heap.size) _)).gr hg8 hgl
      have hbz := hbf.trans (below_of_gr ((gr_of_below ((Below.refl _ _).alloc (Nat.le_refl w6.heap.size) _) _).trans hg8) (Nat.le_refl _) hbf.size)
      clear hx ho6 hbf hg8 hr6
      go_wp2_with fail
      refine bodyPost_ret (results_tmp4 rfl _ _ _) rfl ?_
      exact ⟨a1, n1, c1, l1, x, _, _, rfl, RdSC.of ho8 h4 ht, hxs, by omega, hy2, hbz⟩
    · have hu1' : (u == 1) = false := by simpa using hu1
      clear hu1
      go_wp2_with fail
      refine (of_lit [⟨#[110]⟩, ⟨#[109]⟩, ⟨#[97]⟩, ⟨#[110, 101, 119]⟩, ⟨#[]⟩, ⟨#[66]⟩] hr5 (by omega) rfl rfl (by decide) (by decide)).mono ?_; rintro e w8 ⟨x, rfl, hx, hr8, hg8⟩
      have hxs : x.size ≤ 1000 := mem_small (by decide) hx
      have ho8 := (ho5.below ((Below.refl _ _).alloc (Nat.le_refl w5.heap.size) _)).gr hg8 hgl
      have hbz := hbe.trans (below_of_gr ((gr_of_below ((Below.refl _ _).alloc (Nat.le_refl w5.heap.size) _) _).trans hg8) (Nat.le_refl _) hbe.size)
      clear hx ho5 hbe hg8 hr5
      go_wp2_with fail
      refine bodyPost_ret (results_tmp4 rfl _ _ _) rfl ?_
      exact ⟨a1, n1, c1, l1, x, _, _, rfl, RdSC.of ho8 h4 ht, hxs, by omega, by omega, hbz⟩

end Go.Proofs.Ytklbdkbaldkkpaa
