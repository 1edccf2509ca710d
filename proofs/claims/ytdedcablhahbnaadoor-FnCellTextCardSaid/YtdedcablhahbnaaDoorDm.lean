/- Draws of chapter 8: cells that are drawn (l8Some, l8Bad, l8Open), names and targets. No condition beyond lengths. -/
import Derived.Test.YtdedcablhahbnaaDoorDr
import Derived.Test.YtdedcablhahbnaaDoorAm
import Derived.Test.YtdedcablhahbnaaDoorLc
import Derived.Test.YtdedcablhahbnaaDoorDx
namespace Go.Proofs.YtdedcablhahbnaaDoor
open Go.RowKit

/-- What a draw out of a list of texts leaves. -/
def OfP (w : World) (g p : Nat) (l : List ByteArray) (e : Ending) (w' : World) : Prop :=
  ∃ v : ByteArray, e = .returned (.string v) ∧ v ∈ l ∧ Rdr w' g (p + 1) ∧ w.grownBy w' (some g)

set_option maxHeartbeats 800000 in
theorem of_c {w : World} {g p n c : Nat} {ao : Option Addr} {l : List ByteArray} (h : Rdr w g p) (hp : p ≤ 1073741824) (hR : RdT w ao n l) (hne : ∀ a, ao = some a → 0 < n → a.block ≠ g) (hn : 0 < n) :
    Calls Tryd.prog 27 #[.pointer (some ⟨g, 0, none⟩), .slice ao n c] w (OfP w g p l) := by
  have hs := hR.2.1
  go_enter Tryd.func27, Tryd.ntmps27
  go_wp2_with fail
  refine (pick_c _ h hp).mono ?_; rintro e w1 ⟨v, rfl, h0, h1, hr1, hg1⟩
  obtain ⟨k, rfl⟩ := Int.eq_ofNat_of_zero_le h0
  have hk : k < n := by omega
  obtain ⟨b, off, rfl, hl, hc⟩ := (hR.gr hg1 hne).at hk
  clear h1
  go_wp2_with fail
  go_ret
  exact ⟨_, rfl, List.getElem_mem hl, hr1, hg1⟩

theorem rdT_lit' (w : World) (l : List ByteArray) (t : TypeId) (b n : Nat) (hb : b = w.heap.size) (hn : n = l.length) (hs : l.length ≤ 1099511627776) : RdT (w.alloc (.cells (l.map Value.string).toArray t)) (some ⟨b, 0, none⟩) n l := by
  subst hb hn
  refine ⟨rfl, hs, fun i hi => ⟨w.heap.size, 0, rfl, ?_⟩⟩
  rw [Nat.zero_add]
  exact (Box.new w _ t).cell (by simp [hi])

theorem of_lit {w : World} {g p n b c : Nat} {t : TypeId} (l : List ByteArray) (h : Rdr w g p) (hp : p ≤ 1073741824) (hb : b = w.heap.size) (hn : n = l.length) (hs : l.length ≤ 1099511627776) (hn0 : 0 < n) :
    Calls Tryd.prog 27 #[.pointer (some ⟨g, 0, none⟩), .slice (some ⟨b, 0, none⟩) n c] (w.alloc (.cells (l.map Value.string).toArray t)) (OfP (w.alloc (.cells (l.map Value.string).toArray t)) g p l) := by
  refine of_c (h.alloc _) hp (rdT_lit' w l t b n hb hn hs) ?_ hn0
  intro a ha
  cases ha
  have := h.lt
  intro _
  show b ≠ g
  omega

/-- Stations with short texts. -/
def TinyS (l : List Stn) : Prop := ∀ s ∈ l, s.nm.size ≤ 1000 ∧ s.ph.size ≤ 1000
theorem TinyS.big {l : List Stn} (h : TinyS l) : ∀ i (hi : i < l.length), (l[i]'hi).nm.size ≤ 1099511627776 ∧ (l[i]'hi).ph.size ≤ 1099511627776 := by
  intro i hi
  have := h _ (List.getElem_mem hi)
  omega
theorem TinyS.nil : TinyS [] := fun s hs => by cases hs
theorem TinyS.set {l : List Stn} (h : TinyS l) (k : Nat) {s : Stn} (hs : s.nm.size ≤ 1000 ∧ s.ph.size ≤ 1000) : TinyS (l.set k s) := by
  intro x hx
  rcases List.mem_or_eq_of_mem_set hx with hx | rfl
  · exact h x hx
  · exact hs
theorem allocR_size {u : List ByteArray} {d : Int} {p : ByteArray} (h : allocR u d = some p) : p.size ≤ 6 := by
  unfold allocR at h
  split at h
  · rename_i hd
    have hd' := inB_iff.1 hd
    have hm := List.mem_of_mem_head? h
    unfold freeL at hm
    rw [List.mem_filter, List.mem_map] at hm
    obtain ⟨⟨n, _, rfl⟩, _⟩ := hm
    rw [binT_size]; omega
  · cases h
theorem admR_some {l l' : List Stn} {nm : ByteArray} {d loss : Int} (h : admR l nm d loss = some l') : ∃ p, l' = l ++ [⟨nm, p, 1, loss⟩] ∧ p.size ≤ 6 := by
  unfold admR at h
  split at h
  · cases ha : allocR (l.map Stn.ph) d with
    | none => rw [ha] at h; cases h
    | some p => rw [ha] at h; simp at h; exact ⟨p, h.symm, allocR_size ha⟩
  · cases h
theorem TinyS.snoc {l : List Stn} (h : TinyS l) {s : Stn} (hs : s.nm.size ≤ 1000 ∧ s.ph.size ≤ 1000) : TinyS (l ++ [s]) := by
  intro x hx
  rcases List.mem_append.1 hx with hx | hx
  · exact h x hx
  · rw [List.mem_singleton] at hx; subst hx; exact hs
theorem OwnS.gr {w w' : World} {g lo n c : Nat} {ao : Option Addr} {l : List Stn} (h : OwnS w lo ao n c l) (hg : w.grownBy w' (some g)) (hlt : g < lo) : OwnS w' lo ao n c l := ⟨h.1, h.2.1, ownsRow_gr h.2.2 hg hlt⟩

theorem cellB_nil' : cellB [] = true := by decide
/-- A cell that is drawn. -/
def SomeCellP (w : World) (g p : Nat) (e : Ending) (w' : World) : Prop :=
  ∃ ao n c, ∃ l : List Stn, ∃ q, e = .returned (.slice ao n c) ∧ OwnS w' w.heap.size ao n c l ∧ l.length ≤ 4 ∧ TinyS l ∧ p ≤ q ∧ q ≤ p + 20 ∧ Rdr w' g q ∧ w.grownBy w' (some g) ∧ cellB l = true
theorem mem_small {l : List ByteArray} {v : ByteArray} {m : Nat} (h : l.all (fun s => decide (s.size ≤ m)) = true) (hv : v ∈ l) : v.size ≤ m := by
  rw [List.all_eq_true] at h; exact of_decide_eq_true (h v hv)
theorem RetSB.some {w w' : World} {l : List Stn} {e : Ending} (h : RetSB w (some l) e w') : ∃ ao n c, e = .returned (.tuple #[.slice ao n c, .bool true]) ∧ OwnS w' w.heap.size ao n c l ∧ Below w.heap.size w w' := h
theorem RetSB.none {w w' : World} {e : Ending} (h : RetSB w none e w') : ∃ ao n c, e = .returned (.tuple #[.slice ao n c, .bool false]) ∧ OwnS w' w.heap.size ao n c [] ∧ Below w.heap.size w w' := h
theorem OwnS.base {w : World} {lo n c : Nat} {ao : Option Addr} {l : List Stn} (h : OwnS w lo ao n c l) (hn : 0 < n) : ∃ b, ao = some ⟨b, 0, none⟩ ∧ lo ≤ b := by
  rcases h.2.2.2 with ⟨h1, h2⟩ | ⟨g, cap, cur, hv, hg, _⟩
  · have := h.1; omega
  · cases hv; exact ⟨g, rfl, hg⟩
/-- A gain that is stored. -/
theorem OwnS.setG {w : World} {lo b n c k : Nat} {l : List Stn} (h : OwnS w lo (some ⟨b, 0, none⟩) n c l) (hk : k < l.length) (x : Int) : OwnS (w.setCell ⟨b, k * 4 + 2, none⟩ (.int .i64 x)) lo (some ⟨b, 0, none⟩) n c (l.set k ⟨l[k].nm, l[k].ph, x, l[k].l⟩) := by
  refine ⟨by rw [List.length_set]; exact h.1, h.2.1, ?_⟩
  rw [← cellsS_setG hk]
  exact (h.2.2.stored (k * 4 + 2) (.int .i64 x)).1

set_option maxRecDepth 100000 in
set_option maxHeartbeats 1600000 in
theorem l8Some_c {w : World} {g p : Nat} (h : Rdr w g p) (hp : p ≤ 1073740000) : Calls Tryd.prog 25 #[.pointer (some ⟨g, 0, none⟩)] w (SomeCellP w g p) := by
  have hgl := h.lt
  have ho0 : OwnVS (w.alloc (.cells #[] 37)) w.heap.size (.slice (some ⟨w.heap.size, 0, none⟩) 0 0) [] := OwnVS.made0 w (Nat.le_refl _)
  have hr0 := h.alloc (.cells #[] 37)
  have hg0 := gr_of_below ((Below.refl _ _).alloc (Nat.le_refl w.heap.size) (.cells #[] 37)) (some g)
  clear h
  go_enter Tryd.func25, Tryd.ntmps25
  go_wp2_with fail
  refine (pick_c _ hr0 (by omega)).mono ?_; rintro e w3 ⟨m, rfl, m0, m1, hr4, hg4⟩
  have hgD := hg0.trans hg4
  have ho1 : OwnS w3 w.heap.size (some ⟨w.heap.size, 0, none⟩) 0 0 [] := ⟨rfl, by omega, ownsRow_gr ho0 hg4 hgl⟩
  clear hg4 hr0 ho0 hg0
  go_wp2_with fail
  go_loopw [3, 4] (fun v i wr => ∃ (k : Nat) (ao : Option Addr) (n c : Nat) (l : List Stn), i = .int .i64 (k : Nat) ∧ v = .slice ao n c ∧ l.length + k ≤ 4 ∧ TinyS l ∧ OwnS wr w.heap.size ao n c l ∧ (∃ q, Rdr wr g q ∧ p ≤ q ∧ q + 4 * k ≤ p + 17) ∧ w.grownBy wr (some g) ∧ Hid (cellB l = true)) (fun _ i _ => (intOf i).toNat)
  case atStart =>
    obtain ⟨k, hk⟩ := Int.eq_ofNat_of_zero_le m0
    exact ⟨k, _, _, _, [], by rw [hk], rfl, by simp; omega, TinyS.nil, ho1, ⟨_, hr4, by omega, by omega⟩, hgD, Lib.hid cellB_nil'⟩
  case round =>
    clear ho1 hr4 hgD m0 m1
    obtain ⟨k, ao, n, c, l, rfl, rfl, hlk, ht, ho, ⟨q, hr, hq0, hq1⟩, hg, HCB⟩ := hrel
    have HT := Lib.hid ht; clear ht
    have hz := hg.size
    by_cases hk0 : 0 < k
    · go_wp2_with fail
      refine (of_lit [⟨#[97]⟩, ⟨#[98]⟩, ⟨#[97, 98]⟩, ⟨#[99]⟩, ⟨#[108, 111, 110, 103]⟩, ⟨#[120]⟩, ⟨#[121]⟩] hr (by omega) rfl rfl (by decide) (by decide)).mono ?_; rintro e w4 ⟨nm, rfl, hnm, hr5, hg5⟩
      have hns : nm.size ≤ 4 := mem_small (by decide) hnm
      have ho2 := (ho.below ((Below.refl _ _).alloc (Nat.le_refl wr.heap.size) _)).gr hg5 hgl
      have hgE := (gr_trans_below hg ((Below.refl _ _).alloc (Nat.le_refl wr.heap.size) _)).trans hg5
      clear hnm ho hg hg5 hr
      go_wp2_with fail
      refine (pick_c _ hr5 (by omega)).mono ?_; rintro e w5 ⟨u, rfl, u0, u1, hr6, hg6⟩
      have u2 : u ≤ 3 := by omega
      have ho3 := ho2.gr hg6 hgl
      have hgF := hgE.trans hg6
      clear u1 ho2 hgE hg6 hr5
      go_wp2_with fail
      refine (pick_c _ hr6 (by omega)).mono ?_; rintro e w6 ⟨v, rfl, v0, v1, hr7, hg7⟩
      have v2 : v ≤ 5 := by omega
      have ho4 := ho3.gr hg7 hgl
      have hgG := hgF.trans hg7
      have hzG := hgG.size
      clear v1 ho3 hgF hg7 hr6
      cases hA : admR l nm (1 + u) (1 + v) with
      | none =>
        have HA := Lib.hid hA; clear hA
        go_wp2_with fail
        refine (sAdmitStation_c nm (1 + u) (1 + v) ho4.rd ho4.cap'.2 (by omega) HT.out.big).mono ?_; rintro e w7 hret
        rw [HA.out] at hret; obtain ⟨a2, n2, c2, rfl, _, hb7⟩ := hret.none
        have ho5 := ho4.below hb7
        have hr8 := hr7.below hb7
        have hgH := gr_trans_below hgG hb7
        clear ho4 hb7 hr7 hgG
        go_wp2_with fail
        go_roundw
        case rel => exact ⟨k - 1, ao, n, c, l, by go_num, rfl, by omega, HT.out, ho5, ⟨_, hr8, by omega, by omega⟩, hgH, HCB⟩
        case measure => simp [intOf]; omega
      | some l' =>
        obtain ⟨ph, hl', hph⟩ := admR_some hA
        have HCB' := Lib.hid (adm_cell hA)
        have HA := Lib.hid hA; clear hA
        have hll : l'.length = l.length + 1 := by rw [hl']; simp
        have HT' := Lib.hid (show TinyS l' by rw [hl']; exact HT.out.snoc (by show nm.size ≤ 1000 ∧ ph.size ≤ 1000; omega))
        clear hl'
        go_wp2_with fail
        refine (sAdmitStation_c nm (1 + u) (1 + v) ho4.rd ho4.cap'.2 (by omega) HT.out.big).mono ?_; rintro e w7 hret
        rw [HA.out] at hret; obtain ⟨a2, n2, c2, rfl, ho5', hb7⟩ := hret.some
        have hr8 := hr7.below hb7
        have hgH := gr_trans_below hgG hb7
        have ho5 := ho5'.mono hzG
        have HN := Lib.hid ho5.1
        have hn0 : 0 < n2 := by have := HN.out; omega
        obtain ⟨b, rfl, hbb⟩ := ho5.base hn0
        obtain ⟨k2, hk2⟩ : ∃ k2 : Nat, (n2 : Int) - 1 = (k2 : Int) := ⟨n2 - 1, by omega⟩
        have hk2n : k2 < n2 := by omega
        have hk2l : k2 < l'.length := by have := HN.out; omega
        have hn4 : n2 ≤ 5 := by have := HN.out; omega
        have HLL := Lib.hid hll
        clear ho4 hb7 hr7 hgG ho5' hll
        go_wp2_with fail
        refine (pick_c _ hr8 (by omega)).mono ?_; rintro e w8 ⟨x, rfl, x0, x1, hr9, hg9⟩
        have HX1 := Lib.hid (show x ≤ 1000 by omega)
        have ho6 := ho5.gr hg9 hgl
        have hgI := hgH.trans hg9
        obtain ⟨⟨y0, y1, y2, y3, f0, f1, f2, f3⟩, g0, g1, g2, g3⟩ := ownS_cells ho6.2.2 hk2n
        have ho7 := ho6.setG hk2l x
        have hr10 := hr9.farGt (gr_set (w := w8) b (k2 * 4 + 2) (.int .i64 x)) (show g < b by omega)
        have hgJ := gr_setNew hgI hbb (k2 * 4 + 2) (.int .i64 x)
        clear ho5 hg9 hgH ho6 hgI hr8 hr9
        go_wp2_with fail
        go_roundw
        case rel =>
          refine ⟨k - 1, _, _, _, _, by go_num, rfl, ?_, ?_, ho7, ⟨_, hr10, by omega, by omega⟩, hgJ, Lib.hid (cellB_setG HCB'.out hk2l ⟨x0, HX1.out⟩)⟩
          · rw [List.length_set, HLL.out]; omega
          · exact HT'.out.set k2 (show l'[k2].nm.size ≤ 1000 ∧ l'[k2].ph.size ≤ 1000 from HT'.out _ (List.getElem_mem hk2l))
        case measure => simp [intOf]; omega
    · obtain rfl : k = 0 := by omega
      go_wp2_with fail
      go_ret
      exact ⟨ao, n, c, l, q, rfl, ho, by omega, HT.out, hq0, by omega, hr, hg, HCB.out⟩

/-- Texts of a station that are stored. -/
theorem cellsS_setN {l : List Stn} {k : Nat} (hk : k < l.length) (y : ByteArray) : (cellsS l).set (k * 4) (.string y) = cellsS (l.set k ⟨y, l[k].ph, l[k].g, l[k].l⟩) := by
  apply List.ext_getElem?
  intro j
  obtain ⟨i, r, hr, rfl⟩ : ∃ i r, r < 4 ∧ j = i * 4 + r := ⟨j / 4, j % 4, Nat.mod_lt _ (by omega), by omega⟩
  rw [cellsS_get _ _ _ hr, List.getElem?_set, cellsS_get _ _ _ hr]
  simp only [cellsS_len, List.getElem?_set]
  by_cases h : k = i
  · subst h
    rw [if_pos rfl, if_pos hk]
    rcases (by omega : r = 0 ∨ r = 1 ∨ r = 2 ∨ r = 3) with rfl | rfl | rfl | rfl
    · rw [if_pos (by omega), if_pos (by omega)]; rfl
    · rw [if_neg (by omega)]; simp [hk, Stn.vals]
    · rw [if_neg (by omega)]; simp [hk, Stn.vals]
    · rw [if_neg (by omega)]; simp [hk, Stn.vals]
  · rw [if_neg h, if_neg (by omega)]
theorem cellsS_setP {l : List Stn} {k : Nat} (hk : k < l.length) (y : ByteArray) : (cellsS l).set (k * 4 + 1) (.string y) = cellsS (l.set k ⟨l[k].nm, y, l[k].g, l[k].l⟩) := by
  apply List.ext_getElem?
  intro j
  obtain ⟨i, r, hr, rfl⟩ : ∃ i r, r < 4 ∧ j = i * 4 + r := ⟨j / 4, j % 4, Nat.mod_lt _ (by omega), by omega⟩
  rw [cellsS_get _ _ _ hr, List.getElem?_set, cellsS_get _ _ _ hr]
  simp only [cellsS_len, List.getElem?_set]
  by_cases h : k = i
  · subst h
    rw [if_pos rfl, if_pos hk]
    rcases (by omega : r = 0 ∨ r = 1 ∨ r = 2 ∨ r = 3) with rfl | rfl | rfl | rfl
    · rw [if_neg (by omega)]; simp [hk, Stn.vals]
    · rw [if_pos (by omega), if_pos (by omega)]; rfl
    · rw [if_neg (by omega)]; simp [hk, Stn.vals]
    · rw [if_neg (by omega)]; simp [hk, Stn.vals]
  · rw [if_neg h, if_neg (by omega)]
theorem cellsS_setL {l : List Stn} {k : Nat} (hk : k < l.length) (y : Int) : (cellsS l).set (k * 4 + 3) (.int .i64 y) = cellsS (l.set k ⟨l[k].nm, l[k].ph, l[k].g, y⟩) := by
  apply List.ext_getElem?
  intro j
  obtain ⟨i, r, hr, rfl⟩ : ∃ i r, r < 4 ∧ j = i * 4 + r := ⟨j / 4, j % 4, Nat.mod_lt _ (by omega), by omega⟩
  rw [cellsS_get _ _ _ hr, List.getElem?_set, cellsS_get _ _ _ hr]
  simp only [cellsS_len, List.getElem?_set]
  by_cases h : k = i
  · subst h
    rw [if_pos rfl, if_pos hk]
    rcases (by omega : r = 0 ∨ r = 1 ∨ r = 2 ∨ r = 3) with rfl | rfl | rfl | rfl
    · rw [if_neg (by omega)]; simp [hk, Stn.vals]
    · rw [if_neg (by omega)]; simp [hk, Stn.vals]
    · rw [if_neg (by omega)]; simp [hk, Stn.vals]
    · rw [if_pos (by omega), if_pos (by omega)]; rfl
  · rw [if_neg h, if_neg (by omega)]
theorem OwnS.setN {w : World} {lo b n c k : Nat} {l : List Stn} (h : OwnS w lo (some ⟨b, 0, none⟩) n c l) (hk : k < l.length) (x : ByteArray) : OwnS (w.setCell ⟨b, k * 4, none⟩ (.string x)) lo (some ⟨b, 0, none⟩) n c (l.set k ⟨x, l[k].ph, l[k].g, l[k].l⟩) := by
  refine ⟨by rw [List.length_set]; exact h.1, h.2.1, ?_⟩
  rw [← cellsS_setN hk]
  exact (h.2.2.stored (k * 4) (.string x)).1
theorem OwnS.setP {w : World} {lo b n c k : Nat} {l : List Stn} (h : OwnS w lo (some ⟨b, 0, none⟩) n c l) (hk : k < l.length) (x : ByteArray) : OwnS (w.setCell ⟨b, k * 4 + 1, none⟩ (.string x)) lo (some ⟨b, 0, none⟩) n c (l.set k ⟨l[k].nm, x, l[k].g, l[k].l⟩) := by
  refine ⟨by rw [List.length_set]; exact h.1, h.2.1, ?_⟩
  rw [← cellsS_setP hk]
  exact (h.2.2.stored (k * 4 + 1) (.string x)).1
theorem OwnS.setL {w : World} {lo b n c k : Nat} {l : List Stn} (h : OwnS w lo (some ⟨b, 0, none⟩) n c l) (hk : k < l.length) (x : Int) : OwnS (w.setCell ⟨b, k * 4 + 3, none⟩ (.int .i64 x)) lo (some ⟨b, 0, none⟩) n c (l.set k ⟨l[k].nm, l[k].ph, l[k].g, x⟩) := by
  refine ⟨by rw [List.length_set]; exact h.1, h.2.1, ?_⟩
  rw [← cellsS_setL hk]
  exact (h.2.2.stored (k * 4 + 3) (.int .i64 x)).1

/-- What l8Bad leaves: only the reader and blocks from lo on may have turned. -/
def BadCP (w : World) (g p lo : Nat) (e : Ending) (w' : World) : Prop :=
  ∃ a2 n2 c2, ∃ l2 : List Stn, ∃ q, e = .returned (.slice a2 n2 c2) ∧ OwnS w' lo a2 n2 c2 l2 ∧ l2.length ≤ 4 ∧ TinyS l2 ∧ p ≤ q ∧ q ≤ p + 3 ∧ Rdr w' g q ∧ Below g w w'

set_option maxRecDepth 100000 in
set_option maxHeartbeats 1600000 in
theorem l8Bad_c {w : World} {g p lo n c : Nat} {ao : Option Addr} {l : List Stn} (h : Rdr w g p) (hp : p ≤ 1073740000) (ho : OwnS w lo ao n c l) (hlo : g < lo) (hl : l.length ≤ 4) (ht : TinyS l) :
    Calls Tryd.prog 31 #[.pointer (some ⟨g, 0, none⟩), .slice ao n c] w (BadCP w g p lo) := by
  have hgl := h.lt
  have HN := Lib.hid ho.1
  have hn4 : n ≤ 4 := by have := HN.out; omega
  have HT := Lib.hid ht; clear ht
  by_cases hn0 : 0 < n
  · have hne : ((n : Int) == 0) = false := by simp; omega
    obtain ⟨b, rfl, hbb⟩ := ho.base hn0
    go_enter Tryd.func31, Tryd.ntmps31
    go_wp2_with fail
    refine (pick_c _ h (by omega)).mono ?_; rintro e w1 ⟨k', rfl, k0, k1, hr1, hg1⟩
    obtain ⟨k, rfl⟩ := Int.eq_ofNat_of_zero_le k0
    have hkn : k < n := by omega
    have hkl : k < l.length := by have := HN.out; omega
    have HTK := Lib.hid (show l[k].nm.size ≤ 1000 ∧ l[k].ph.size ≤ 1000 from HT.out _ (List.getElem_mem hkl))
    have ho1 := ho.gr hg1 hlo
    clear h ho k1 k0
    go_wp2_with fail
    refine (pick_c _ hr1 (by omega)).mono ?_; rintro e w2 ⟨u, rfl, u0, u1, hr2, hg2⟩
    have ho2 := ho1.gr hg2 hlo
    have hgB := hg1.trans hg2
    have hzB := hgB.size
    clear ho1 hr1 hg1 hg2
    by_cases hu0 : (u == 0) = true
    · go_wp2_with fail
      refine (of_lit [⟨#[]⟩, ⟨#[65]⟩, ⟨#[97]⟩, ⟨#[97, 98, 99, 100, 101, 102, 103, 104, 105]⟩] hr2 (by omega) rfl rfl (by decide) (by decide)).mono ?_; rintro e w3 ⟨x, rfl, hx, hr3, hg3⟩
      have hxs : x.size ≤ 1000 := mem_small (by decide) hx
      have ho3 := (ho2.below ((Below.refl _ _).alloc (Nat.le_refl w2.heap.size) _)).gr hg3 hlo
      have hgC := (gr_trans_below hgB ((Below.refl _ _).alloc (Nat.le_refl w2.heap.size) _)).trans hg3
      obtain ⟨⟨y0, y1, y2, y3, f0, f1, f2, f3⟩, g0, g1, g2, g3⟩ := ownS_cells ho3.2.2 hkn
      have ho4 := ho3.setN hkl x
      have hr4 := hr3.farGt (gr_set (w := w3) b (k * 4) (.string x)) (show g < b by omega)
      have hb4 := (below_of_gr hgC (Nat.le_refl g) (by omega)).setCell (p := ⟨b, k * 4, none⟩) (show g ≤ b by omega) (.string x)
      clear hx ho2 hr2 hgB hg3 ho3 hgC hr3
      go_wp2_with fail
      go_ret
      exact ⟨_, _, _, _, _, rfl, ho4, by rw [List.length_set]; exact hl, HT.out.set k ⟨hxs, HTK.out.2⟩, by omega, by omega, hr4, hb4⟩
    · have hu0' : (u == 0) = false := by simpa using hu0
      clear hu0
      by_cases hu1 : (u == 1) = true
      · go_wp2_with fail
        refine (of_lit [⟨#[]⟩, ⟨#[48]⟩, ⟨#[50]⟩, ⟨#[48, 48, 48, 48, 48, 48, 48]⟩] hr2 (by omega) rfl rfl (by decide) (by decide)).mono ?_; rintro e w3 ⟨x, rfl, hx, hr3, hg3⟩
        have hxs : x.size ≤ 1000 := mem_small (by decide) hx
        have ho3 := (ho2.below ((Below.refl _ _).alloc (Nat.le_refl w2.heap.size) _)).gr hg3 hlo
        have hgC := (gr_trans_below hgB ((Below.refl _ _).alloc (Nat.le_refl w2.heap.size) _)).trans hg3
        obtain ⟨⟨y0, y1, y2, y3, f0, f1, f2, f3⟩, g0, g1, g2, g3⟩ := ownS_cells ho3.2.2 hkn
        have ho4 := ho3.setP hkl x
        have hr4 := hr3.farGt (gr_set (w := w3) b (k * 4 + 1) (.string x)) (show g < b by omega)
        have hb4 := (below_of_gr hgC (Nat.le_refl g) (by omega)).setCell (p := ⟨b, k * 4 + 1, none⟩) (show g ≤ b by omega) (.string x)
        clear hx ho2 hr2 hgB hg3 ho3 hgC hr3
        go_wp2_with fail
        go_ret
        exact ⟨_, _, _, _, _, rfl, ho4, by rw [List.length_set]; exact hl, HT.out.set k ⟨HTK.out.1, hxs⟩, by omega, by omega, hr4, hb4⟩
      · have hu1' : (u == 1) = false := by simpa using hu1
        clear hu1
        by_cases hu2 : (u == 2) = true
        · go_wp2_with fail
          refine (num_lit [-1, 1000, 1001] hr2 (by omega) rfl rfl (by decide) (by decide)).mono ?_; rintro e w3 ⟨x, rfl, hx, hr3, hg3⟩
          have ho3 := (ho2.below ((Below.refl _ _).alloc (Nat.le_refl w2.heap.size) _)).gr hg3 hlo
          have hgC := (gr_trans_below hgB ((Below.refl _ _).alloc (Nat.le_refl w2.heap.size) _)).trans hg3
          obtain ⟨⟨y0, y1, y2, y3, f0, f1, f2, f3⟩, g0, g1, g2, g3⟩ := ownS_cells ho3.2.2 hkn
          have ho4 := ho3.setG hkl x
          have hr4 := hr3.farGt (gr_set (w := w3) b (k * 4 + 2) (.int .i64 x)) (show g < b by omega)
          have hb4 := (below_of_gr hgC (Nat.le_refl g) (by omega)).setCell (p := ⟨b, k * 4 + 2, none⟩) (show g ≤ b by omega) (.int .i64 x)
          clear hx ho2 hr2 hgB hg3 ho3 hgC hr3
          go_wp2_with fail
          go_ret
          exact ⟨_, _, _, _, _, rfl, ho4, by rw [List.length_set]; exact hl, HT.out.set k HTK.out, by omega, by omega, hr4, hb4⟩
        · have hu2' : (u == 2) = false := by simpa using hu2
          clear hu2
          by_cases hu3 : (u == 3) = true
          · go_wp2_with fail
            refine (num_lit [0, 20, 21, -1] hr2 (by omega) rfl rfl (by decide) (by decide)).mono ?_; rintro e w3 ⟨x, rfl, hx, hr3, hg3⟩
            have ho3 := (ho2.below ((Below.refl _ _).alloc (Nat.le_refl w2.heap.size) _)).gr hg3 hlo
            have hgC := (gr_trans_below hgB ((Below.refl _ _).alloc (Nat.le_refl w2.heap.size) _)).trans hg3
            obtain ⟨⟨y0, y1, y2, y3, f0, f1, f2, f3⟩, g0, g1, g2, g3⟩ := ownS_cells ho3.2.2 hkn
            have ho4 := ho3.setL hkl x
            have hr4 := hr3.farGt (gr_set (w := w3) b (k * 4 + 3) (.int .i64 x)) (show g < b by omega)
            have hb4 := (below_of_gr hgC (Nat.le_refl g) (by omega)).setCell (p := ⟨b, k * 4 + 3, none⟩) (show g ≤ b by omega) (.int .i64 x)
            clear hx ho2 hr2 hgB hg3 ho3 hgC hr3
            go_wp2_with fail
            go_ret
            exact ⟨_, _, _, _, _, rfl, ho4, by rw [List.length_set]; exact hl, HT.out.set k HTK.out, by omega, by omega, hr4, hb4⟩
          · have hu3' : (u == 3) = false := by simpa using hu3
            clear hu3
            go_wp2_with fail
            go_ret
            exact ⟨_, _, _, _, _, rfl, ho2, hl, HT.out, by omega, by omega, hr2, below_of_gr hgB (Nat.le_refl g) (by omega)⟩
  · obtain rfl : n = 0 := by omega
    go_enter Tryd.func31, Tryd.ntmps31
    go_wp2_with fail
    go_ret
    exact ⟨_, _, _, _, _, rfl, ho, hl, HT.out, by omega, by omega, h, Below.refl _ _⟩

theorem results_tmp4 {fn : Func} {t u v x : Tmp} (h : fn.results = #[.tmp t, .tmp u, .tmp v, .tmp x]) (tmps : Array Value) (P : Program) (w : World) :
    (results fn tmps).run P w = .ok (.tuple #[tmps.getD t undef, tmps.getD u undef, tmps.getD v undef, tmps.getD x undef]) w := by
  simp [results, h]
/-- A cell that is drawn and sometimes spoilt. -/
def OpenCP (w : World) (g p : Nat) (e : Ending) (w' : World) : Prop :=
  ∃ ao n c, ∃ l : List Stn, ∃ q, e = .returned (.slice ao n c) ∧ OwnS w' w.heap.size ao n c l ∧ l.length ≤ 4 ∧ TinyS l ∧ p ≤ q ∧ q ≤ p + 23 ∧ Rdr w' g q ∧ Below g w w'

set_option maxHeartbeats 800000 in
theorem l8Open_c {w : World} {g p : Nat} (h : Rdr w g p) (hp : p ≤ 1073730000) : Calls Tryd.prog 12 #[.pointer (some ⟨g, 0, none⟩)] w (OpenCP w g p) := by
  have hgl := h.lt
  go_enter Tryd.func12, Tryd.ntmps12
  go_wp2_with fail
  refine (l8Some_c h (by omega)).mono ?_; rintro e w1 ⟨ao, n, c, l, q, rfl, ho, hl, ht, hq0, hq1, hr1, hg1, _⟩
  have hb1 := below_of_gr hg1 (Nat.le_refl g) (by omega)
  clear h hg1
  go_wp2_with fail
  refine (l8Bad_c hr1 (by omega) ho hgl hl ht).mono ?_; rintro e w2 ⟨a2, n2, c2, l2, q2, rfl, ho2, hl2, ht2, hq2, hq3, hr2, hb2⟩
  go_wp2_with fail
  go_ret
  exact ⟨a2, n2, c2, l2, q2, rfl, ho2, hl2, ht2, by omega, by omega, hr2, hb1.trans hb2⟩

/-- A text that is drawn. -/
def TextW (w : World) (g p : Nat) (e : Ending) (w' : World) : Prop :=
  ∃ v : ByteArray, ∃ q, e = .returned (.string v) ∧ v.size ≤ 1000 ∧ p ≤ q ∧ q ≤ p + 2 ∧ Rdr w' g q ∧ w.grownBy w' (some g)


/-- What the law's walk needs of a list of stations that was drawn. -/
def RdSC (w : World) (ao : Option Addr) (n c : Nat) (l : List Stn) : Prop := RdS w ao n l ∧ n ≤ c ∧ (ao = none → c = 0) ∧ l.length ≤ 4 ∧ TinyS l
theorem RdSC.of {w : World} {lo n c : Nat} {ao : Option Addr} {l : List Stn} (h : OwnS w lo ao n c l) (hl : l.length ≤ 4) (ht : TinyS l) : RdSC w ao n c l := ⟨h.rd, h.cap'.1, h.cap'.2, hl, ht⟩
theorem RdSC.below {w w' : World} {n c : Nat} {ao : Option Addr} {l : List Stn} (h : RdSC w ao n c l) (hb : Below w.heap.size w w') : RdSC w' ao n c l := ⟨h.1.below hb, h.2⟩
def RetSI (w : World) (e : Ending) (w' : World) : Prop :=
  ∃ ao n c, ∃ l : List Stn, ∃ k : Int, e = .returned (.tuple #[.slice ao n c, .int .i64 k]) ∧ RdSC w' ao n c l ∧ -1 ≤ k ∧ k ≤ 9223372036854775807 ∧ Below w.heap.size w w'
def RetST (w : World) (e : Ending) (w' : World) : Prop :=
  ∃ ao n c, ∃ l : List Stn, ∃ t : ByteArray, e = .returned (.tuple #[.slice ao n c, .string t]) ∧ RdSC w' ao n c l ∧ t.size ≤ 1000 ∧ Below w.heap.size w w'
def RetSTII (w : World) (e : Ending) (w' : World) : Prop :=
  ∃ ao n c, ∃ l : List Stn, ∃ t : ByteArray, ∃ d k : Int, e = .returned (.tuple #[.slice ao n c, .string t, .int .i64 d, .int .i64 k]) ∧ RdSC w' ao n c l ∧ t.size ≤ 1000 ∧ (-1 ≤ d ∧ d ≤ 7) ∧ (0 ≤ k ∧ k ≤ 21) ∧ Below w.heap.size w w'

end Go.Proofs.YtdedcablhahbnaaDoor
