/- Draws of a cell's data and of what is received of a cell (DrawCellSignal, DrawCellReceive), and the least sure bit (MarginOf). No condition beyond lengths. -/
import Derived.Test.YtadcckjlcmnhbaaNf
import Derived.Test.YtadcckjlcmnhbaaDm
import Derived.Test.YtadcckjlcmnhbaaEd
import Derived.Test.YtadcckjlcmnhbaaQc
import Derived.Test.YtadcckjlcmnhbaaDr
import Derived.Test.YtadcckjlcmnhbaaNg
namespace Go.Proofs.Ytadcckjlcmnhbaa
open Go.RowKit

/-- What DrawCellSignal leaves. -/
def RetSD (w : World) (e : Ending) (w' : World) : Prop :=
  ∃ a n c, ∃ l : List Stn, ∃ b m d, ∃ ds : List ByteArray, e = .returned (.tuple #[.slice a n c, .slice b m d]) ∧ OwnS w' w.heap.size a n c l ∧ l.length ≤ 4 ∧ TinyS l ∧ RdT w' b m ds ∧ m ≤ d ∧ (b = none → d = 0) ∧ ds.length ≤ 5 ∧ (∀ s ∈ ds, s.size ≤ 8) ∧ (∀ x, b = some x → w.heap.size ≤ x.block) ∧ Below w.heap.size w w'
theorem texts_snoc {l : List ByteArray} {s : ByteArray} {m : Nat} (h : ∀ s ∈ l, s.size ≤ m) (hs : s.size ≤ m) : ∀ t ∈ l ++ [s], t.size ≤ m := by
  intro t ht
  rcases List.mem_append.1 ht with h1 | h1
  · exact h t h1
  · rw [List.mem_singleton.1 h1]; exact hs
theorem texts_set {l : List ByteArray} {s : ByteArray} {m k : Nat} (h : ∀ s ∈ l, s.size ≤ m) (hs : s.size ≤ m) : ∀ t ∈ l.set k s, t.size ≤ m := by
  intro t ht
  rcases List.mem_or_eq_of_mem_set ht with h1 | h1
  · exact h t h1
  · rw [h1]; exact hs

theorem OwnF.base {α : Type} {f : α → Value} {t : TypeId} {w : World} {lo n c : Nat} {ao : Option Addr} {l : List α} (h : OwnF f t w lo ao n c l) (hn : 0 < n) : ∃ b, ao = some ⟨b, 0, none⟩ ∧ lo ≤ b := by
  rcases h.2.2.2 with ⟨h1, h2⟩ | ⟨g, cap, cur, hv, hg, _⟩
  · have := h.1; omega
  · cases hv; exact ⟨g, rfl, hg⟩
theorem Own.base {w : World} {lo n c : Nat} {ao : Option Addr} {l : List Int} (h : Own w lo ao n c l) (hn : 0 < n) : ∃ b, ao = some ⟨b, 0, none⟩ ∧ lo ≤ b := by
  rcases h.2.2.2 with ⟨h1, h2⟩ | ⟨g, cap, cur, hv, hg, _⟩
  · have := h.1; omega
  · cases hv; exact ⟨g, rfl, hg⟩

set_option maxRecDepth 100000 in
set_option maxHeartbeats 1600000 in
theorem DrawCellSignal_c {w : World} {ao : Option Addr} {n c : Nat} (h : CodeW w ao n c) : Calls Try.prog 6 #[.slice ao n c] w (RetSD w) := by
  obtain ⟨lb, hR, hcap, hby⟩ := h
  go_enter Try.func6, Try.ntmps6
  go_wp2_with fail
  refine (l9Open_c hR hcap hby).mono ?_; rintro e w1 ⟨rfl, hr1, hb1⟩
  have hz1 := hb1.size
  clear hR hby
  go_wp2_with fail
  refine (l8Open_c hr1 (by omega)).mono ?_; rintro e w2 ⟨a1, n1, c1, l1, q1, rfl, ho1, h4, ht, hq0, hq1, hr2, hb2⟩
  have hgl := hr1.lt
  have hbb := hb1.trans hb2
  have hz2 := hbb.size
  have hl2 := hr2.lt
  have HN := Lib.hid ho1.1
  have hn4 : n1 ≤ 4 := by have := HN.out; omega
  clear hr1 hb1 hb2
  have hr3 := hr2.alloc (.cells #[] 9)
  have hw3 : Below w2.heap.size w2 (w2.alloc (.cells #[] 9)) := (Below.refl _ _).alloc (Nat.le_refl _) _
  have hg3 : w2.grownBy (w2.alloc (.cells #[] 9)) (some w.heap.size) := gr_of_below hw3 _
  have hz3 := hw3.size
  have ho3 : OwnVT (w2.alloc (.cells #[] 9)) w2.heap.size (.slice (some ⟨w2.heap.size, 0, none⟩) 0 0) [] := OwnVF.made0 _ _ w2 (Nat.le_refl _)
  clear hw3 hr2
  go_wp2_with fail
  go_loopw [6, 7] (fun v i wr => ∃ (k : Nat) (ds : List ByteArray) (q : Nat), k ≤ n1 ∧ i = .int .i64 k ∧ Hid (ds.length = k) ∧ Hid (∀ s ∈ ds, s.size ≤ 8) ∧ OwnVT wr w2.heap.size v ds ∧ q1 ≤ q ∧ q ≤ q1 + 21 * k ∧ Rdr wr w.heap.size q ∧ w2.grownBy wr (some w.heap.size)) (fun _ i _ => n1 - (intOf i).toNat)
  case atStart => exact ⟨0, [], q1, Nat.zero_le _, rfl, Lib.hid rfl, Lib.hid (fun s hs => by cases hs), ho3, by omega, by omega, hr3, hg3⟩
  case round =>
    clear ho3 hr3 hg3
    obtain ⟨k, ds, q, hk, rfl, HL, HD, ho, hq2, hq3, hr, hg⟩ := hrel
    have hz := hg.size
    by_cases hlt : k < n1
    · go_wp2_with fail
      refine (l1String_c 8 hr (by omega) (by omega)).mono ?_; rintro e w4 ⟨v, q4, rfl, hv, hq4, hq5, hr4, hg4⟩
      have ho4 : OwnVT w4 w2.heap.size _ ds := ownsRow_gr ho hg4 (by omega)
      have hgD := hg.trans hg4
      have hzD := hgD.size
      have HL2 := Lib.hid (show (ds ++ [v]).length = k + 1 by rw [List.length_append, HL.out]; rfl)
      have HD2 := Lib.hid (texts_snoc HD.out hv)
      clear ho hr hg hg4
      go_wp2_with (at_builtin; refine wp_app1F 24 9 16 ByteArray.empty Try.underlying24 info_str rfl (by decide) (fun _ => rfl) w4 rfl _ _ rfl w2.heap.size _ _ _ rfl (by exact ho4) rfl (by have := HL.out; omega) hzD ?_; intro v' w5 ho5 _ hb5)
      have hr5 := hr4.farGt2 hb5 (by omega)
      have hg5 := gr_trans_below2 hgD hb5
      go_roundw
      case rel => exact ⟨k + 1, ds ++ [v], q4, by omega, by go_num, HL2, HD2, ho5, by omega, by omega, hr5, hg5⟩
      case measure => simp [intOf]; omega
    · obtain rfl : k = n1 := by omega
      have hd5 : ds.length ≤ 4 := by have := HL.out; omega
      have hos := ho1.gr hg hgl
      have hbk := hbb.trans (below_of_gr hg (Nat.le_refl _) hbb.size)
      have hob := fun k hk => (ho1.2.2.lt k hk).2
      have HL3 := Lib.hid HL.out
      clear hbb ho1
      go_wp2_with fail
      refine (pick_c _ hr (by omega)).mono ?_; rintro e w4 ⟨u, rfl, u0, u1, hr4, hg4⟩
      have ho4 : OwnVT w4 w2.heap.size _ ds := ownsRow_gr ho hg4 (by omega)
      have hos4 := (hos.gr hg4 hgl).mono hz1
      have hb4 := hbk.trans (below_of_gr hg4 (Nat.le_refl _) hbk.size)
      have hzD := hg4.size
      clear ho hr hg hg4 hbk hos u1
      by_cases hu0 : (u == 0) = true
      · go_wp2_with (at_builtin; refine wp_app1F 24 9 16 ByteArray.empty Try.underlying24 info_str rfl (by decide) (fun _ => rfl) w4 rfl _ _ rfl w2.heap.size _ _ _ rfl (by exact ho4) rfl (by omega) (by omega) ?_; intro v' w5 ho5 _ hb5)
        have hos5 : OwnS w5 w.heap.size a1 k c1 l1 := ⟨hos4.1, hos4.2.1, ownsRow_below hos4.2.2 hb5 hob⟩
        obtain ⟨a3, n3, c3, hv, ho8⟩ := ho5.own (by simp; omega)
        subst hv
        go_ret2
        exact ⟨a1, k, c1, l1, a3, n3, c3, _, rfl, hos5, h4, ht, ho8.rd, ho8.cap, ho8.zero, by simp; omega, texts_snoc HD.out (by decide), fun x hx => by have := (ho8.lt x hx).1; omega, hb4.trans (hb5.mono (by omega))⟩
      · have hu0' : (u == 0) = false := by simpa using hu0
        clear hu0
        by_cases hu1 : (u == 1) = true
        · obtain ⟨a2, n2, c2, hv, ho2⟩ := ho4.own (by omega)
          subst hv
          by_cases hn0 : 0 < n2
          · obtain ⟨b2, rfl, hbb2⟩ := ho2.base hn0
            have hrow := RowF.of ho2.v
            have HN2 := Lib.hid ho2.1
            have hcap2 := ho2.cap
            have hn24 : n2 ≤ 4 := by have := HN2.out; omega
            have hl0 : 0 < ds.length := by have := HN2.out; omega
            have hc0 := hrow.cell hl0
            have hf0 := hrow.free hl0
            have hrow2 := hrow.set (i := 0) (⟨#[50]⟩ : ByteArray)
            have hb5 := hb4.setCell (p := ⟨b2, 0, none⟩) (show w.heap.size ≤ b2 by omega) (.string ⟨#[50]⟩)
            have hos5 : OwnS (w4.setCell ⟨b2, 0, none⟩ (.string ⟨#[50]⟩)) w.heap.size a1 k c1 l1 := ⟨hos4.1, hos4.2.1, ownsRow_below hos4.2.2 ((Below.refl _ _).setCell hbb2 _) hob⟩
            have hrd2 := hrow2.rd (n := n2) (by rw [List.length_set]; exact HN2.out) (by omega)
            have HX := Lib.hid (texts_set (k := 0) HD.out (show (⟨#[50]⟩ : ByteArray).size ≤ 8 by decide))
            clear hrow hrow2 ho2 ho4 hos4 hb4
            generalize ds[0] = d0 at *
            go_wp2_with fail
            go_ret2
            exact ⟨a1, k, c1, l1, _, n2, c2, _, rfl, hos5, h4, ht, hrd2, hcap2, fun hx => (by cases hx), by rw [List.length_set]; omega, HX.out, fun x hx => by cases hx; show _ ≤ b2; omega, hb5⟩
          · obtain rfl : n2 = 0 := by omega
            have hnn : ¬ (0 : Int) < ((0 : Nat) : Int) := by omega
            go_wp2_with fail
            go_ret2
            exact ⟨a1, k, c1, l1, a2, 0, c2, ds, rfl, hos4, h4, ht, ho2.rd, ho2.cap, ho2.zero, by omega, HD.out, fun x hx => by have := (ho2.lt x hx).1; omega, hb4⟩
        · have hu1' : (u == 1) = false := by simpa using hu1
          clear hu1
          obtain ⟨a2, n2, c2, hv, ho2⟩ := ho4.own (by omega)
          subst hv
          go_wp2_with fail
          go_ret2
          exact ⟨a1, k, c1, l1, a2, n2, c2, ds, rfl, hos4, h4, ht, ho2.rd, ho2.cap, ho2.zero, by omega, HD.out, fun x hx => by have := (ho2.lt x hx).1; omega, hb4⟩

/-- What l4Bad leaves. -/
def BadIP (w : World) (g p : Nat) (ao : Option Addr) (e : Ending) (w' : World) : Prop :=
  ∃ a2 n2 c2, ∃ l2 : List Int, ∃ q, e = .returned (.slice a2 n2 c2) ∧ RdC w' a2 n2 c2 l2 ∧ l2.length ≤ 3001 ∧ p ≤ q ∧ q ≤ p + 2 ∧ Rdr w' g q ∧ (∃ wm, w.grownBy wm (some g) ∧ Wr ao wm w') ∧ ∀ a, a2 = some a → g < a.block

set_option maxRecDepth 100000 in
set_option maxHeartbeats 800000 in
theorem l4Bad_c {w : World} {g p lo n c : Nat} {ao : Option Addr} {l : List Int} (h : Rdr w g p) (hp : p ≤ 1073740000) (ho : Own w lo ao n c l) (hlo : g < lo) (hl : l.length ≤ 3000) (hlz : lo ≤ w.heap.size) :
    Calls Try.prog 64 #[.pointer (some ⟨g, 0, none⟩), .slice ao n c] w (BadIP w g p ao) := by
  have hgl := h.lt
  have HN := Lib.hid ho.1
  have hnl : n ≤ 3000 := by have := HN.out; omega
  go_enter Try.func64, Try.ntmps64
  go_wp2_with fail
  refine (pick_c _ h (by omega)).mono ?_; rintro e w1 ⟨u, rfl, u0, u1, hr1, hg1⟩
  have ho1 := ho.gr hg1 hlo
  have hz1 := hg1.size
  clear h ho
  by_cases hu0 : (u == 0) = true
  · go_wp2_with fail
    refine (num_lit [1000000, 1000001, -1000001, 9223372036854775807] hr1 (by omega) rfl rfl (by decide) (by decide)).mono ?_; rintro e w2 ⟨x, rfl, hx, hr2, hg2⟩
    have hb1 : Below w1.heap.size w1 (w1.alloc (.cells #[.int .i64 1000000, .int .i64 1000001, .int .i64 (-1000001), .int .i64 9223372036854775807] 3)) := (Below.refl _ _).alloc (Nat.le_refl _) _
    have ho2 := (ho1.below hb1).gr hg2 hlo
    have hgA := (gr_trans_below hg1 hb1).trans hg2
    have hzA := hgA.size
    clear hx hr1 hg1 ho1 hb1 hg2
    have hov : OwnV w2 lo (.slice ao n c) l := by have := ho2.2.2; unfold OwnV; rw [← HN.out]; exact this
    go_wp2_with (at_builtin; refine wp_app1 w2 rfl (.tmp 9) (.tmp 13) rfl lo _ l x rfl hov rfl (by omega) (by omega) ?_; intro v' w3 ho3 hgr3 hb3)
    obtain ⟨a2, n2, c2, hv, ho4⟩ := ho3.own (by simp; omega)
    subst hv
    have hr3 := hr2.farGt2 hb3 hlo
    go_ret
    exact ⟨a2, n2, c2, _, _, rfl, ho4.rdc, by simp; omega, by omega, by omega, hr3, ⟨_, hgA, by cases ao <;> exact hgr3⟩, fun a ha => Nat.lt_of_lt_of_le hlo (ho4.lt a ha).1⟩
  · have hu0' : (u == 0) = false := by simpa using hu0
    clear hu0
    by_cases hu1 : (u == 1) = true
    · go_wp2_with fail
      refine (num_lit [3000, 3001] hr1 (by omega) rfl rfl (by decide) (by decide)).mono ?_; rintro e w2 ⟨x, rfl, hx, hr2, hg2⟩
      have hx2 : 3000 ≤ x ∧ x ≤ 3001 := by simp at hx; omega
      have hgA := (gr_trans_below hg1 ((Below.refl _ _).alloc (Nat.le_refl w1.heap.size) _)).trans hg2
      clear hx hr1 hg1 ho1 hg2
      obtain ⟨X, rfl⟩ := Int.eq_ofNat_of_zero_le (show 0 ≤ x by omega)
      go_wp2_with (at_make; refine wp_make w2 rfl (.tmp 19) (.tmp 19) rfl .i64 .i64 X rfl rfl (by omega) ?_; intro w3 hown hb3)
      have ho3 : Own w3 w2.heap.size (some ⟨w2.heap.size, 0, none⟩) X X (List.replicate X 0) := ⟨by simp, by omega, hown⟩
      go_ret
      exact ⟨_, _, _, _, _, rfl, ho3.rdc, by simp; omega, by omega, by omega, hr2.below hb3, ⟨_, gr_trans_below hgA hb3, gr_of_below (Below.refl _ _) _⟩, fun a ha => by cases ha; exact hr2.lt⟩
    · have hu1' : (u == 1) = false := by simpa using hu1
      clear hu1
      go_wp2_with fail
      go_ret
      exact ⟨ao, n, c, l, p + 1, rfl, ho1.rdc, by omega, by omega, by omega, hr1, ⟨_, hg1, gr_of_below (Below.refl _ _) _⟩, fun a ha => Nat.lt_of_lt_of_le hlo (ho1.lt a ha).1⟩

theorem csg_len (l : List Stn) (ds : List ByteArray) : ((csgR l ds).getD []).length ≤ 3000 := by
  unfold csgR
  split
  · unfold sndR
    split
    · next h =>
      have := sgnlL_sig h (Nat.le_refl _)
      rw [List.take_length] at this
      exact sigB_len this
    · simp
  · simp
/-- What DrawCellReceive leaves. -/
def RetSIT (w : World) (e : Ending) (w' : World) : Prop :=
  ∃ a n c, ∃ l : List Stn, ∃ b m d, ∃ s : List Int, ∃ v : ByteArray, ∃ k : Int, e = .returned (.tuple #[.slice a n c, .slice b m d, .string v, .int .i64 k]) ∧ RdSC w' a n c l ∧ Rd w' b m s ∧ m ≤ 3001 ∧ v.size ≤ 1000 ∧ -1 ≤ k ∧ k ≤ 601 ∧ Below w.heap.size w w'

set_option maxRecDepth 100000 in
set_option maxHeartbeats 1600000 in
theorem DrawCellReceive_c {w : World} {ao : Option Addr} {n c : Nat} (h : CodeW w ao n c) : Calls Try.prog 20 #[.slice ao n c] w (RetSIT w) := by
  have h' := h
  obtain ⟨lb, hR, hcap, hby⟩ := h
  go_enter Try.func20, Try.ntmps20
  go_wp2_with fail
  refine (l9Open_c hR hcap hby).mono ?_; rintro e w1 ⟨rfl, hr1, hb1⟩
  have hz1 := hb1.size
  have hC := h'.below hb1
  have hgl := hr1.lt
  clear hR hby h'
  go_wp2_with fail
  refine (DrawCellSignal_c hC).mono ?_; rintro e w2 ⟨a1, n1, c1, l, b1, m1, d1, ds, rfl, ho1, h4, ht, hds, hmd, hd0, hd5, hd8, hdb, hb2⟩
  have hr2 := hr1.below hb2
  have hbb := hb1.trans (hb2.mono hz1)
  have hz2 := hbb.size
  have hl2 := hr2.lt
  have HT := Lib.hid ht
  have HD8 := Lib.hid hd8
  clear hr1 hb1 hb2 hC ht hd8 hdb
  go_wp2_with fail
  refine (sCellSignal_c ho1.rd hds HT.out.big (fun i hi => by have := HD8.out _ (List.getElem_mem hi); omega)).mono ?_; rintro e w3 ⟨a2, n2, c2, rfl, hos, hb3⟩
  have hlen := csg_len l ds
  generalize (csgR l ds).getD [] = sg at *
  generalize (csgR l ds).isSome = fine at *
  have hr3 := hr2.below hb3
  have ho3 := ho1.below hb3
  have hob := fun b hb => (ho1.below' b hb)
  have hbc := hbb.trans (hb3.mono hz2)
  have hz3 := hbc.size
  clear hr2 ho1 hbb hds HD8
  go_wp2_with fail
  refine (pick_c _ hr3 (by omega)).mono ?_; rintro e w4 ⟨k, rfl, k0, k1, hr4, hg4⟩
  have hk9 : -1 ≤ k ∧ k ≤ 601 := by omega
  have ho4 := ho3.gr hg4 hgl
  have hos4 := hos.gr hg4 (by omega)
  have hbd := hbc.trans (below_of_gr hg4 (Nat.le_refl _) hbc.size)
  have hz4 := hg4.size
  clear ho3 hos hr3 hbc k0 k1
  have hz34 := hb3.size
  clear hb3 hg4
  go_wp2_with fail
  refine (pick_c _ hr4 (by omega)).mono ?_; rintro e w5 ⟨u, rfl, u0, u1, hr5, hg5⟩
  have ho5 := ho4.gr hg5 hgl
  have hos5 := hos4.gr hg5 (by omega)
  have hbe := hbd.trans (below_of_gr hg5 (Nat.le_refl _) hbd.size)
  have hz5 := hg5.size
  clear ho4 hos4 hr4 hbd u1 hg5
  by_cases hu0 : (u == 0) = true
  · go_wp2_with fail
    refine (num_lit [-1, 600, 601] hr5 (by omega) rfl rfl (by decide) (by decide)).mono ?_; rintro e w6 ⟨y, rfl, hy, hr6, hg6⟩
    have hy2 : -1 ≤ y ∧ y ≤ 601 := by simp at hy; omega
    have hbl : Below w5.heap.size w5 (w5.alloc (.cells #[.int .i64 (-1), .int .i64 600, .int .i64 601] 3)) := (Below.refl _ _).alloc (Nat.le_refl _) _
    have ho6 := (ho5.below hbl).gr hg6 hgl
    have hos6 := (hos5.below hbl).gr hg6 (by omega)
    have hbf := hbe.trans (below_of_gr ((gr_of_below hbl _).trans hg6) (Nat.le_refl _) hbe.size)
    have hz6 := ((gr_of_below hbl (some w.heap.size)).trans hg6).size
    clear hy ho5 hos5 hbe hg6 hr5 hbl
    go_wp2_with fail
    refine (l4Bad_c hr6 (by omega) hos6 (by omega) hlen (by omega)).mono ?_; rintro e w7 ⟨a3, n3, c3, s3, q3, rfl, hrc, hl3, hq0, hq1, hr7, ⟨wm, hgm, hwm⟩, hab⟩
    have ho7 := (ho6.gr hgm hgl).off hwm (fun a b ha hb => by have := hob a ha; have := (hos6.lt b hb).1; omega)
    have hbg := (hbf.trans (below_of_gr hgm (Nat.le_refl _) hbf.size)).trans (hwm.low (lo := w.heap.size) (s := wm.heap.size) (fun b hb => by have := hos6.lt b hb; have := hgm.size; omega) (by have := hgm.size; have := hbf.size; omega))
    have hz7 := hbg.size
    clear ho6 hos6 hbf hgm hwm hr6
    go_wp2_with fail
    refine (l8Which_c hr7 (by omega) ho7 hgl HT.out).mono ?_; rintro e w8 ⟨v, q8, rfl, hv, hq4, hq5, hr8, hg8⟩
    have ho8 := ho7.gr hg8 hgl
    have hrd := hrc.1.gr hg8 (fun a ha _ => by have := hab a ha; omega)
    have hbh := hbg.trans (below_of_gr hg8 (Nat.le_refl _) hbg.size)
    have hn3 : n3 ≤ 3001 := by have := hrc.1.1; omega
    go_wp2_with fail
    refine bodyPost_ret (results_tmp4 rfl _ _ _) rfl ?_
    exact ⟨a1, n1, c1, l, a3, n3, c3, s3, v, y, rfl, RdSC.of ho8 h4 HT.out, hrd, hn3, hv, hy2.1, hy2.2, hbh⟩
  · have hu0' : (u == 0) = false := by simpa using hu0
    clear hu0
    go_wp2_with fail
    refine (l4Bad_c hr5 (by omega) hos5 (by omega) hlen (by omega)).mono ?_; rintro e w7 ⟨a3, n3, c3, s3, q3, rfl, hrc, hl3, hq0, hq1, hr7, ⟨wm, hgm, hwm⟩, hab⟩
    have ho7 := (ho5.gr hgm hgl).off hwm (fun a b ha hb => by have := hob a ha; have := (hos5.lt b hb).1; omega)
    have hbg := (hbe.trans (below_of_gr hgm (Nat.le_refl _) hbe.size)).trans (hwm.low (lo := w.heap.size) (s := wm.heap.size) (fun b hb => by have := hos5.lt b hb; have := hgm.size; omega) (by have := hgm.size; have := hbe.size; omega))
    have hz7 := hbg.size
    clear ho5 hos5 hbe hgm hwm hr5
    go_wp2_with fail
    refine (l8Which_c hr7 (by omega) ho7 hgl HT.out).mono ?_; rintro e w8 ⟨v, q8, rfl, hv, hq4, hq5, hr8, hg8⟩
    have ho8 := ho7.gr hg8 hgl
    have hrd := hrc.1.gr hg8 (fun a ha _ => by have := hab a ha; omega)
    have hbh := hbg.trans (below_of_gr hg8 (Nat.le_refl _) hbg.size)
    have hn3 : n3 ≤ 3001 := by have := hrc.1.1; omega
    go_wp2_with fail
    refine bodyPost_ret (results_tmp4 rfl _ _ _) rfl ?_
    exact ⟨a1, n1, c1, l, a3, n3, c3, s3, v, k, rfl, RdSC.of ho8 h4 HT.out, hrd, hn3, hv, hk9.1, hk9.2, hbh⟩

end Go.Proofs.Ytadcckjlcmnhbaa
