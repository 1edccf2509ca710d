/- Draws of chapter 7: what the laws' generators hand over. No condition beyond lengths. -/
import Derived.Test.YtaoahgngpjoekaaDoorDh
namespace Go.Proofs.YtaoahgngpjoekaaDoor
open Go.RowKit

/-- Only block g and the slice's own block may have turned. -/
structure Gr2 (w w' : World) (g : Nat) (ao : Option Addr) : Prop where
  os : w'.os = w.os
  tape : w'.tape = w.tape
  output : w'.output = w.output
  size : w.heap.size ≤ w'.heap.size
  block : ∀ k, k < w.heap.size → k ≠ g → some k ≠ ao.map (·.block) → w'.heap[k]? = w.heap[k]?
theorem Gr2.of {w w' : World} {g : Nat} {ao : Option Addr} (h : w.grownBy w' (some g)) : Gr2 w w' g ao := ⟨h.os, h.tape, h.output, h.size, fun k hk h1 _ => h.block k hk (fun e => h1 (by injection e))⟩
theorem Gr2.app {w w1 w2 : World} {g : Nat} {ao : Option Addr} (h : w.grownBy w1 (some g)) (h2 : w1.grownBy w2 (ao.map (·.block))) : Gr2 w w2 g ao :=
  ⟨h2.os.trans h.os, h2.tape.trans h.tape, h2.output.trans h.output, Nat.le_trans h.size h2.size, fun k hk h1 h3 => (h2.block k (Nat.lt_of_lt_of_le hk h.size) h3).trans (h.block k hk (fun e => h1 (by injection e)))⟩
theorem Gr2.below {w w' : World} {g B : Nat} {ao : Option Addr} (h : Gr2 w w' g ao) (hg : B ≤ g) (ha : ∀ a, ao = some a → B ≤ a.block) (hB : B ≤ w.heap.size) : Below B w w' :=
  ⟨h.os, h.tape, h.output, h.size, fun k hk => h.block k (by omega) (by omega) (fun e => by
    cases ao with
    | none => cases e
    | some a => have := ha a rfl; simp at e; omega)⟩
theorem Rd.gr2 {w w' : World} {ao bo : Option Addr} {n g : Nat} {l : List Int} (h : Rd w bo n l) (hg : Gr2 w w' g ao) (h1 : ∀ b, bo = some b → 0 < n → b.block ≠ g) (h2 : ∀ a b, ao = some a → bo = some b → 0 < n → b.block ≠ a.block) : Rd w' bo n l := by
  refine ⟨h.1, h.2.1, fun i hi => ?_⟩
  obtain ⟨b, off, e1, e2⟩ := h.2.2 i hi
  refine ⟨b, off, e1, ?_⟩
  rw [World.cell?_of_block (w := w) (hg.block b (lt_of_cell e2) (h1 _ e1 (by omega)) (fun e => by
    cases ao with
    | none => cases e
    | some a => exact h2 a _ rfl e1 (by omega) (by simpa using e)))]
  exact e2

/-- What l7Bad leaves. -/
def BadP (w : World) (g p : Nat) (ao : Option Addr) (e : Ending) (w' : World) : Prop :=
  ∃ a2 n2 c2, ∃ l2 : List Int, ∃ q, e = .returned (.slice a2 n2 c2) ∧ RdC w' a2 n2 c2 l2 ∧ l2.length ≤ 301 ∧ p ≤ q ∧ q ≤ p + 2 ∧ Rdr w' g q ∧ Gr2 w w' g ao ∧ ∀ a, a2 = some a → g < a.block

set_option maxRecDepth 100000 in
set_option maxHeartbeats 800000 in
theorem l7Bad_c {w : World} {g p lo n c : Nat} {ao : Option Addr} {l : List Int} (h : Rdr w g p) (hp : p ≤ 1073740000) (ho : Own w lo ao n c l) (hlo : g < lo) (hl : l.length ≤ 300) (hlz : lo ≤ w.heap.size) :
    Calls Tryd.prog 32 #[.pointer (some ⟨g, 0, none⟩), .slice ao n c] w (BadP w g p ao) := by
  have hgl := h.lt
  have HN := Lib.hid ho.1
  have hnl : n ≤ 300 := by have := HN.out; omega
  go_enter Tryd.func32, Tryd.ntmps32
  go_wp2_with fail
  refine (pick_c _ h (by omega)).mono ?_; rintro e w1 ⟨u, rfl, u0, u1, hr1, hg1⟩
  have ho1 := ho.gr hg1 hlo
  have hz1 := hg1.size
  clear h ho
  by_cases hu0 : (u == 0) = true
  · go_wp2_with fail
    refine (num_lit [-1, 15, 16, 9223372036854775807] hr1 (by omega) rfl rfl (by decide) (by decide)).mono ?_; rintro e w2 ⟨x, rfl, hx, hr2, hg2⟩
    have hb1 : Below w1.heap.size w1 (w1.alloc (.cells #[.int .i64 (-1), .int .i64 15, .int .i64 16, .int .i64 9223372036854775807] 3)) := (Below.refl _ _).alloc (Nat.le_refl _) _
    have ho2 := (ho1.below hb1).gr hg2 hlo
    have hgA := (gr_trans_below hg1 hb1).trans hg2
    have hzA := hgA.size
    clear hx hr1 hg1 ho1 hb1 hg2
    have hov : OwnV w2 lo (.slice ao n c) l := by have := ho2.2.2; unfold OwnV; rw [← HN.out]; exact this
    go_wp2_with (at_builtin; refine wp_app1 w2 rfl (.tmp 9) (.tmp 13) rfl lo _ l x rfl hov rfl (by omega) (by omega) ?_; intro v' w3 ho3 hgr3 hb3)
    obtain ⟨a2, n2, c2, hv, ho4⟩ := ho3.own (by simp; omega)
    subst hv
    have hr3 := hr2.farGt2 hb3 hlo
    go_ret
    exact ⟨a2, n2, c2, _, _, rfl, ho4.rdc, by simp; omega, by omega, by omega, hr3, Gr2.app hgA (by cases ao <;> exact hgr3), fun a ha => Nat.lt_of_lt_of_le hlo (ho4.lt a ha).1⟩
  · have hu0' : (u == 0) = false := by simpa using hu0
    clear hu0
    by_cases hu1 : (u == 1) = true
    · have hrc := ho1.rdc
      have hc0 : (0 : Int) ≤ (c : Int) := by omega
      go_wp2_with fail
      go_ret
      exact ⟨ao, 0, c, [], p + 1, rfl, ⟨⟨rfl, by omega, fun i hi => absurd hi (by omega)⟩, by omega, hrc.2.2⟩, by simp, by omega, by omega, hr1, Gr2.of hg1, fun a ha => Nat.lt_of_lt_of_le hlo (ho1.lt a ha).1⟩
    · have hu1' : (u == 1) = false := by simpa using hu1
      clear hu1
      by_cases hu2 : (u == 2) = true
      · go_wp2_with fail
        refine (num_lit [300, 301] hr1 (by omega) rfl rfl (by decide) (by decide)).mono ?_; rintro e w2 ⟨x, rfl, hx, hr2, hg2⟩
        have hx2 : 300 ≤ x ∧ x ≤ 301 := by simp at hx; omega
        have hgA := (gr_trans_below hg1 ((Below.refl _ _).alloc (Nat.le_refl w1.heap.size) _)).trans hg2
        clear hx hr1 hg1 ho1 hg2
        obtain ⟨X, rfl⟩ := Int.eq_ofNat_of_zero_le (show 0 ≤ x by omega)
        go_wp2_with (at_make; refine wp_make w2 rfl (.tmp 23) (.tmp 23) rfl .i64 .i64 X rfl rfl (by omega) ?_; intro w3 hown hb3)
        have ho3 : Own w3 w2.heap.size (some ⟨w2.heap.size, 0, none⟩) X X (List.replicate X 0) := ⟨by simp, by omega, hown⟩
        go_ret
        exact ⟨_, _, _, _, _, rfl, ho3.rdc, by simp; omega, by omega, by omega, hr2.below hb3, Gr2.of (gr_trans_below hgA hb3), fun a ha => by cases ha; exact hr2.lt⟩
      · have hu2' : (u == 2) = false := by simpa using hu2
        clear hu2
        go_wp2_with fail
        go_ret
        exact ⟨ao, n, c, l, p + 1, rfl, ho1.rdc, by omega, by omega, by omega, hr1, Gr2.of hg1, fun a ha => Nat.lt_of_lt_of_le hlo (ho1.lt a ha).1⟩

/-- What l7Set leaves. -/
def SetP (w : World) (g p : Nat) (e : Ending) (w' : World) : Prop :=
  ∃ a2 n2 c2, ∃ l2 : List Int, ∃ q, e = .returned (.slice a2 n2 c2) ∧ Own w' w.heap.size a2 n2 c2 l2 ∧ l2.length ≤ 17 ∧ p ≤ q ∧ q ≤ p + 10 ∧ Rdr w' g q ∧ w.grownBy w' (some g)

set_option maxRecDepth 100000 in
set_option maxHeartbeats 800000 in
theorem l7Set_c {w : World} {g p : Nat} (ch : Int) (h : Rdr w g p) (hp : p ≤ 1073740000) : Calls Tryd.prog 33 #[.pointer (some ⟨g, 0, none⟩), .int .i64 ch] w (SetP w g p) := by
  have hgl := h.lt
  have ho0 : OwnV (w.alloc (.cells #[] 3)) w.heap.size (.slice (some ⟨w.heap.size, 0, none⟩) 0 0) [] := OwnV.made0 w (Nat.le_refl _)
  have hr0 := h.alloc (.cells #[] 3)
  have hg0 := gr_of_below ((Below.refl _ _).alloc (Nat.le_refl w.heap.size) (.cells #[] 3)) (some g)
  clear h
  go_enter Tryd.func33, Tryd.ntmps33
  go_wp2_with fail
  refine (pick_c _ hr0 (by omega)).mono ?_; rintro e w3 ⟨m, rfl, m0, m1, hr4, hg4⟩
  have hgD := hg0.trans hg4
  have ho1 := ho0.gr hg4 hgl
  clear hg4 hr0 ho0 hg0
  go_wp2_with fail
  go_loopw [5, 6] (fun v i wr => ∃ (k : Nat) (l : List Int), i = .int .i64 (k : Nat) ∧ l.length + k ≤ 3 ∧ OwnV wr w.heap.size v l ∧ Rdr wr g (p + 1 + l.length) ∧ w.grownBy wr (some g)) (fun _ i _ => (intOf i).toNat)
  case atStart =>
    obtain ⟨k, hk⟩ := Int.eq_ofNat_of_zero_le m0
    exact ⟨k, [], by rw [hk], by simp; omega, ho1, hr4, hgD⟩
  case round =>
    clear ho1 hr4 hgD m0 m1
    obtain ⟨k, l, rfl, hlk, ho, hr, hg⟩ := hrel
    have hz := hg.size
    by_cases hk0 : 0 < k
    · go_wp2_with fail
      refine (pick_c _ hr (by omega)).mono ?_; rintro e w4 ⟨v2, rfl, v20, v21, hr5, hg5⟩
      have ho2 := ho.gr hg5 hgl
      have hgE := hg.trans hg5
      have hzE := hgE.size
      clear ho hg hg5 hr
      go_wp2_with (at_builtin; refine wp_app1 w4 rfl (.tmp 14) (.tmp 18) rfl w.heap.size _ l v2 rfl ho2 rfl (by omega) hzE ?_; intro v' w5 ho3 _ hb5)
      have hr6 := hr5.farGt2 hb5 hgl
      have hgF := gr_trans_below2 hgE hb5
      clear ho2 hr5 hgE hb5
      go_roundw
      case rel => exact ⟨k - 1, l ++ [v2], by go_num, by simp; omega, ho3, by simpa [Nat.add_assoc] using hr6, hgF⟩
      case measure => simp [intOf]; omega
    · obtain rfl : k = 0 := by omega
      obtain ⟨a2, n2, c2, hv, ho2⟩ := ho.own (by omega)
      subst hv
      have HN2 := Lib.hid ho2.1
      clear ho
      go_wp2_with fail
      refine (pick_c _ hr (by omega)).mono ?_; rintro e w4 ⟨u, rfl, u0, u1, hr5, hg5⟩
      have ho3 := ho2.gr hg5 hgl
      have hgE := hg.trans hg5
      have hzE := hgE.size
      clear ho2 hg hg5 hr
      by_cases hu0 : (u == 0) = true
      · go_wp2_with fail
        refine (num_lit [-1, 16, 15] hr5 (by omega) rfl rfl (by decide) (by decide)).mono ?_; rintro e w6 ⟨x, rfl, hx, hr6, hg6⟩
        have hb1 : Below w4.heap.size w4 (w4.alloc (.cells #[.int .i64 (-1), .int .i64 16, .int .i64 15] 3)) := (Below.refl _ _).alloc (Nat.le_refl _) _
        have ho4 := (ho3.below hb1).gr hg6 hgl
        have hgF := (gr_trans_below hgE hb1).trans hg6
        have hzF := hgF.size
        clear hx hr5 hgE ho3 hb1 hg6
        have hov : OwnV w6 w.heap.size (.slice a2 n2 c2) l := by have := ho4.2.2; unfold OwnV; rw [← HN2.out]; exact this
        go_wp2_with (at_builtin; refine wp_app1 w6 rfl (.tmp 24) (.tmp 28) rfl w.heap.size _ l x rfl hov rfl (by omega) hzF ?_; intro v' w7 ho5 _ hb7)
        obtain ⟨a3, n3, c3, hv, ho6⟩ := ho5.own (by simp; omega)
        subst hv
        go_ret
        exact ⟨a3, n3, c3, _, _, rfl, ho6, by simp; omega, by omega, by omega, hr6.farGt2 hb7 hgl, gr_trans_below2 hgF hb7⟩
      · have hu0' : (u == 0) = false := by simpa using hu0
        clear hu0
        by_cases hu1 : (u == 1) = true
        · go_wp2_with fail
          refine (num_lit [16, 17] hr5 (by omega) rfl rfl (by decide) (by decide)).mono ?_; rintro e w6 ⟨x, rfl, hx, hr6, hg6⟩
          have hx2 : 16 ≤ x ∧ x ≤ 17 := by simp at hx; omega
          have hgA := (gr_trans_below hgE ((Below.refl _ _).alloc (Nat.le_refl w4.heap.size) _)).trans hg6
          have hzA := hgA.size
          clear hx hr5 hgE ho3 hg6
          obtain ⟨X, rfl⟩ := Int.eq_ofNat_of_zero_le (show 0 ≤ x by omega)
          go_wp2_with (at_make; refine wp_make w6 rfl (.tmp 34) (.tmp 34) rfl .i64 .i64 X rfl rfl (by omega) ?_; intro w7 hown hb3)
          have ho7 : Own w7 w6.heap.size (some ⟨w6.heap.size, 0, none⟩) X X (List.replicate X 0) := ⟨by simp, by omega, hown⟩
          go_ret
          exact ⟨_, _, _, _, _, rfl, ho7.mono hzA, by simp; omega, by omega, by omega, hr6.below hb3, gr_trans_below hgA hb3⟩
        · have hu1' : (u == 1) = false := by simpa using hu1
          clear hu1
          go_wp2_with fail
          go_ret
          exact ⟨a2, n2, c2, l, _, rfl, ho3, by omega, by omega, by omega, hr5, hgE⟩

/-- A number that was drawn, with a bound. -/
def IntP (w : World) (g p k : Nat) (lo hi : Int) (e : Ending) (w' : World) : Prop :=
  ∃ v : Int, ∃ q, e = .returned (.int .i64 v) ∧ lo ≤ v ∧ v ≤ hi ∧ p ≤ q ∧ q ≤ p + k ∧ Rdr w' g q ∧ w.grownBy w' (some g)

end Go.Proofs.YtaoahgngpjoekaaDoor
