/- A cell parsed from its text (parseStation, ParseCell of the program). Conditions: lengths; MaxLen's cell holds a number. -/
import Derived.Test.YtdedcablhahbnaaDoorTk
import Derived.Test.YtdedcablhahbnaaDoorAz
import Derived.Test.YtdedcablhahbnaaDoorD
namespace Go.Proofs.YtdedcablhahbnaaDoor
open Go.RowKit

def MaxW (w : World) : Prop := ∃ m, w.cell? ⟨1, 0, none⟩ = some (.int .i64 m)
theorem MaxW.below {w w' : World} (h : MaxW w) (hb : Below w.heap.size w w') : MaxW w' := by
  obtain ⟨m, h⟩ := h
  exact ⟨m, (hb.cell (lt_of_cell h)).trans h⟩

theorem Split_c (s : ByteArray) (c : UInt8) (w : World) (hm : MaxW w) (hs : s.size ≤ 1000000000) : Calls Tryd.prog 23 #[.string s, .string ⟨#[c]⟩] w fun e w' => e = .returned (.slice (some ⟨w.heap.size, 0, none⟩) (cutT c s).length (cutT c s).length) ∧ w' = w.alloc (.cells ((cutT c s).map Value.string).toArray 9) := by
  obtain ⟨m, hm⟩ := hm
  refine (Tryd.strings_Split s ⟨#[c]⟩ m w (by omega) hm (Nat.le_refl 1)).mono ?_
  rintro e w' ⟨rfl, rfl⟩
  rw [splitB_cut, cutT_len, countB_one]
  exact ⟨rfl, rfl⟩

theorem rdT_new (w : World) (l : List ByteArray) (t : TypeId) (hs : l.length ≤ 1099511627776) : RdT (w.alloc (.cells (l.map Value.string).toArray t)) (some ⟨w.heap.size, 0, none⟩) l.length l := by
  refine ⟨rfl, hs, fun i hi => ⟨w.heap.size, 0, rfl, ?_⟩⟩
  rw [Nat.zero_add]
  exact (Box.new w _ t).cell (by simp [hi])
def RetStB (w : World) (r : Option Stn) (e : Ending) (w' : World) : Prop :=
  e = .returned (.tuple #[.agg #[.string (r.getD zstn).nm, .string (r.getD zstn).ph, .int .i64 (r.getD zstn).g, .int .i64 (r.getD zstn).l], .bool r.isSome]) ∧ Below w.heap.size w w'
theorem parS_len {p : ByteArray} (h : (cutT 58 p).length ≠ 4) : parS p = none := by
  unfold parS
  split
  · next hc => rw [hc] at h; exact absurd rfl h
  · rfl
theorem parS_four {p f0 f1 f2 f3 : ByteArray} (h : cutT 58 p = [f0, f1, f2, f3]) : parS p = match numT f2, numT f3 with
    | some g, some l => if f1.size ≠ 0 ∧ stB f0 (noneT f1) g l = true then some ⟨f0, noneT f1, g, l⟩ else none
    | _, _ => none := by
  unfold parS; rw [h]; rfl
theorem four_of {l : List ByteArray} (h : l.length = 4) : ∃ f0 f1 f2 f3, l = [f0, f1, f2, f3] := by
  match l, h with
  | [a, b, c, d], _ => exact ⟨a, b, c, d, rfl⟩
theorem cutT_szs {c : UInt8} {s : ByteArray} {M : Nat} (h : s.size ≤ M) : ∀ p ∈ cutT c s, p.size ≤ M := fun _ hp => Nat.le_trans (cutT_size hp) h
theorem cutT_count {c : UInt8} {s : ByteArray} : (cutT c s).length ≤ s.size + 1 := by
  rw [cutT_len]; have : (bts s).count c ≤ (bts s).length := List.count_le_length; rw [bts_len] at this; omega

theorem far_four {w : World} {b b0 o o0 o1 o2 o3 : Nat} {v : Value} (hne : b ≠ b0) (h : w.cell? ⟨b, o, none⟩ = some v) (x0 x1 x2 x3 : Value) :
    ((((w.setCell ⟨b0, o0, none⟩ x0).setCell ⟨b0, o1, none⟩ x1).setCell ⟨b0, o2, none⟩ x2).setCell ⟨b0, o3, none⟩ x3).cell? ⟨b, o, none⟩ = some v :=
  cell_far1 hne (cell_far1 hne (cell_far1 hne (cell_far1 hne h x0) x1) x2) x3
theorem two_far4 {w : World} {b b0 o o0 o1 o2 o3 o' : Nat} {v v' : Value} (hne : b ≠ b0) (h : w.cell? ⟨b, o, none⟩ = some v ∧ w.cell? ⟨b, o', none⟩ = some v') (x0 x1 x2 x3 : Value) :
    ((((w.setCell ⟨b0, o0, none⟩ x0).setCell ⟨b0, o1, none⟩ x1).setCell ⟨b0, o2, none⟩ x2).setCell ⟨b0, o3, none⟩ x3).cell? ⟨b, o, none⟩ = some v ∧
    ((((w.setCell ⟨b0, o0, none⟩ x0).setCell ⟨b0, o1, none⟩ x1).setCell ⟨b0, o2, none⟩ x2).setCell ⟨b0, o3, none⟩ x3).cell? ⟨b, o', none⟩ = some v' :=
  ⟨far_four hne h.1 _ _ _ _, far_four hne h.2 _ _ _ _⟩

set_option maxRecDepth 100000 in
set_option maxHeartbeats 6400000 in
theorem parseStation_c (p : ByteArray) (w : World) (hm : MaxW w) (hs : p.size ≤ 1000000000) : Calls Tryd.prog 24 #[.string p] w (RetStB w (parS p)) := by
  have hB0 : Below w.heap.size w (w.alloc (.cells #[.string ByteArray.empty, .string ByteArray.empty, .int .i64 0, .int .i64 0] 37)) := (Below.refl _ _).alloc (Nat.le_refl _) _
  have hX0 := Box.new w #[.string ByteArray.empty, .string ByteArray.empty, .int .i64 0, .int .i64 0] 37
  have hm0 := hm.below hB0
  have hz0 : w.heap.size < (w.alloc (.cells #[.string ByteArray.empty, .string ByteArray.empty, .int .i64 0, .int .i64 0] 37)).heap.size := hX0.lt
  have hWW : w.heap.size ≤ w.heap.size := Nat.le_refl _
  have hc9 : (cutT 58 p).length ≤ 1000000001 := by have := cutT_count (c := 58) (s := p); omega
  have hsz := cutT_szs (c := 58) hs
  by_cases h4 : (cutT 58 p).length = 4
  · obtain ⟨f0, f1, f2, f3, hf⟩ := four_of h4
    have HP := Lib.hid (parS_four hf)
    rw [hf] at hsz
    have z1 := hsz f1 (by simp)
    have z2 := hsz f2 (by simp)
    have z3 := hsz f3 (by simp)
    have z0 := hsz f0 (by simp)
    have HS := Lib.hid (fun c (h : MaxW c) => Split_c p 58 c h hs)
    rw [hf] at HS
    clear hsz h4 hc9 hf
    by_cases hz1 : f1.size = 0
    · have hr := Lib.hid (show parS p = none by
        rw [HP.out]
        split
        · rw [if_neg (by rintro ⟨h, _⟩; exact h hz1)]
        · rfl)
      obtain rfl : f1 = ⟨#[]⟩ := bts_inj (size_bts hz1)
      clear hz1 HP
      go_enter Tryd.func24, Tryd.ntmps24
      go_wp2_with fail
      refine (HS.out _ hm0).mono ?_; rintro e w1 ⟨rfl, rfl⟩
      have hBE := hB0.alloc (Nat.le_of_lt hz0) (.cells ([f0, ⟨#[]⟩, f2, f3].map Value.string).toArray 9)
      have hX1 := hX0.alloc (.cells ([f0, ⟨#[]⟩, f2, f3].map Value.string).toArray 9)
      have hF := Box.new (w.alloc (.cells #[.string ByteArray.empty, .string ByteArray.empty, .int .i64 0, .int .i64 0] 37)) ([f0, ⟨#[]⟩, f2, f3].map Value.string).toArray 9
      have c0 := hF.cell (i := 0) (v := .string f0) rfl
      have c1 := hF.cell (i := 1) (v := .string ⟨#[]⟩) rfl
      have c2 := hF.cell (i := 2) (v := .string f2) rfl
      have c3 := hF.cell (i := 3) (v := .string f3) rfl
      have hGz := hF.lt
      clear hF hX0 hB0 hm0
      generalize (w.alloc (.cells #[.string ByteArray.empty, .string ByteArray.empty, .int .i64 0, .int .i64 0] 37)).alloc (.cells ([f0, ⟨#[]⟩, f2, f3].map Value.string).toArray 9) = W1 at *
      generalize (w.alloc (.cells #[.string ByteArray.empty, .string ByteArray.empty, .int .i64 0, .int .i64 0] 37)).heap.size = G at *
      have d0 := hX1.cell (i := 0) rfl
      have d1 := hX1.cell (i := 1) rfl
      have d2 := hX1.cell (i := 2) rfl
      have d3 := hX1.cell (i := 3) rfl
      have e0 := hX1.free 0
      have e1 := hX1.free 1
      have e2 := hX1.free 2
      have e3 := hX1.free 3
      go_wp2_with fail
      refine bodyPost_ret (v := .tuple #[.agg #[.string ⟨#[]⟩, .string ⟨#[]⟩, .int .i64 0, .int .i64 0], .bool false]) (by simp [results, Tryd.results24, go_sem, d0, d1, d2, d3]) rfl ⟨by rw [hr.out]; rfl, ?_⟩
      exact (((hBE.setCell (by exact hWW) _).setCell (by exact hWW) _).setCell (by exact hWW) _).setCell (by exact hWW) _
    · have t1 := tl_ne (bts_size hz1)
      have t2 : f1.toList.isEmpty = false := by rw [tl_bts]; simpa using bts_size hz1
      have HZ1 := Lib.hid hz1
      clear hz1
      cases hg2 : numT f2 with
      | none =>
        have hr := Lib.hid (show parS p = none by rw [HP.out, hg2])
        have HG2 := Lib.hid hg2
        obtain ⟨r3, hr3⟩ : ∃ r3, numT f3 = r3 := ⟨_, rfl⟩
        have HG3 := Lib.hid hr3
        clear hg2 hr3 HP
        go_enter Tryd.func24, Tryd.ntmps24
        go_wp2_with fail
        refine (HS.out _ hm0).mono ?_; rintro e w1 ⟨rfl, rfl⟩
        have hBE := hB0.alloc (Nat.le_of_lt hz0) (.cells ([f0, f1, f2, f3].map Value.string).toArray 9)
        have hX1 := hX0.alloc (.cells ([f0, f1, f2, f3].map Value.string).toArray 9)
        have hF := Box.new (w.alloc (.cells #[.string ByteArray.empty, .string ByteArray.empty, .int .i64 0, .int .i64 0] 37)) ([f0, f1, f2, f3].map Value.string).toArray 9
        have c0 := hF.cell (i := 0) (v := .string f0) rfl
        have c1 := hF.cell (i := 1) (v := .string f1) rfl
        have c2 := hF.cell (i := 2) (v := .string f2) rfl
        have c3 := hF.cell (i := 3) (v := .string f3) rfl
        have hGz := hF.lt
        clear hF hX0 hB0 hm0
        generalize (w.alloc (.cells #[.string ByteArray.empty, .string ByteArray.empty, .int .i64 0, .int .i64 0] 37)).alloc (.cells ([f0, f1, f2, f3].map Value.string).toArray 9) = W1 at *
        generalize (w.alloc (.cells #[.string ByteArray.empty, .string ByteArray.empty, .int .i64 0, .int .i64 0] 37)).heap.size = G at *
        go_wp2_with fail
        refine (parseNumber_c f2 _ (by omega)).mono ?_; rintro e w' ⟨rfl, rfl⟩
        rw [HG2.out]
        simp only [Option.getD_none, Option.isSome_none]
        go_wp2_with fail
        refine (parseNumber_c f3 _ (by omega)).mono ?_; rintro e w' ⟨rfl, rfl⟩
        rw [HG3.out]
        generalize r3.getD 0 = l3 at *
        generalize r3.isSome = b3 at *
        have C : W1.drew.cell? ⟨G, 0, none⟩ = some (.string f0) ∧ W1.drew.cell? ⟨G, 1, none⟩ = some (.string f1) := ⟨c0, c1⟩
        have hWA := (Below.refl W1.heap.size W1).alloc (Nat.le_refl _) (.cells #[.string ⟨#[]⟩, .string ⟨#[]⟩, .int .i64 0, .int .i64 0] 37)
        have CA : (W1.alloc (.cells #[.string ⟨#[]⟩, .string ⟨#[]⟩, .int .i64 0, .int .i64 0] 37)).drew.cell? ⟨G, 0, none⟩ = some (.string f0) ∧ (W1.alloc (.cells #[.string ⟨#[]⟩, .string ⟨#[]⟩, .int .i64 0, .int .i64 0] 37)).drew.cell? ⟨G, 1, none⟩ = some (.string f1) := ⟨(hWA.cell (lt_of_cell c0)).trans c0, (hWA.cell (lt_of_cell c1)).trans c1⟩
        have hWB := (Below.refl W1.heap.size W1).alloc (Nat.le_refl _) (.cells #[.string f0, .string (noneT f1), .int .i64 0, .int .i64 l3] 37)
        have CB : (W1.alloc (.cells #[.string f0, .string (noneT f1), .int .i64 0, .int .i64 l3] 37)).drew.cell? ⟨G, 0, none⟩ = some (.string f0) ∧ (W1.alloc (.cells #[.string f0, .string (noneT f1), .int .i64 0, .int .i64 l3] 37)).drew.cell? ⟨G, 1, none⟩ = some (.string f1) := ⟨(hWB.cell (lt_of_cell c0)).trans c0, (hWB.cell (lt_of_cell c1)).trans c1⟩
        have hwW : w.heap.size < W1.heap.size := by omega
        have hwn : w.heap.size ≠ W1.heap.size := by omega
        go_wp2_with fail
        go_region_held3 (fun w' => w'.cell? ⟨G, 0, none⟩ = some (.string f0) ∧ w'.cell? ⟨G, 1, none⟩ = some (.string f1)) (first | with_reducible exact C | with_reducible exact CA | with_reducible exact CB) (first | (go_at_call 44; refine (fieldBits_c _ _).mono ?_; rintro e w' ⟨rfl, rfl⟩))
        all_goals
          have hBE : Below w.heap.size w (W1.alloc (.cells #[.string f0, .string (noneT f1), .int .i64 0, .int .i64 l3] 37)).drew := Below.drew (hBE.alloc (Nat.le_of_lt hwW) (.cells #[.string f0, .string (noneT f1), .int .i64 0, .int .i64 l3] 37))
          have hX1 : Box (W1.alloc (.cells #[.string f0, .string (noneT f1), .int .i64 0, .int .i64 l3] 37)).drew w.heap.size #[.string ByteArray.empty, .string ByteArray.empty, .int .i64 0, .int .i64 0] 37 := hX1.alloc (.cells #[.string f0, .string (noneT f1), .int .i64 0, .int .i64 l3] 37)
          have hNB : Box (W1.alloc (.cells #[.string f0, .string (noneT f1), .int .i64 0, .int .i64 l3] 37)).drew W1.heap.size #[.string f0, .string (noneT f1), .int .i64 0, .int .i64 l3] 37 := Box.new W1 _ _
          generalize (W1.alloc (.cells #[.string f0, .string (noneT f1), .int .i64 0, .int .i64 l3] 37)).drew = X at *
          generalize W1.heap.size = B at *
          clear c0 c1 c2 c3 C CA CB hWA hWB hGz
          have d0 := hX1.cell (i := 0) rfl
          have d1 := hX1.cell (i := 1) rfl
          have d2 := hX1.cell (i := 2) rfl
          have d3 := hX1.cell (i := 3) rfl
          have e0 := hX1.free 0
          have e1 := hX1.free 1
          have e2 := hX1.free 2
          have e3 := hX1.free 3
          go_wp2_with fail
          refine bodyPost_ret (v := .tuple #[.agg #[.string ⟨#[]⟩, .string ⟨#[]⟩, .int .i64 0, .int .i64 0], .bool false]) (by simp [results, Tryd.results24, go_sem, d0, d1, d2, d3]) rfl ⟨by rw [hr.out]; rfl, ?_⟩
          exact (((hBE.setCell (by exact hWW) _).setCell (by exact hWW) _).setCell (by exact hWW) _).setCell (by exact hWW) _
      | some g =>
        have HG2 := Lib.hid hg2
        cases hg3 : numT f3 with
        | none =>
          have hr := Lib.hid (show parS p = none by rw [HP.out, hg2, hg3])
          have HG3 := Lib.hid hg3
          clear hg2 hg3 HP
          go_enter Tryd.func24, Tryd.ntmps24
          go_wp2_with fail
          refine (HS.out _ hm0).mono ?_; rintro e w1 ⟨rfl, rfl⟩
          have hBE := hB0.alloc (Nat.le_of_lt hz0) (.cells ([f0, f1, f2, f3].map Value.string).toArray 9)
          have hX1 := hX0.alloc (.cells ([f0, f1, f2, f3].map Value.string).toArray 9)
          have hF := Box.new (w.alloc (.cells #[.string ByteArray.empty, .string ByteArray.empty, .int .i64 0, .int .i64 0] 37)) ([f0, f1, f2, f3].map Value.string).toArray 9
          have c0 := hF.cell (i := 0) (v := .string f0) rfl
          have c1 := hF.cell (i := 1) (v := .string f1) rfl
          have c2 := hF.cell (i := 2) (v := .string f2) rfl
          have c3 := hF.cell (i := 3) (v := .string f3) rfl
          have hGz := hF.lt
          clear hF hX0 hB0 hm0
          generalize (w.alloc (.cells #[.string ByteArray.empty, .string ByteArray.empty, .int .i64 0, .int .i64 0] 37)).alloc (.cells ([f0, f1, f2, f3].map Value.string).toArray 9) = W1 at *
          generalize (w.alloc (.cells #[.string ByteArray.empty, .string ByteArray.empty, .int .i64 0, .int .i64 0] 37)).heap.size = G at *
          go_wp2_with fail
          refine (parseNumber_c f2 _ (by omega)).mono ?_; rintro e w' ⟨rfl, rfl⟩
          rw [HG2.out]
          simp only [Option.getD_some, Option.isSome_some]
          go_wp2_with fail
          refine (parseNumber_c f3 _ (by omega)).mono ?_; rintro e w' ⟨rfl, rfl⟩
          rw [HG3.out]
          simp only [Option.getD_none, Option.isSome_none]
          have C : W1.drew.cell? ⟨G, 0, none⟩ = some (.string f0) ∧ W1.drew.cell? ⟨G, 1, none⟩ = some (.string f1) := ⟨c0, c1⟩
          have hWA := (Below.refl W1.heap.size W1).alloc (Nat.le_refl _) (.cells #[.string ⟨#[]⟩, .string ⟨#[]⟩, .int .i64 0, .int .i64 0] 37)
          have CA : (W1.alloc (.cells #[.string ⟨#[]⟩, .string ⟨#[]⟩, .int .i64 0, .int .i64 0] 37)).drew.cell? ⟨G, 0, none⟩ = some (.string f0) ∧ (W1.alloc (.cells #[.string ⟨#[]⟩, .string ⟨#[]⟩, .int .i64 0, .int .i64 0] 37)).drew.cell? ⟨G, 1, none⟩ = some (.string f1) := ⟨(hWA.cell (lt_of_cell c0)).trans c0, (hWA.cell (lt_of_cell c1)).trans c1⟩
          have hWB := (Below.refl W1.heap.size W1).alloc (Nat.le_refl _) (.cells #[.string f0, .string (noneT f1), .int .i64 g, .int .i64 0] 37)
          have CB : (W1.alloc (.cells #[.string f0, .string (noneT f1), .int .i64 g, .int .i64 0] 37)).drew.cell? ⟨G, 0, none⟩ = some (.string f0) ∧ (W1.alloc (.cells #[.string f0, .string (noneT f1), .int .i64 g, .int .i64 0] 37)).drew.cell? ⟨G, 1, none⟩ = some (.string f1) := ⟨(hWB.cell (lt_of_cell c0)).trans c0, (hWB.cell (lt_of_cell c1)).trans c1⟩
          have hwW : w.heap.size < W1.heap.size := by omega
          have hwn : w.heap.size ≠ W1.heap.size := by omega
          go_wp2_with fail
          go_region_held3 (fun w' => w'.cell? ⟨G, 0, none⟩ = some (.string f0) ∧ w'.cell? ⟨G, 1, none⟩ = some (.string f1)) (first | with_reducible exact C | with_reducible exact CA | with_reducible exact CB) (first | (go_at_call 44; refine (fieldBits_c _ _).mono ?_; rintro e w' ⟨rfl, rfl⟩))
          all_goals
            have hBE : Below w.heap.size w (W1.alloc (.cells #[.string f0, .string (noneT f1), .int .i64 g, .int .i64 0] 37)).drew := Below.drew (hBE.alloc (Nat.le_of_lt hwW) (.cells #[.string f0, .string (noneT f1), .int .i64 g, .int .i64 0] 37))
            have hX1 : Box (W1.alloc (.cells #[.string f0, .string (noneT f1), .int .i64 g, .int .i64 0] 37)).drew w.heap.size #[.string ByteArray.empty, .string ByteArray.empty, .int .i64 0, .int .i64 0] 37 := hX1.alloc (.cells #[.string f0, .string (noneT f1), .int .i64 g, .int .i64 0] 37)
            have hNB : Box (W1.alloc (.cells #[.string f0, .string (noneT f1), .int .i64 g, .int .i64 0] 37)).drew W1.heap.size #[.string f0, .string (noneT f1), .int .i64 g, .int .i64 0] 37 := Box.new W1 _ _
            generalize (W1.alloc (.cells #[.string f0, .string (noneT f1), .int .i64 g, .int .i64 0] 37)).drew = X at *
            generalize W1.heap.size = B at *
            clear c0 c1 c2 c3 C CA CB hWA hWB hGz
            have d0 := hX1.cell (i := 0) rfl
            have d1 := hX1.cell (i := 1) rfl
            have d2 := hX1.cell (i := 2) rfl
            have d3 := hX1.cell (i := 3) rfl
            have e0 := hX1.free 0
            have e1 := hX1.free 1
            have e2 := hX1.free 2
            have e3 := hX1.free 3
            go_wp2_with fail
            refine bodyPost_ret (v := .tuple #[.agg #[.string ⟨#[]⟩, .string ⟨#[]⟩, .int .i64 0, .int .i64 0], .bool false]) (by simp [results, Tryd.results24, go_sem, d0, d1, d2, d3]) rfl ⟨by rw [hr.out]; rfl, ?_⟩
            exact (((hBE.setCell (by exact hWW) _).setCell (by exact hWW) _).setCell (by exact hWW) _).setCell (by exact hWW) _
        | some l =>
          have HG3 := Lib.hid hg3
          clear hg2 hg3
          go_enter Tryd.func24, Tryd.ntmps24
          go_wp2_with fail
          refine (HS.out _ hm0).mono ?_; rintro e w1 ⟨rfl, rfl⟩
          have hBE := hB0.alloc (Nat.le_of_lt hz0) (.cells ([f0, f1, f2, f3].map Value.string).toArray 9)
          have hX1 := hX0.alloc (.cells ([f0, f1, f2, f3].map Value.string).toArray 9)
          have hF := Box.new (w.alloc (.cells #[.string ByteArray.empty, .string ByteArray.empty, .int .i64 0, .int .i64 0] 37)) ([f0, f1, f2, f3].map Value.string).toArray 9
          have c0 := hF.cell (i := 0) (v := .string f0) rfl
          have c1 := hF.cell (i := 1) (v := .string f1) rfl
          have c2 := hF.cell (i := 2) (v := .string f2) rfl
          have c3 := hF.cell (i := 3) (v := .string f3) rfl
          have hGz := hF.lt
          clear hF hX0 hB0 hm0
          generalize (w.alloc (.cells #[.string ByteArray.empty, .string ByteArray.empty, .int .i64 0, .int .i64 0] 37)).alloc (.cells ([f0, f1, f2, f3].map Value.string).toArray 9) = W1 at *
          generalize (w.alloc (.cells #[.string ByteArray.empty, .string ByteArray.empty, .int .i64 0, .int .i64 0] 37)).heap.size = G at *
          go_wp2_with fail
          refine (parseNumber_c f2 _ (by omega)).mono ?_; rintro e w' ⟨rfl, rfl⟩
          rw [HG2.out]
          simp only [Option.getD_some, Option.isSome_some]
          go_wp2_with fail
          refine (parseNumber_c f3 _ (by omega)).mono ?_; rintro e w' ⟨rfl, rfl⟩
          rw [HG3.out]
          simp only [Option.getD_some, Option.isSome_some]
          have C : W1.drew.cell? ⟨G, 0, none⟩ = some (.string f0) ∧ W1.drew.cell? ⟨G, 1, none⟩ = some (.string f1) := ⟨c0, c1⟩
          have hWA := (Below.refl W1.heap.size W1).alloc (Nat.le_refl _) (.cells #[.string ⟨#[]⟩, .string ⟨#[]⟩, .int .i64 0, .int .i64 0] 37)
          have CA : (W1.alloc (.cells #[.string ⟨#[]⟩, .string ⟨#[]⟩, .int .i64 0, .int .i64 0] 37)).drew.cell? ⟨G, 0, none⟩ = some (.string f0) ∧ (W1.alloc (.cells #[.string ⟨#[]⟩, .string ⟨#[]⟩, .int .i64 0, .int .i64 0] 37)).drew.cell? ⟨G, 1, none⟩ = some (.string f1) := ⟨(hWA.cell (lt_of_cell c0)).trans c0, (hWA.cell (lt_of_cell c1)).trans c1⟩
          have hWB := (Below.refl W1.heap.size W1).alloc (Nat.le_refl _) (.cells #[.string f0, .string (noneT f1), .int .i64 g, .int .i64 l] 37)
          have CB : (W1.alloc (.cells #[.string f0, .string (noneT f1), .int .i64 g, .int .i64 l] 37)).drew.cell? ⟨G, 0, none⟩ = some (.string f0) ∧ (W1.alloc (.cells #[.string f0, .string (noneT f1), .int .i64 g, .int .i64 l] 37)).drew.cell? ⟨G, 1, none⟩ = some (.string f1) := ⟨(hWB.cell (lt_of_cell c0)).trans c0, (hWB.cell (lt_of_cell c1)).trans c1⟩
          have hwW : w.heap.size < W1.heap.size := by omega
          have hwn : w.heap.size ≠ W1.heap.size := by omega
          go_wp2_with fail
          go_region_held3 (fun w' => w'.cell? ⟨G, 0, none⟩ = some (.string f0) ∧ w'.cell? ⟨G, 1, none⟩ = some (.string f1)) (first | with_reducible exact C | with_reducible exact CA | with_reducible exact CB) (first | (go_at_call 44; refine (fieldBits_c _ _).mono ?_; rintro e w' ⟨rfl, rfl⟩))
          all_goals
            have hBE : Below w.heap.size w (W1.alloc (.cells #[.string f0, .string (noneT f1), .int .i64 g, .int .i64 l] 37)).drew := Below.drew (hBE.alloc (Nat.le_of_lt hwW) (.cells #[.string f0, .string (noneT f1), .int .i64 g, .int .i64 l] 37))
            have hX1 : Box (W1.alloc (.cells #[.string f0, .string (noneT f1), .int .i64 g, .int .i64 l] 37)).drew w.heap.size #[.string ByteArray.empty, .string ByteArray.empty, .int .i64 0, .int .i64 0] 37 := hX1.alloc (.cells #[.string f0, .string (noneT f1), .int .i64 g, .int .i64 l] 37)
            have hNB : Box (W1.alloc (.cells #[.string f0, .string (noneT f1), .int .i64 g, .int .i64 l] 37)).drew W1.heap.size #[.string f0, .string (noneT f1), .int .i64 g, .int .i64 l] 37 := Box.new W1 _ _
            generalize (W1.alloc (.cells #[.string f0, .string (noneT f1), .int .i64 g, .int .i64 l] 37)).drew = X at *
            generalize W1.heap.size = B at *
            clear c0 c1 c2 c3 C CA CB hWA hWB hGz
            have k0 := hNB.cell (i := 0) rfl
            have k1 := hNB.cell (i := 1) rfl
            have k2 := hNB.cell (i := 2) rfl
            have k3 := hNB.cell (i := 3) rfl
            have hNl := hNB.lt
            have hXl := hX1.lt
            go_wp2_with fail
            refine (stationValid_c f0 (noneT f1) g l _).mono ?_; rintro e w5 ⟨rfl, hb5⟩
            have hBE := hBE.trans (hb5.mono hBE.size)
            have hX1 := hX1.below hb5 hXl
            have hNB := hNB.below hb5 hNl
            clear k0 k1 k2 k3
            have k0 := hNB.cell (i := 0) rfl
            have k1 := hNB.cell (i := 1) rfl
            have k2 := hNB.cell (i := 2) rfl
            have k3 := hNB.cell (i := 3) rfl
            by_cases hsb : stB f0 (noneT f1) g l = true
            · have hr := Lib.hid (show parS p = some ⟨f0, noneT f1, g, l⟩ by rw [HP.out, HG2.out, HG3.out]; exact if_pos ⟨HZ1.out, hsb⟩)
              rw [hsb]
              clear hsb
              have d0 := hX1.cell (i := 0) rfl
              have d1 := hX1.cell (i := 1) rfl
              have d2 := hX1.cell (i := 2) rfl
              have d3 := hX1.cell (i := 3) rfl
              have e0 := hX1.free 0
              have e1 := hX1.free 1
              have e2 := hX1.free 2
              have e3 := hX1.free 3
              go_wp2_with fail
              refine bodyPost_ret (v := .tuple #[.agg #[.string f0, .string (noneT f1), .int .i64 g, .int .i64 l], .bool true]) (by simp [results, Tryd.results24, go_sem, d0, d1, d2, d3]) rfl ⟨by rw [hr.out]; rfl, ?_⟩
              exact (((hBE.setCell (by exact hWW) _).setCell (by exact hWW) _).setCell (by exact hWW) _).setCell (by exact hWW) _
            · have hr := Lib.hid (show parS p = none by rw [HP.out, HG2.out, HG3.out]; exact if_neg fun h => hsb h.2)
              rw [show stB f0 (noneT f1) g l = false by simpa using hsb]
              clear hsb
              have d0 := hX1.cell (i := 0) rfl
              have d1 := hX1.cell (i := 1) rfl
              have d2 := hX1.cell (i := 2) rfl
              have d3 := hX1.cell (i := 3) rfl
              have e0 := hX1.free 0
              have e1 := hX1.free 1
              have e2 := hX1.free 2
              have e3 := hX1.free 3
              have d0 := hX1.cell (i := 0) rfl
              have d1 := hX1.cell (i := 1) rfl
              have d2 := hX1.cell (i := 2) rfl
              have d3 := hX1.cell (i := 3) rfl
              have e0 := hX1.free 0
              have e1 := hX1.free 1
              have e2 := hX1.free 2
              have e3 := hX1.free 3
              go_wp2_with fail
              refine bodyPost_ret (v := .tuple #[.agg #[.string ⟨#[]⟩, .string ⟨#[]⟩, .int .i64 0, .int .i64 0], .bool false]) (by simp [results, Tryd.results24, go_sem, d0, d1, d2, d3]) rfl ⟨by rw [hr.out]; rfl, ?_⟩
              exact (((hBE.setCell (by exact hWW) _).setCell (by exact hWW) _).setCell (by exact hWW) _).setCell (by exact hWW) _
  · have hr := Lib.hid (parS_len h4)
    have hne : (((cutT 58 p).length : Int) != 4) = true := by rw [bne_iff_ne]; omega
    have hne2 : (((cutT 58 p).length : Int) == 4) = false := by rw [beq_eq_false_iff_ne]; omega
    have HS := Lib.hid (fun c (h : MaxW c) => Split_c p 58 c h hs)
    obtain ⟨P, hP⟩ : ∃ P, P = cutT 58 p := ⟨_, rfl⟩
    rw [← hP] at HS hne hne2 hc9
    clear h4 hsz hP
    go_enter Tryd.func24, Tryd.ntmps24
    go_wp2_with fail
    refine (HS.out _ hm0).mono ?_; rintro e w1 ⟨rfl, rfl⟩
    have hB1 := hB0.alloc (Nat.le_of_lt hz0) (.cells (P.map Value.string).toArray 9)
    have hX1 := hX0.alloc (.cells (P.map Value.string).toArray 9)
    have d0 := hX1.cell (i := 0) rfl
    have d1 := hX1.cell (i := 1) rfl
    have d2 := hX1.cell (i := 2) rfl
    have d3 := hX1.cell (i := 3) rfl
    have e0 := hX1.free 0
    have e1 := hX1.free 1
    have e2 := hX1.free 2
    have e3 := hX1.free 3
    clear hX0 hX1 hB0
    go_wp2_with fail
    refine bodyPost_ret (v := .tuple #[.agg #[.string ⟨#[]⟩, .string ⟨#[]⟩, .int .i64 0, .int .i64 0], .bool false]) (by simp [results, Tryd.results24, go_sem]) rfl ⟨by rw [hr.out]; rfl, ?_⟩
    exact hB1

theorem allO_none {α β : Type} {f : α → Option β} : ∀ {l : List α} {k : Nat} (h : k < l.length), f l[k] = none → allO f l = none
  | x :: l, 0, _, hf => by
    simp only [List.getElem_cons_zero] at hf
    unfold allO; rw [hf]
  | x :: l, k + 1, h, hf => by
    simp only [List.getElem_cons_succ] at hf
    unfold allO
    rw [allO_none (by simpa using h) hf]
    cases f x <;> rfl
theorem parT_bad {t : ByteArray} (hd : bts t ≠ [45]) {k : Nat} (h : k < (cutT 59 t).length) (hf : parS (cutT 59 t)[k] = none) : parT t = none := by
  unfold parT; rw [if_neg hd, allO_none h hf]
theorem parT_all {t : ByteArray} (hd : bts t ≠ [45]) {S : List Stn} (hl : S.length = (cutT 59 t).length) (hf : ∀ i (h : i < (cutT 59 t).length) (h' : i < S.length), parS (cutT 59 t)[i] = some S[i]) : parT t = if cellB S = true then some S else none := by
  unfold parT; rw [if_neg hd, allO_mk hl hf]
theorem retSB_some' {w w' : World} {r : Option (List Stn)} {l : List Stn} {ao : Option Addr} {n c : Nat} (hr : r = some l) (h : OwnS w' w.heap.size ao n c l) (hb : Below w.heap.size w w') : RetSB w r (.returned (.tuple #[.slice ao n c, .bool true])) w' := by
  subst hr; exact ⟨ao, n, c, rfl, h, hb⟩
theorem rdT_box {w : World} {b : Nat} {l : List ByteArray} {t : TypeId} (h : Box w b (l.map Value.string).toArray t) (hs : l.length ≤ 1099511627776) : RdT w (some ⟨b, 0, none⟩) l.length l := by
  refine ⟨rfl, hs, fun i hi => ⟨b, 0, rfl, ?_⟩⟩
  rw [Nat.zero_add]
  exact h.cell (by simp [hi])
theorem own_off {w : World} {lo b n size : Nat} {v : Value} {xs : List Value} {cs : Array Value} {t t' : TypeId} (h : w.ownsRow lo t size v n xs) (hB : Box w b cs t') (hne : t ≠ t') : some b ≠ v.ownBlock := by
  intro e
  rcases h.2 with ⟨h1, h2⟩ | ⟨g, cap, cur, hv, hg, hb, _⟩
  · rw [h1] at e; cases e
  · rw [hv] at e
    have e2 : b = g := Option.some.inj e
    subst e2
    unfold Box at hB
    rw [hB] at hb
    simp at hb
    exact hne hb.2.symm
theorem Box.grown {w w' : World} {b : Nat} {cs : Array Value} {t : TypeId} {o : Option Nat} (h : Box w b cs t) (hg : w.grownBy w' o) (hne : some b ≠ o) : Box w' b cs t := by
  unfold Box; rw [hg.block b h.lt hne]; exact h
theorem parT_dash {t : ByteArray} (hd : bts t = [45]) : parT t = some [] := by unfold parT; rw [if_pos hd]
theorem snoc_get {S : List Stn} {x : Stn} {P : List ByteArray} {k : Nat} (hl : S.length = k) (hk : k < P.length) (h : ∀ i (h : i < P.length) (h' : i < S.length), parS P[i] = some S[i]) (hx : parS P[k] = some x) : ∀ i (h : i < P.length) (h' : i < (S ++ [x]).length), parS P[i] = some (S ++ [x])[i] := by
  intro i h1 h2
  rw [List.length_append, List.length_singleton] at h2
  by_cases e : i < S.length
  · rw [List.getElem_append_left e]; exact h i h1 e
  · obtain rfl : i = k := by omega
    rw [List.getElem_append_right (by omega)]
    simp only [hl, Nat.sub_self, List.getElem_cons_zero]
    exact hx

set_option maxRecDepth 100000 in
set_option maxHeartbeats 3200000 in
theorem ParseCell_c (t : ByteArray) (w : World) (hm : MaxW w) (hs : t.size ≤ 1000000000) : Calls Tryd.prog 8 #[.string t] w (RetSB w (parT t)) := by
  have hb0 : Below w.heap.size w (w.alloc (.cells #[] 37)) := (Below.refl _ _).alloc (Nat.le_refl _) _
  have ho0 : OwnVS (w.alloc (.cells #[] 37)) w.heap.size (.slice (some ⟨w.heap.size, 0, none⟩) 0 0) [] := OwnVS.made0 w (Nat.le_refl _)
  have hm0 := hm.below hb0
  by_cases hd : bts t = [45]
  · have hr := Lib.hid (parT_dash hd)
    have t1 := tl_eq hd
    clear hd
    go_enter Tryd.func8, Tryd.ntmps8
    go_wp2_with fail
    go_ret2
    exact retSB_mk ho0 (by simp) (by rw [hr.out]; rfl) (by rw [hr.out]; rfl) hb0
  · have t1 := tl_ne hd
    have HBAD := Lib.hid (fun k (h : k < (cutT 59 t).length) (hf : parS (cutT 59 t)[k] = none) => parT_bad hd h hf)
    have HALL := Lib.hid (fun S hl hf => parT_all (t := t) hd (S := S) hl hf)
    have HSP := Lib.hid (fun c (h : MaxW c) => Split_c t 59 c h hs)
    have hsz := cutT_szs (c := 59) hs
    have hc9 : (cutT 59 t).length ≤ 1000000001 := by have := cutT_count (c := 59) (s := t); omega
    generalize cutT 59 t = P at *
    have HSZ := Lib.hid hsz
    clear hd hsz
    go_enter Tryd.func8, Tryd.ntmps8
    go_wp2_with fail
    refine (HSP.out _ hm0).mono ?_; rintro e w1 ⟨rfl, rfl⟩
    have hbS := (Below.refl (w.alloc (.cells #[] 37)).heap.size (w.alloc (.cells #[] 37))).alloc (Nat.le_refl _) (.cells (P.map Value.string).toArray 9)
    have hrd := Box.new (w.alloc (.cells #[] 37)) (P.map Value.string).toArray 9
    have hb1 := hb0.trans (hbS.mono hb0.size)
    have ho1 : OwnVS ((w.alloc (.cells #[] 37)).alloc (.cells (P.map Value.string).toArray 9)) w.heap.size (.slice (some ⟨w.heap.size, 0, none⟩) 0 0) [] := ownsRow_below ho0 hbS fun k hk => (ho0.lt k hk).2
    have hm1 := hm0.below hbS
    clear hbS ho0 hb0 hm0
    generalize (w.alloc (.cells #[] 37)).alloc (.cells (P.map Value.string).toArray 9) = w1 at *
    generalize (w.alloc (.cells #[] 37)).heap.size = G at *
    go_wp2_with fail
    go_loopw [4, 16] (fun v i wr => ∃ (k : Nat) (S : List Stn), k ≤ P.length ∧ i = .int .i64 k ∧ Hid (S.length = k) ∧ Hid (∀ i (h : i < P.length) (h' : i < S.length), parS P[i] = some S[i]) ∧ OwnVS wr w.heap.size v S ∧ Box wr G (P.map Value.string).toArray 9 ∧ Below w.heap.size w wr) (fun _ i _ => P.length - (intOf i).toNat)
    case atStart => exact ⟨0, [], Nat.zero_le _, rfl, Lib.hid rfl, Lib.hid (fun i _ h => absurd h (by simp)), ho1, hrd, hb1⟩
    case round =>
      clear ho1 hrd hm1 hb1
      obtain ⟨k, S, hk, rfl, HL, HF, ho, hBX, hb⟩ := hrel
      have hz := hb.size
      have hR := rdT_box hBX (by omega)
      have hM := hm.below hb
      by_cases hlt : k < P.length
      · obtain ⟨b, off, e1, hl, hc⟩ := hR.at hlt
        cases e1
        have hc : wr.cell? ⟨G, k, none⟩ = some (.string P[k]) := by rw [← hc, Nat.zero_add]
        have hpz := HSZ.out _ (List.getElem_mem hl)
        have HSN := Lib.hid (fun x => snoc_get (x := x) HL.out hlt HF.out)
        have HBK := Lib.hid (HBAD.out k hlt)
        cases hq : parS P[k] with
        | none =>
          have hr := Lib.hid (HBK.out hq)
          have HQ := Lib.hid hq
          clear hq
          go_wp2_with fail
          refine (parseStation_c P[k] _ hM hpz).mono ?_; rintro e w2 ⟨rfl, hb2⟩
          rw [HQ.out]
          simp only [Option.getD_none, Option.isSome_none]
          have hb3 := hb.trans (hb2.mono hb.size)
          go_wp2_with fail
          go_ret2
          exact retSB_nil hr.out (hb3.alloc hb3.size _)
        | some x =>
          have HQ := Lib.hid hq
          have HS2 := Lib.hid (HSN.out x hq)
          clear hq
          go_wp2_with fail
          refine (parseStation_c P[k] _ hM hpz).mono ?_; rintro e w2 ⟨rfl, hb2⟩
          rw [HQ.out]
          simp only [Option.getD_some, Option.isSome_some]
          have hb3 := hb.trans (hb2.mono hb.size)
          have ho2 : OwnVS w2 w.heap.size _ S := ownsRow_below ho hb2 fun k hk => (ho.lt k hk).2
          have hBX2 := hBX.below hb2 hBX.lt
          have hz3 := hb3.size
          have hkS : S.length ≤ 1000000001 := by have := HL.out; omega
          have hb5 : Below w.heap.size w ((w2.alloc (.cells #[.string x.nm, .string x.ph, .int .i64 x.g, .int .i64 x.l] 37)).alloc (.cells #[.string x.nm, .string x.ph, .int .i64 x.g, .int .i64 x.l] 37)) := (hb3.alloc hz3 _).alloc (by simp; omega) _
          have ho4 : OwnVS ((w2.alloc (.cells #[.string x.nm, .string x.ph, .int .i64 x.g, .int .i64 x.l] 37)).alloc (.cells #[.string x.nm, .string x.ph, .int .i64 x.g, .int .i64 x.l] 37)) w.heap.size _ S := World.ownsRow.alloc (World.ownsRow.alloc ho2 _) _
          have hW : Below w2.heap.size w2 ((w2.alloc (.cells #[.string x.nm, .string x.ph, .int .i64 x.g, .int .i64 x.l] 37)).alloc (.cells #[.string x.nm, .string x.ph, .int .i64 x.g, .int .i64 x.l] 37)) := ((Below.refl _ _).alloc (Nat.le_refl _) _).alloc (by simp) _
          have hBX4 := hBX2.below hW hBX2.lt
          have hrx : RdS ((w2.alloc (.cells #[.string x.nm, .string x.ph, .int .i64 x.g, .int .i64 x.l] 37)).alloc (.cells #[.string x.nm, .string x.ph, .int .i64 x.g, .int .i64 x.l] 37)) (some ⟨w2.heap.size + 1, 0, none⟩) 1 [x] := by have := rdS_new (w2.alloc (.cells #[.string x.nm, .string x.ph, .int .i64 x.g, .int .i64 x.l] 37)) x 37; simpa using this
          have hz5 := hb5.size
          clear hb ho hR hM hb2 hc ho2 hBX hBX2 hb3 hW
          go_wp2_with (at_builtin; refine wp_appSS _ rfl (.tmp 27) (.tmp 29) rfl w.heap.size _ S [x] _ 1 1 rfl (by exact ho4) rfl (by exact hrx) (by intro e; cases e) (by omega) (by exact hz5) ?_; intro v' w5 ho5 hg5 hb6)
          have HLS := Lib.hid (show (S ++ [x]).length = k + 1 by rw [List.length_append, HL.out]; rfl)
          have hb7 := hb5.trans hb6
          have hBX5 := hBX4.grown hg5 (own_off ho4 hBX4 (by decide))
          go_roundw
          case rel => exact ⟨k + 1, S ++ [x], by omega, by go_num, HLS, HS2, ho5, hBX5, hb7⟩
          case measure => simp [intOf]; omega
      · obtain rfl : k = P.length := by omega
        have HA := Lib.hid (HALL.out S HL.out HF.out)
        have hsl : S.length ≤ 1000000001 := by have := HL.out; omega
        obtain ⟨a2, n2, c2, hv, ho2⟩ := ho.own (by omega)
        subst hv
        have hcap2 := ho2.cap'.1
        go_wp2_with fail
        refine (CellValid_c ho2.rd hcap2).mono ?_; rintro e w3 ⟨rfl, hb3⟩
        have ho3 := ho2.below hb3
        have hb4 := hb.trans (hb3.mono hb.size)
        by_cases hcb : cellB S = true
        · have hr := Lib.hid (HA.out.trans (if_pos hcb))
          rw [hcb]
          clear hcb
          go_wp2_with fail
          go_ret2
          exact retSB_some' hr.out ho3 hb4
        · have hr := Lib.hid (HA.out.trans (if_neg hcb))
          rw [show cellB S = false by simpa using hcb]
          clear hcb
          go_wp2_with fail
          go_ret2
          exact retSB_nil hr.out hb4

end Go.Proofs.YtdedcablhahbnaaDoor
