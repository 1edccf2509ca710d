/- Draws of chapter 8: a station and a target (DrawPowerGoal). No condition beyond lengths. -/
import Derived.Test.YtklbdkbaldkkpaaDm
import Derived.Deep.RegionHeld3
namespace Go.Proofs.Ytklbdkbaldkkpaa
open Go.RowKit

/-- The post: a station with short texts, and a number. -/
def RetSG (w : World) (e : Ending) (w' : World) : Prop :=
  ∃ s : Stn, ∃ k : Int, e = .returned (.tuple #[.agg #[.string s.nm, .string s.ph, .int .i64 s.g, .int .i64 s.l], .int .i64 k]) ∧ (s.nm.size ≤ 1000 ∧ s.ph.size ≤ 1000) ∧ -1 ≤ k ∧ k ≤ 9223372036854775807 ∧ Below w.heap.size w w'

theorem cell_far {w : World} {b o b0 i : Nat} (h : b ≠ b0) (v : Value) : (w.setCell ⟨b0, i, none⟩ v).cell? ⟨b, o, none⟩ = w.cell? ⟨b, o, none⟩ :=
  World.cell?_of_block (w := w) (Below.heap_setCell _ _ _ _ h)
theorem c4_far {w : World} {b b0 o0 o1 o2 o3 : Nat} {v0 v1 v2 v3 : Value} (hne : b ≠ b0)
    (h : w.cell? ⟨b, o0, none⟩ = some v0 ∧ w.cell? ⟨b, o1, none⟩ = some v1 ∧ w.cell? ⟨b, o2, none⟩ = some v2 ∧ w.cell? ⟨b, o3, none⟩ = some v3) (x0 x1 x2 x3 : Value) :
    ((((w.setCell ⟨b0, 0, none⟩ x0).setCell ⟨b0, 1, none⟩ x1).setCell ⟨b0, 2, none⟩ x2).setCell ⟨b0, 3, none⟩ x3).cell? ⟨b, o0, none⟩ = some v0 ∧
    ((((w.setCell ⟨b0, 0, none⟩ x0).setCell ⟨b0, 1, none⟩ x1).setCell ⟨b0, 2, none⟩ x2).setCell ⟨b0, 3, none⟩ x3).cell? ⟨b, o1, none⟩ = some v1 ∧
    ((((w.setCell ⟨b0, 0, none⟩ x0).setCell ⟨b0, 1, none⟩ x1).setCell ⟨b0, 2, none⟩ x2).setCell ⟨b0, 3, none⟩ x3).cell? ⟨b, o2, none⟩ = some v2 ∧
    ((((w.setCell ⟨b0, 0, none⟩ x0).setCell ⟨b0, 1, none⟩ x1).setCell ⟨b0, 2, none⟩ x2).setCell ⟨b0, 3, none⟩ x3).cell? ⟨b, o3, none⟩ = some v3 := by
  obtain ⟨h0, h1, h2, h3⟩ := h
  exact ⟨by rw [cell_far hne, cell_far hne, cell_far hne, cell_far hne]; exact h0, by rw [cell_far hne, cell_far hne, cell_far hne, cell_far hne]; exact h1, by rw [cell_far hne, cell_far hne, cell_far hne, cell_far hne]; exact h2, by rw [cell_far hne, cell_far hne, cell_far hne, cell_far hne]; exact h3⟩
/-- A box of a station that is filled. -/
theorem Box.fill4 {w : World} {b : Nat} {x0 x1 x2 x3 : Value} {t : TypeId} (h : Box w b #[x0, x1, x2, x3] t) (y0 y1 y2 y3 : Value) :
    Box ((((w.setCell ⟨b, 0, none⟩ y0).setCell ⟨b, 1, none⟩ y1).setCell ⟨b, 2, none⟩ y2).setCell ⟨b, 3, none⟩ y3) b #[y0, y1, y2, y3] t := by
  have := (((h.set2 0 y0).set2 1 y1).set2 2 y2).set2 3 y3
  simpa using this
theorem below_fill4 {w0 w : World} {b B : Nat} (h : Below B w0 w) (hb : B ≤ b) (y0 y1 y2 y3 : Value) :
    Below B w0 ((((w.setCell ⟨b, 0, none⟩ y0).setCell ⟨b, 1, none⟩ y1).setCell ⟨b, 2, none⟩ y2).setCell ⟨b, 3, none⟩ y3) :=
  (((h.setCell (p := ⟨b, 0, none⟩) hb y0).setCell (p := ⟨b, 1, none⟩) hb y1).setCell (p := ⟨b, 2, none⟩) hb y2).setCell (p := ⟨b, 3, none⟩) hb y3

set_option maxRecDepth 100000 in
set_option maxHeartbeats 1600000 in
theorem DrawPowerGoal_c {w : World} {ao : Option Addr} {n c : Nat} (h : CodeW w ao n c) : Calls Try.prog 19 #[.slice ao n c] w (RetSG w) := by
  have hbz : Below w.heap.size w (w.alloc (.cells #[.string ByteArray.empty, .string ByteArray.empty, .int .i64 0, .int .i64 0] 37)) := (Below.refl _ _).alloc (Nat.le_refl _) _
  have hBx := Box.new w #[.string ByteArray.empty, .string ByteArray.empty, .int .i64 0, .int .i64 0] 37
  obtain ⟨lb, hR0, hcap, hby⟩ := h
  have hR := hR0.below hbz
  clear hR0
  go_enter Try.func19, Try.ntmps19
  go_wp2_with fail
  refine (l9Open_c hR hcap hby).mono ?_; rintro e w1 ⟨rfl, hr1, hb1⟩
  have hBx1 := hBx.below hb1 hBx.lt
  have hB1 := hbz.trans (hb1.mono hbz.size)
  have hbg : w.heap.size < (w.alloc (.cells #[.string ByteArray.empty, .string ByteArray.empty, .int .i64 0, .int .i64 0] 37)).heap.size := hBx.lt
  clear hR hby hb1 hBx hbz
  obtain ⟨g, hg⟩ : ∃ g, (w.alloc (.cells #[.string ByteArray.empty, .string ByteArray.empty, .int .i64 0, .int .i64 0] 37)).heap.size = g := ⟨_, rfl⟩
  rw [hg] at hr1 hbg ⊢
  clear hg
  have hgl := hr1.lt
  go_wp2_with fail
  refine (l8Open_c hr1 (by omega)).mono ?_; rintro e w2 ⟨a1, n1, c1, l1, q1, rfl, ho1, h4, ht, hq0, hq1, hr2, hb2⟩
  have hBx2 := hBx1.below hb2 hbg
  have hB2 := hB1.trans (hb2.mono (Nat.le_of_lt hbg))
  clear hr1 hb2 hBx1 hB1
  have HT := Lib.hid ht; clear ht
  by_cases hn0 : 0 < n1
  · have hne : ((n1 : Int) == 0) = false := by simp; omega
    obtain ⟨b, off, rfl, hl, hc0, hc1, hc2, hc3⟩ := ho1.rd.at hn0
    have hb1 := (ho1.lt _ rfl).1
    have hb1' : w1.heap.size ≤ b := hb1
    have hnb : b ≠ w.heap.size := by omega
    have hdr : Below w2.heap.size w2 w2.drew := Below.drew (Below.refl _ _)
    have hr2d := hr2.below hdr
    have hBx2d := hBx2.below hdr hBx2.lt
    have hB2d := hB2.trans (hdr.mono hB2.size)
    have ho1d := ho1.below hdr
    rw [Nat.zero_mul, Nat.add_zero] at hc0 hc1 hc2 hc3
    have hTS := HT.out _ (List.getElem_mem hl)
    have hwb : w.heap.size ≠ g := by omega
    have C0 := And.intro hc0 (And.intro hc1 (And.intro hc2 hc3))
    clear ho1 hBx2 hB2 hr2 hdr
    go_wp2_with fail
    go_region_held3 (fun w' => w'.cell? ⟨b, off, none⟩ = some (.string l1[0].nm) ∧ w'.cell? ⟨b, off + 1, none⟩ = some (.string l1[0].ph) ∧ w'.cell? ⟨b, off + 2, none⟩ = some (.int .i64 l1[0].g) ∧ w'.cell? ⟨b, off + 3, none⟩ = some (.int .i64 l1[0].l)) (first | exact C0 | exact C1 | exact c4_far hnb C1 _ _ _ _) (first | (go_at_call 65; refine (l8Aim_c hr2d (by omega)).mono ?_; rintro e w3 ⟨k, q3, rfl, hk0, hk1, hq4, hq5, hr3, hg3⟩; have ho3 := ho1d.gr hg3 hgl; have hBx3 := hBx2d.gr hg3 hwb; have f0 := hBx3.free 0; have f1 := hBx3.free 1; have f2 := hBx3.free 2; have f3 := hBx3.free 3; have d0 := hBx3.cell (i := 0) rfl; have d1 := hBx3.cell (i := 1) rfl; have d2 := hBx3.cell (i := 2) rfl; have d3 := hBx3.cell (i := 3) rfl; obtain ⟨b', off', he, hl', hd0, hd1, hd2, hd3⟩ := ho3.rd.at hn0; cases he; rw [Nat.zero_mul, Nat.add_zero] at hd0 hd1 hd2 hd3; have C1 := And.intro hd0 (And.intro hd1 (And.intro hd2 hd3))))
    have hBxF := hBx3.fill4 (.string l1[0].nm) (.string l1[0].ph) (.int .i64 l1[0].g) (.int .i64 l1[0].l)
    have hBF := below_fill4 (hB2d.trans (below_of_gr hg3 (Nat.le_of_lt hbg) (hB2d.size))) (Nat.le_refl w.heap.size) (.string l1[0].nm) (.string l1[0].ph) (.int .i64 l1[0].g) (.int .i64 l1[0].l)
    have e0 := hBxF.cell (i := 0) rfl
    have e1 := hBxF.cell (i := 1) rfl
    have e2 := hBxF.cell (i := 2) rfl
    have e3 := hBxF.cell (i := 3) rfl
    go_wp2_with fail
    refine bodyPost_ret (v := .tuple #[.agg #[.string l1[0].nm, .string l1[0].ph, .int .i64 l1[0].g, .int .i64 l1[0].l], .int .i64 k]) (by simp [results, Try.results19, go_sem, e0, e1, e2, e3]) rfl ?_
    exact ⟨l1[0], k, rfl, hTS, hk0, hk1, hBF⟩
  · obtain rfl : n1 = 0 := by omega
    have hne : (((0 : Nat) : Int) == 0) = true := by simp
    have hwb : w.heap.size ≠ g := by omega
    go_wp2_with fail
    refine (pick_c _ hr2 (by omega)).mono ?_; rintro e w3 ⟨v, rfl, v0, v1, hr3, hg3⟩
    have v2 : v ≤ 19 := by omega
    have hBx3 := hBx2.gr hg3 hwb
    have hB3 := hB2.trans (below_of_gr hg3 (Nat.le_of_lt hbg) hB2.size)
    clear v1 hBx2 hB2 hr2 hg3
    go_wp2_with fail
    refine (l8Aim_c hr3 (by omega)).mono ?_; rintro e w4 ⟨k, q3, rfl, hk0, hk1, hq4, hq5, hr4, hg4⟩
    have hBx4 := hBx3.gr hg4 hwb
    have hB4 := hB3.trans (below_of_gr hg4 (Nat.le_of_lt hbg) hB3.size)
    have f0 := hBx4.free 0
    have f1 := hBx4.free 1
    have f2 := hBx4.free 2
    have f3 := hBx4.free 3
    have d0 := hBx4.cell (i := 0) rfl
    have d1 := hBx4.cell (i := 1) rfl
    have d2 := hBx4.cell (i := 2) rfl
    have d3 := hBx4.cell (i := 3) rfl
    have hBxF := hBx4.fill4 (.string ⟨#[97]⟩) (.string ⟨#[]⟩) (.int .i64 0) (.int .i64 (1 + v))
    have hBF := below_fill4 hB4 (Nat.le_refl w.heap.size) (.string ⟨#[97]⟩) (.string ⟨#[]⟩) (.int .i64 0) (.int .i64 (1 + v))
    have e0 := hBxF.cell (i := 0) rfl
    have e1 := hBxF.cell (i := 1) rfl
    have e2 := hBxF.cell (i := 2) rfl
    have e3 := hBxF.cell (i := 3) rfl
    clear hBx3 hB3 hg4 hr3
    go_wp2_with fail
    refine bodyPost_ret (v := .tuple #[.agg #[.string ⟨#[97]⟩, .string ⟨#[]⟩, .int .i64 0, .int .i64 (1 + v)], .int .i64 k]) (by simp [results, Try.results19, go_sem, e0, e1, e2, e3]) rfl ?_
    exact ⟨⟨⟨#[97]⟩, ⟨#[]⟩, 0, 1 + v⟩, k, rfl, ⟨(by decide : (⟨#[97]⟩ : ByteArray).size ≤ 1000), (by decide : (⟨#[]⟩ : ByteArray).size ≤ 1000)⟩, hk0, hk1, hBF⟩

end Go.Proofs.Ytklbdkbaldkkpaa
