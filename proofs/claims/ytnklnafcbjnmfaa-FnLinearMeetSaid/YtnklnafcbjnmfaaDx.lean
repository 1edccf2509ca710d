/- Draws of chapter 7: the generators of the laws. No condition beyond lengths. -/
import Derived.Test.YtnklnafcbjnmfaaDr
namespace Go.Proofs.Ytnklnafcbjnmfaa
open Go.RowKit

/-- What a law's argument 'code' gives: bytes that can be read. -/
def CodeW (w : World) (ao : Option Addr) (n c : Nat) : Prop := ∃ l, RdB w ao n l ∧ n ≤ c ∧ ∀ x ∈ l, 0 ≤ x ∧ x < 256
theorem CodeW.below {w w' : World} {ao : Option Addr} {n c : Nat} (h : CodeW w ao n c) (hb : Below w.heap.size w w') : CodeW w' ao n c := by
  obtain ⟨l, h1, h2⟩ := h; exact ⟨l, h1.below hb, h2⟩

/-- The posts: hops and a number, and so on. -/
def RetHI (w : World) (lo hi : Int) (e : Ending) (w' : World) : Prop :=
  ∃ ao n c, ∃ l : List Int, ∃ k : Int, e = .returned (.tuple #[.slice ao n c, .int .i64 k]) ∧ RdC w' ao n c l ∧ l.length ≤ 301 ∧ lo ≤ k ∧ k ≤ hi ∧ Below w.heap.size w w'
def RetHJ (w : World) (e : Ending) (w' : World) : Prop :=
  ∃ ao n c, ∃ l : List Int, ∃ bo m d, ∃ j : List Int, e = .returned (.tuple #[.slice ao n c, .slice bo m d]) ∧ RdC w' ao n c l ∧ l.length ≤ 301 ∧ RdC w' bo m d j ∧ j.length ≤ 17 ∧ Below w.heap.size w w'

theorem some_base {w : World} {g : Nat} {ao : Option Addr} {n c : Nat} {l : List Int} {lo : Nat} (h : Own w lo ao n c l) (hg : g < lo) : ∀ a, ao = some a → g < a.block := fun a ha => Nat.lt_of_lt_of_le hg (h.lt a ha).1

set_option maxRecDepth 100000 in
set_option maxHeartbeats 800000 in
theorem DrawHopsValid_c {w : World} {ao : Option Addr} {n c : Nat} (h : CodeW w ao n c) : Calls Try.prog 74 #[.slice ao n c] w (RetHI w (-1) 17) := by
  obtain ⟨lb, hR, hcap, hby⟩ := h
  go_enter Try.func74, Try.ntmps74
  go_wp2_with fail
  refine (l9Open_c hR hcap hby).mono ?_; rintro e w1 ⟨rfl, hr1, hb1⟩
  have hz1 := hb1.size
  clear hR hby
  go_wp2_with fail
  refine (l7Some_c hr1 (by omega)).mono ?_; rintro e w2 ⟨a1, n1, c1, l1, ch, q1, rfl, ho1, hch, hv, h0, h14, hq0, hq1, hr2, hg2⟩
  have hb2 := hb1.trans (below_of_gr hg2 (Nat.le_refl _) hz1)
  have hgl := hr1.lt
  have hz2 := hg2.size
  have hz2' := hb2.size
  clear hr1 hg2
  have hoA := ho1; have hrA := hr2; have hbA := hb2; have hzA := hz2
  clear ho1 hr2 hb2 hz2
  go_wp2_with fail
  refine (l7Bad_c hrA (by omega) hoA hgl (by omega) hzA).mono ?_; rintro e wB ⟨a2, n2, c2, l2, q2, rfl, hrc, h301, hq2, hq3, hrB, hgB, hne2⟩
  have hbB := hbA.trans (hgB.below (Nat.le_refl _) (fun a ha => by have := (hoA.lt a ha).1; omega) hbA.size)
  have hzB := hbB.size
  go_wp2_with fail
  refine (l7Number_c ch hrB (by omega) (by omega)).mono ?_; rintro e wN ⟨k, q3, rfl, hk0, hk1, hq4, hq5, hrN, hgN⟩
  have hbN := hbB.trans (below_of_gr hgN (Nat.le_refl _) hzB)
  have hrc2 : RdC wN a2 n2 c2 l2 := ⟨hrc.1.gr hgN (fun a ha _ => Nat.ne_of_gt (hne2 a ha)), hrc.2⟩
  clear hrc
  go_wp2_with fail
  go_ret2
  exact ⟨a2, n2, c2, l2, k, rfl, hrc2, h301, hk0, hk1, hbN⟩

set_option maxHeartbeats 400000 in
theorem DrawLoadOf_c {w : World} {ao : Option Addr} {n c : Nat} (h : CodeW w ao n c) : Calls Try.prog 35 #[.slice ao n c] w (RetHI w (-1) 17) := by
  go_enter Try.func35, Try.ntmps35
  go_wp2_with fail
  refine (DrawHopsValid_c h).mono ?_; rintro e w1 ⟨a2, n2, c2, l2, k, rfl, hrc, h301, hk0, hk1, hb⟩
  go_wp2_with fail
  go_ret2
  exact ⟨a2, n2, c2, l2, k, rfl, hrc, h301, hk0, hk1, hb⟩

set_option maxRecDepth 100000 in
set_option maxHeartbeats 800000 in
theorem DrawShiftHops_c {w : World} {ao : Option Addr} {n c : Nat} (h : CodeW w ao n c) : Calls Try.prog 32 #[.slice ao n c] w (RetHI w (-9223372036854775808) 9223372036854775807) := by
  obtain ⟨lb, hR, hcap, hby⟩ := h
  go_enter Try.func32, Try.ntmps32
  go_wp2_with fail
  refine (l9Open_c hR hcap hby).mono ?_; rintro e w1 ⟨rfl, hr1, hb1⟩
  have hz1 := hb1.size
  clear hR hby
  go_wp2_with fail
  refine (l7Some_c hr1 (by omega)).mono ?_; rintro e w2 ⟨a1, n1, c1, l1, ch, q1, rfl, ho1, hch, hv, h0, h14, hq0, hq1, hr2, hg2⟩
  have hb2 := hb1.trans (below_of_gr hg2 (Nat.le_refl _) hz1)
  have hgl := hr1.lt
  have hz2 := hg2.size
  have hz2' := hb2.size
  clear hr1 hg2
  have hoA := ho1; have hrA := hr2; have hbA := hb2; have hzA := hz2
  clear ho1 hr2 hb2 hz2
  go_wp2_with fail
  refine (l7Bad_c hrA (by omega) hoA hgl (by omega) hzA).mono ?_; rintro e wB ⟨a2, n2, c2, l2, q2, rfl, hrc, h301, hq2, hq3, hrB, hgB, hne2⟩
  have hbB := hbA.trans (hgB.below (Nat.le_refl _) (fun a ha => by have := (hoA.lt a ha).1; omega) hbA.size)
  have hzB := hbB.size
  go_wp2_with fail
  refine (l2Number_c hrB (by omega)).mono ?_; rintro e wN ⟨k, q3, rfl, hk0, hk1, hq4, hq5, hrN, hgN⟩
  have hbN := hbB.trans (below_of_gr hgN (Nat.le_refl _) hzB)
  have hrc2 : RdC wN a2 n2 c2 l2 := ⟨hrc.1.gr hgN (fun a ha _ => Nat.ne_of_gt (hne2 a ha)), hrc.2⟩
  clear hrc
  go_wp2_with fail
  go_ret2
  exact ⟨a2, n2, c2, l2, k, rfl, hrc2, h301, hk0, hk1, hbN⟩

set_option maxRecDepth 100000 in
set_option maxHeartbeats 800000 in
theorem DrawJammedHops_c {w : World} {ao : Option Addr} {n c : Nat} (h : CodeW w ao n c) : Calls Try.prog 28 #[.slice ao n c] w (RetHJ w) := by
  obtain ⟨lb, hR, hcap, hby⟩ := h
  go_enter Try.func28, Try.ntmps28
  go_wp2_with fail
  refine (l9Open_c hR hcap hby).mono ?_; rintro e w1 ⟨rfl, hr1, hb1⟩
  have hz1 := hb1.size
  clear hR hby
  go_wp2_with fail
  refine (l7Some_c hr1 (by omega)).mono ?_; rintro e w2 ⟨a1, n1, c1, l1, ch, q1, rfl, ho1, hch, hv, h0, h14, hq0, hq1, hr2, hg2⟩
  have hb2 := hb1.trans (below_of_gr hg2 (Nat.le_refl _) hz1)
  have hgl := hr1.lt
  have hz2 := hg2.size
  have hz2' := hb2.size
  clear hr1 hg2
  have hoA := ho1; have hrA := hr2; have hbA := hb2; have hzA := hz2
  clear ho1 hr2 hb2 hz2
  go_wp2_with fail
  refine (l7Bad_c hrA (by omega) hoA hgl (by omega) hzA).mono ?_; rintro e wB ⟨a2, n2, c2, l2, q2, rfl, hrc, h301, hq2, hq3, hrB, hgB, hne2⟩
  have hbB := hbA.trans (hgB.below (Nat.le_refl _) (fun a ha => by have := (hoA.lt a ha).1; omega) hbA.size)
  have hzB := hbB.size
  go_wp2_with fail
  refine (l7Set_c ch hrB (by omega)).mono ?_; rintro e wN ⟨b2, m2, d2, j2, q3, rfl, hoJ, h17, hq4, hq5, hrN, hgN⟩
  have hbN := hbB.trans (below_of_gr hgN (Nat.le_refl _) hzB)
  have hrc2 : RdC wN a2 n2 c2 l2 := ⟨hrc.1.gr hgN (fun a ha _ => Nat.ne_of_gt (hne2 a ha)), hrc.2⟩
  clear hrc
  go_wp2_with fail
  go_ret2
  exact ⟨a2, n2, c2, l2, b2, m2, d2, j2, rfl, hrc2, h301, hoJ.rdc, h17, hbN⟩

def RetHII (w : World) (lo hi lo2 hi2 : Int) (e : Ending) (w' : World) : Prop :=
  ∃ ao n c, ∃ l : List Int, ∃ k m : Int, e = .returned (.tuple #[.slice ao n c, .int .i64 k, .int .i64 m]) ∧ RdC w' ao n c l ∧ l.length ≤ 301 ∧ lo ≤ k ∧ k ≤ hi ∧ lo2 ≤ m ∧ m ≤ hi2 ∧ Below w.heap.size w w'
def RetHIJ (w : World) (lo hi : Int) (e : Ending) (w' : World) : Prop :=
  ∃ ao n c, ∃ l : List Int, ∃ k : Int, ∃ bo m d, ∃ j : List Int, e = .returned (.tuple #[.slice ao n c, .int .i64 k, .slice bo m d]) ∧ RdC w' ao n c l ∧ l.length ≤ 301 ∧ lo ≤ k ∧ k ≤ hi ∧ RdC w' bo m d j ∧ j.length ≤ 17 ∧ Below w.heap.size w w'
def RetHHI (w : World) (lo hi : Int) (e : Ending) (w' : World) : Prop :=
  ∃ ao n c, ∃ l : List Int, ∃ bo m d, ∃ j : List Int, ∃ k : Int, e = .returned (.tuple #[.slice ao n c, .slice bo m d, .int .i64 k]) ∧ RdC w' ao n c l ∧ l.length ≤ 301 ∧ RdC w' bo m d j ∧ j.length ≤ 301 ∧ lo ≤ k ∧ k ≤ hi ∧ Below w.heap.size w w'
def RetIII (w : World) (e : Ending) (w' : World) : Prop :=
  ∃ a b c : Int, e = .returned (.tuple #[.int .i64 a, .int .i64 b, .int .i64 c]) ∧ (-1 ≤ a ∧ a ≤ 17) ∧ (-1 ≤ b ∧ b ≤ 9223372036854775807) ∧ (-1 ≤ c ∧ c ≤ 9223372036854775807) ∧ Below w.heap.size w w'

set_option maxRecDepth 100000 in
set_option maxHeartbeats 800000 in
theorem DrawMoveHops_c {w : World} {ao : Option Addr} {n c : Nat} (h : CodeW w ao n c) : Calls Try.prog 38 #[.slice ao n c] w (RetHII w (-1) 17 (-17) 9223372036854775807) := by
  obtain ⟨lb, hR, hcap, hby⟩ := h
  go_enter Try.func38, Try.ntmps38
  go_wp2_with fail
  refine (l9Open_c hR hcap hby).mono ?_; rintro e w1 ⟨rfl, hr1, hb1⟩
  have hz1 := hb1.size
  clear hR hby
  go_wp2_with fail
  refine (l7Some_c hr1 (by omega)).mono ?_; rintro e w2 ⟨a1, n1, c1, l1, ch, q1, rfl, ho1, hch, hv, h0, h14, hq0, hq1, hr2, hg2⟩
  have hb2 := hb1.trans (below_of_gr hg2 (Nat.le_refl _) hz1)
  have hgl := hr1.lt
  have hz2 := hg2.size
  have hz2' := hb2.size
  clear hr1 hg2
  go_wp2_with fail
  refine (pick_c _ hr2 (by omega)).mono ?_; rintro e w3 ⟨u, rfl, u0, u1, hr3, hg3⟩
  have ho3 := ho1.gr hg3 hgl
  have hb3 := hb2.trans (below_of_gr hg3 (Nat.le_refl _) hz2')
  have hz3 := hg3.size
  have hz3' := hb3.size
  clear hr2 ho1 hg3 hb2
  go_wp2_with fail
  refine (pick_c _ hr3 (by omega)).mono ?_; rintro e w4 ⟨v, rfl, v0, v1, hr4, hg4⟩
  have ho4 := ho3.gr hg4 hgl
  have hb4 := hb3.trans (below_of_gr hg4 (Nat.le_refl _) hz3')
  have hz4 := hg4.size
  have hz4' := hb4.size
  clear hr3 ho3 hg4 hb3
  by_cases hv0 : (v == 0) = true
  · go_wp2_with fail
    refine (num_lit [16, 17, -17, 9223372036854775807] hr4 (by omega) rfl rfl (by decide) (by decide)).mono ?_; rintro e w5 ⟨x, rfl, hx, hr5, hg5⟩
    have hx2 : -17 ≤ x ∧ x ≤ 9223372036854775807 := by simp at hx; omega
    have hg5' := (gr_of_below ((Below.refl _ _).alloc (Nat.le_refl w4.heap.size) _) _).trans hg5
    have hoA := ho4.gr hg5' hgl
    have hbA := hb4.trans (below_of_gr hg5' (Nat.le_refl _) hz4')
    have hzA : w1.heap.size ≤ w5.heap.size := Nat.le_trans (Nat.le_trans hz2 (Nat.le_trans hz3 hz4)) hg5'.size
    have hrA := hr5
    clear hx hg5 hr4 ho4 hb4
    go_wp2_with fail
    refine (l7Bad_c hrA (by omega) hoA hgl (by omega) hzA).mono ?_; rintro e wB ⟨a2, n2, c2, l2, q2, rfl, hrc, h301, hq2, hq3, hrB, hgB, hne2⟩
    have hbB := hbA.trans (hgB.below (Nat.le_refl _) (fun a ha => by have := (hoA.lt a ha).1; omega) hbA.size)
    have hzB := hbB.size
    go_wp2_with fail
    refine (l7Number_c ch hrB (by omega) (by omega)).mono ?_; rintro e wN ⟨k, q3, rfl, hk0, hk1, hq4, hq5, hrN, hgN⟩
    have hbN := hbB.trans (below_of_gr hgN (Nat.le_refl _) hzB)
    have hrc2 : RdC wN a2 n2 c2 l2 := ⟨hrc.1.gr hgN (fun a ha _ => Nat.ne_of_gt (hne2 a ha)), hrc.2⟩
    clear hrc
    go_wp2_with fail
    go_ret3
    exact ⟨a2, n2, c2, l2, k, x, rfl, hrc2, h301, hk0, hk1, hx2.1, hx2.2, hbN⟩
  · have hv0' : (v == 0) = false := by simpa using hv0
    clear hv0
    have hoA := ho4; have hbA := hb4; have hrA := hr4
    have hzA : w1.heap.size ≤ w4.heap.size := Nat.le_trans hz2 (Nat.le_trans hz3 hz4)
    clear hr4 ho4 hb4
    go_wp2_with fail
    refine (l7Bad_c hrA (by omega) hoA hgl (by omega) hzA).mono ?_; rintro e wB ⟨a2, n2, c2, l2, q2, rfl, hrc, h301, hq2, hq3, hrB, hgB, hne2⟩
    have hbB := hbA.trans (hgB.below (Nat.le_refl _) (fun a ha => by have := (hoA.lt a ha).1; omega) hbA.size)
    have hzB := hbB.size
    go_wp2_with fail
    refine (l7Number_c ch hrB (by omega) (by omega)).mono ?_; rintro e wN ⟨k, q3, rfl, hk0, hk1, hq4, hq5, hrN, hgN⟩
    have hbN := hbB.trans (below_of_gr hgN (Nat.le_refl _) hzB)
    have hrc2 : RdC wN a2 n2 c2 l2 := ⟨hrc.1.gr hgN (fun a ha _ => Nat.ne_of_gt (hne2 a ha)), hrc.2⟩
    clear hrc
    go_wp2_with fail
    go_ret3
    exact ⟨a2, n2, c2, l2, k, u - 10, rfl, hrc2, h301, hk0, hk1, by omega, by omega, hbN⟩

set_option maxRecDepth 100000 in
set_option maxHeartbeats 800000 in
theorem DrawRemapHops_c {w : World} {ao : Option Addr} {n c : Nat} (h : CodeW w ao n c) : Calls Try.prog 42 #[.slice ao n c] w (RetHIJ w (-1) 17) := by
  obtain ⟨lb, hR, hcap, hby⟩ := h
  go_enter Try.func42, Try.ntmps42
  go_wp2_with fail
  refine (l9Open_c hR hcap hby).mono ?_; rintro e w1 ⟨rfl, hr1, hb1⟩
  have hz1 := hb1.size
  clear hR hby
  go_wp2_with fail
  refine (l7Some_c hr1 (by omega)).mono ?_; rintro e w2 ⟨a1, n1, c1, l1, ch, q1, rfl, ho1, hch, hv, h0, h14, hq0, hq1, hr2, hg2⟩
  have hb2 := hb1.trans (below_of_gr hg2 (Nat.le_refl _) hz1)
  have hgl := hr1.lt
  have hz2 := hg2.size
  have hz2' := hb2.size
  clear hr1 hg2
  go_wp2_with fail
  refine (l7Set_c ch hr2 (by omega)).mono ?_; rintro e wJ ⟨b2, m2, d2, j2, qj, rfl, hoJ, h17, hqj0, hqj1, hrA, hgJ⟩
  have hbA := hb2.trans (below_of_gr hgJ (Nat.le_refl _) hz2')
  have hoA := ho1.gr hgJ hgl
  have hzA : w1.heap.size ≤ wJ.heap.size := Nat.le_trans hz2 hgJ.size
  have hdis : ∀ a b, a1 = some a → b2 = some b → b.block ≠ a.block := fun a b ha hb => by have := (ho1.lt a ha).2; have := (hoJ.lt b hb).1; omega
  have hjg : ∀ b, b2 = some b → b.block ≠ w.heap.size := fun b hb => by have := (hoJ.lt b hb).1; omega
  have hrj := hoJ.rdc
  clear hoJ ho1 hr2 hgJ hb2
  go_wp2_with fail
  refine (l7Bad_c hrA (by omega) hoA hgl (by omega) hzA).mono ?_; rintro e wB ⟨a2, n2, c2, l2, q2, rfl, hrc, h301, hq2, hq3, hrB, hgB, hne2⟩
  have hbB := hbA.trans (hgB.below (Nat.le_refl _) (fun a ha => by have := (hoA.lt a ha).1; omega) hbA.size)
  have hzB := hbB.size
  have hrj2 := hrj.1.gr2 hgB (fun b hb _ => hjg b hb) (fun a b ha hb _ => hdis a b ha hb)
  go_wp2_with fail
  refine (l7Number_c ch hrB (by omega) (by omega)).mono ?_; rintro e wN ⟨k, q3, rfl, hk0, hk1, hq4, hq5, hrN, hgN⟩
  have hbN := hbB.trans (below_of_gr hgN (Nat.le_refl _) hzB)
  have hrc2 : RdC wN a2 n2 c2 l2 := ⟨hrc.1.gr hgN (fun a ha _ => Nat.ne_of_gt (hne2 a ha)), hrc.2⟩
  clear hrc
  have hrj3 : RdC wN b2 m2 d2 j2 := ⟨hrj2.gr hgN (fun b hb _ => hjg b hb), hrj.2⟩
  clear hrj hrj2
  go_wp2_with fail
  go_ret3
  exact ⟨a2, n2, c2, l2, k, b2, m2, d2, j2, rfl, hrc2, h301, hk0, hk1, hrj3, h17, hbN⟩

end Go.Proofs.Ytnklnafcbjnmfaa
