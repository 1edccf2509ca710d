/- PowerTime of the program and of the reference. No condition beyond lengths. -/
import Derived.Test.YtdedcablhahbnaaDoorCy
import Derived.Deep.RegionHeld3
import Derived.IntWalk
namespace Go.Proofs.YtdedcablhahbnaaDoor
open Go.RowKit

theorem cellB_st {l : List Stn} (h : cellB l = true) {i : Nat} (hi : i < l.length) : stB l[i].nm l[i].ph l[i].g l[i].l = true := by
  unfold cellB okT at h
  rw [Bool.and_eq_true, List.all_eq_true] at h
  have := h.2 i (List.mem_range.2 hi)
  unfold goodAt at this
  rw [Bool.and_eq_true, getD_stn hi] at this
  exact this.1
theorem cellB_8 {l : List Stn} (h : cellB l = true) : l.length ≤ 8 := by
  unfold cellB at h
  rw [Bool.and_eq_true] at h
  exact of_decide_eq_true h.1

def goalS (t : Int) (s : Stn) : Int := min (t * s.l) 1000
def gapS (t : Int) (s : Stn) : Int := max (s.g - goalS t s) (-(s.g - goalS t s))
def timeT (l : List Stn) (t : Int) (k : Nat) : Int := ((l.take k).map (gapS t)).foldl max 0
def timeR (l : List Stn) (t : Int) : Int := if (cellB l && inB t 0 40) = true then timeT l t l.length else -1
theorem timeR_no1 {l : List Stn} {t : Int} (h : cellB l = false) : timeR l t = -1 := by simp [timeR, h]
theorem timeR_no2 {l : List Stn} {t : Int} (h : inB t 0 40 = false) : timeR l t = -1 := by simp [timeR, h]
theorem timeR_yes {l : List Stn} {t : Int} (h : cellB l = true) (h' : inB t 0 40 = true) : timeR l t = timeT l t l.length := by simp [timeR, h, h']
theorem timeT_succ {l : List Stn} {t : Int} {k : Nat} (hk : k < l.length) : timeT l t (k + 1) = max (timeT l t k) (gapS t l[k]) := by
  unfold timeT; rw [List.take_succ_eq_append_getElem hk, List.map_append, List.foldl_append]; rfl
theorem goalS_bd {t : Int} {s : Stn} (ht : 0 ≤ t ∧ t ≤ 40) (hl : 1 ≤ s.l ∧ s.l ≤ 20) : 0 ≤ goalS t s ∧ goalS t s ≤ 800 := by
  have hp0 : 0 ≤ t * s.l := Int.mul_nonneg ht.1 (by omega)
  have hp1 : t * s.l ≤ 40 * 20 := Int.mul_le_mul ht.2 hl.2 (by omega) (by omega)
  unfold goalS; omega
theorem foldl_max_bd {L : List Int} {a b m : Int} (h : ∀ x ∈ L, x ≤ b) (hm : a ≤ m) (hb : m ≤ b) : a ≤ L.foldl max m ∧ L.foldl max m ≤ b := by
  induction L generalizing m with
  | nil => exact ⟨hm, hb⟩
  | cons x L ih => exact ih (fun y hy => h y (List.mem_cons_of_mem _ hy)) (by omega) (by have := h x (List.mem_cons_self ..); omega)
theorem gapS_bd {l : List Stn} {t : Int} (h : cellB l = true) (ht : 0 ≤ t ∧ t ≤ 40) {s : Stn} (hs : s ∈ l) : 0 ≤ gapS t s ∧ gapS t s ≤ 1000 := by
  obtain ⟨i, hi, rfl⟩ := List.getElem_of_mem hs
  obtain ⟨hg, hl⟩ := stB_ranges (cellB_st h hi)
  have := goalS_bd (s := l[i]) ht hl
  unfold gapS; omega
theorem timeT_bd {l : List Stn} {t : Int} (h : cellB l = true) (ht : 0 ≤ t ∧ t ≤ 40) (k : Nat) : 0 ≤ timeT l t k ∧ timeT l t k ≤ 1000 := by
  refine foldl_max_bd (fun x hx => ?_) (by omega) (by omega)
  obtain ⟨s, hs, rfl⟩ := List.mem_map.1 hx
  exact (gapS_bd h ht (List.mem_of_mem_take hs)).2

end Go.Proofs.YtdedcablhahbnaaDoor
