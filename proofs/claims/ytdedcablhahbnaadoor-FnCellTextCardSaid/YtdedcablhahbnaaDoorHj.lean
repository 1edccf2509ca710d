/- Membership in a list of numbers (l2Has, slices.Contains), jammed channels, JammedHops of the program and of the reference. No condition. -/
import Derived.Test.YtdedcablhahbnaaDoorHm
namespace Go.Proofs.YtdedcablhahbnaaDoor
open Go.RowKit

def hasB (l : List Int) (x : Int) : Bool := decide (x ∈ l)
theorem hasB_hit {l : List Int} {k : Nat} {x : Int} (hk : k < l.length) (h : l[k] = x) : hasB l x = true := by
  unfold hasB; exact decide_eq_true (h ▸ List.getElem_mem hk)
theorem hasB_snoc {l : List Int} {k : Nat} {x : Int} (hk : k < l.length) (h : hasB (l.take k) x = false) (h1 : l[k] ≠ x) : hasB (l.take (k + 1)) x = false := by
  unfold hasB at *
  rw [decide_eq_false_iff_not] at *
  rw [List.take_succ_eq_append_getElem hk, List.mem_append]
  rintro (h2 | h2)
  · exact h h2
  · simp at h2; exact h1 h2.symm





theorem jamB_all {l : List Int} : jamB l = (hopsB l 16 && decide (l.length ≤ 16)) := by
  rw [hopsB16]
  unfold jamB
  by_cases h : l.length ≤ 16
  · rw [decide_eq_true h, decide_eq_true (show l.length ≤ 300 by omega)]; simp
  · rw [decide_eq_false h]; simp



def cntB (p : Int → Bool) (l : List Int) : Nat := (l.filter p).length
theorem cntB_succ {p : Int → Bool} {l : List Int} {k : Nat} (hk : k < l.length) : cntB p (l.take (k + 1)) = cntB p (l.take k) + if p l[k] = true then 1 else 0 := by
  unfold cntB
  rw [List.take_succ_eq_append_getElem hk, List.filter_append, List.length_append]
  by_cases h : p l[k] = true
  · simp [h]
  · simp [h]
theorem cntB_le {p : Int → Bool} {l : List Int} : cntB p l ≤ l.length := List.length_filter_le _ _
theorem cntB_take_le {p : Int → Bool} {l : List Int} {k : Nat} : cntB p (l.take k) ≤ k := Nat.le_trans cntB_le (List.length_take_le _ _)

def jamHops (l j : List Int) : Int := if (hopsB l 16 && jamB j) = true then cntB (hasB j) l else -1




/-- How often each of ch channels is among the numbers. -/
def loadL (m : Nat) (l : List Int) : List Int := (List.range m).map fun c : Nat => (cntB (fun x => x == (c : Int)) l : Int)
theorem loadL_length {m : Nat} {l : List Int} : (loadL m l).length = m := by simp [loadL]
theorem loadL_get {m : Nat} {l : List Int} {c : Nat} (h : c < m) : (loadL m l).getD c 0 = cntB (fun x => x == (c : Int)) l := by simp [loadL, List.getD, h]
theorem loadL_nil {m : Nat} : loadL m [] = List.replicate m 0 := by
  unfold loadL
  apply List.ext_getElem
  · simp
  · intro i h1 h2; simp [cntB]
theorem loadL_step {m : Nat} {l : List Int} {k x : Nat} (hk : k < l.length) (hx : l[k] = (x : Int)) : loadL m (l.take (k + 1)) = (loadL m (l.take k)).set x (cntB (fun y => y == (x : Int)) (l.take k) + 1) := by
  apply List.ext_getElem
  · simp [loadL]
  · intro i h1 h2
    have hi : i < m := by simpa [loadL] using h1
    rw [List.getElem_set]
    by_cases h : x = i
    · subst h
      rw [if_pos rfl]
      simp only [loadL, List.getElem_map, List.getElem_range]
      rw [cntB_succ hk, hx]
      simp
    · rw [if_neg h]
      simp only [loadL, List.getElem_map, List.getElem_range]
      rw [cntB_succ hk, hx]
      have : ((x : Int) == (i : Int)) = false := by simp; omega
      rw [this]; simp

theorem Own.cell {w : World} {lo g n c j : Nat} {l : List Int} (h : Own w lo (some ⟨g, 0, none⟩) n c l) (hj : j < n) : w.cell? ⟨g, j, none⟩ = some (.int .i64 (l.getD j 0)) := by
  rw [h.2.2.cellAt j (by omega)]
  exact getD_map_int (by have := h.1; omega)
theorem Own.free {w : World} {lo g n c : Nat} {l : List Int} (h : Own w lo (some ⟨g, 0, none⟩) n c l) (j : Nat) : w.frozen? ⟨g, j, none⟩ = false := h.2.2.frozenAt j
theorem Own.set {w : World} {lo g n c : Nat} {l : List Int} (h : Own w lo (some ⟨g, 0, none⟩) n c l) (j : Nat) (y : Int) : Own (w.setCell ⟨g, j, none⟩ (.int .i64 y)) lo (some ⟨g, 0, none⟩) n c (l.set j y) :=
  ⟨by rw [List.length_set]; exact h.1, h.2.1, by have := (h.2.2.stored j (.int .i64 y)).1; rwa [← List.map_set] at this⟩
theorem Own.lo {w : World} {lo g n c : Nat} {l : List Int} (h : Own w lo (some ⟨g, 0, none⟩) n c l) : lo ≤ g := (h.lt _ rfl).1
theorem Own.of_row {w : World} {lo g n c : Nat} {l : List Int} (h : w.ownsRow lo 3 1 (.slice (some ⟨g, 0, none⟩) n c) n (l.map (Value.int .i64))) (hn : n = l.length) (hs : n ≤ 1099511627776) : Own w lo (some ⟨g, 0, none⟩) n c l := ⟨hn, hs, h⟩

def loadOf (l : List Int) (ch : Int) : List Int := if hopsB l ch = true then loadL ch.toNat l else []

end Go.Proofs.YtdedcablhahbnaaDoor
