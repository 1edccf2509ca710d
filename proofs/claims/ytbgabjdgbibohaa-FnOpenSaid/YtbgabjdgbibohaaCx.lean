/- CellValid of the program. No condition beyond lengths. -/
import Derived.Test.YtbgabjdgbibohaaCv
namespace Go.Proofs.Ytbgabjdgbibohaa
open Go.RowKit

theorem idxS_eq {l : List Stn} {nm : ByteArray} {k : Nat} (h : idxS l nm = k) : ∀ j (_ : j < k) (hj : j < l.length), (l[j].nm.toList == nm.toList) = false := by
  intro j hj hl
  unfold idxS at h
  cases hf : l.findIdx? (fun s => s.nm.toList == nm.toList) with
  | none => rw [hf] at h; simp at h
  | some i =>
    rw [hf] at h
    have hi : i = k := by have e : (i : Int) = k := h; omega
    subst hi
    obtain ⟨_, _, h2⟩ := List.findIdx?_eq_some_iff_getElem.1 hf
    simpa using h2 j hj
theorem idxS_ne {l : List Stn} {k : Nat} (hk : k < l.length) (h : idxS l l[k].nm ≠ k) : ∃ j, j < k ∧ ∃ hj : j < l.length, (l[j].nm.toList == l[k].nm.toList) = true := by
  unfold idxS at h
  cases hf : l.findIdx? (fun s => s.nm.toList == l[k].nm.toList) with
  | none =>
    rw [List.findIdx?_eq_none_iff] at hf
    have := hf l[k] (List.getElem_mem hk)
    simp at this
  | some i =>
    rw [hf] at h
    obtain ⟨hi, h1, h2⟩ := List.findIdx?_eq_some_iff_getElem.1 hf
    refine ⟨i, ?_, hi, h1⟩
    rcases Nat.lt_trichotomy i k with h3 | h3 | h3
    · exact h3
    · subst h3; exact absurd rfl h
    · have := h2 k h3; simp at this
theorem stB_path {nm ph : ByteArray} {g l : Int} (h : stB nm ph g l = true) : pathB ph = true := by
  unfold stB at h; simp only [Bool.and_eq_true] at h; exact h.1.1.2
theorem okT_path {l : List Stn} {i j : Nat} (h : okT l i = true) (hj : j < i) (hl : j < l.length) : pathB l[j].ph = true := by
  unfold okT at h
  rw [List.all_eq_true] at h
  have := h j (List.mem_range.2 hj)
  unfold goodAt at this
  rw [Bool.and_eq_true, getD_stn hl] at this
  exact stB_path this.1

end Go.Proofs.Ytbgabjdgbibohaa
