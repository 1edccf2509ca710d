/- WorstCollisions: what both sides come to: the greatest number of meetings over the pairs and the shifts. Plain mathematics. -/
import Derived.Test.YtklbdkbaldkkpaaMi
import Derived.Test.YtklbdkbaldkkpaaHc
namespace Go.Proofs.Ytklbdkbaldkkpaa
open Go.RowKit

/-- v is the greatest of M over P; 0 if P has none. -/
def Best (M : Nat → Nat → Nat → Int) (P : Nat → Nat → Nat → Prop) (v : Int) : Prop := (∀ i j k, P i j k → M i j k ≤ v) ∧ 0 ≤ v ∧ (v = 0 ∨ ∃ i j k, P i j k ∧ v = M i j k)
theorem Best.none {M : Nat → Nat → Nat → Int} {P : Nat → Nat → Nat → Prop} (h : ∀ i j k, ¬ P i j k) : Best M P 0 := ⟨fun i j k hp => absurd hp (h i j k), Int.le_refl _, .inl rfl⟩
theorem Best.same {M : Nat → Nat → Nat → Int} {P Q : Nat → Nat → Nat → Prop} {v : Int} (h : Best M P v) (hpq : ∀ i j k, P i j k ↔ Q i j k) : Best M Q v := by
  refine ⟨fun i j k hq => h.1 i j k ((hpq i j k).2 hq), h.2.1, ?_⟩
  rcases h.2.2 with h1 | ⟨i, j, k, h1, h2⟩
  · exact .inl h1
  · exact .inr ⟨i, j, k, (hpq i j k).1 h1, h2⟩
theorem Best.step {M : Nat → Nat → Nat → Int} {P : Nat → Nat → Nat → Prop} {v x : Int} (a b c : Nat) (h : Best M P v) (hx : x = max v (M a b c)) : Best M (fun i j k => P i j k ∨ (i = a ∧ j = b ∧ k = c)) x := by
  subst hx
  refine ⟨fun i j k hp => ?_, by have := h.2.1; omega, ?_⟩
  · rcases hp with hp | ⟨rfl, rfl, rfl⟩
    · have := h.1 i j k hp; omega
    · omega
  · by_cases hm : v ≤ M a b c
    · exact .inr ⟨a, b, c, .inr ⟨rfl, rfl, rfl⟩, by omega⟩
    · rcases h.2.2 with h1 | ⟨i, j, k, h1, h2⟩
      · exact .inl (by omega)
      · exact .inr ⟨i, j, k, .inl h1, by omega⟩
theorem Best.uniq {M : Nat → Nat → Nat → Int} {P : Nat → Nat → Nat → Prop} {v x : Int} (h : Best M P v) (h' : Best M P x) : v = x := by
  have key : ∀ {v x : Int}, Best M P v → Best M P x → v ≤ x := by
    intro v x h h'
    rcases h.2.2 with h1 | ⟨i, j, k, h1, h2⟩
    · have := h'.2.1; omega
    · have := h'.1 i j k h1; omega
  have h1 := key h h'
  have h2 := key h' h
  omega

def hd (L : List (List Int)) : List Int := L.getD 0 []
def rowB (h0 h : List Int) : Bool := hopsB h 16 && decide (0 < h.length) && decide (h.length = h0.length)
def allOk (L : List (List Int)) : Bool := decide (L.length ≤ 8) && L.all (rowB (hd L))
/-- The meetings of the i-th and the j-th, the second one shifted by k. -/
def mt (L : List (List Int)) (i j k : Nat) : Int := (meet (L.getD i []) (L.getD j []) (k : Int) : Nat)
def WPost (L : List (List Int)) (v : Int) : Prop := if allOk L = true then Best (mt L) (fun i j k => j < i ∧ i < L.length ∧ k < (hd L).length) v else v = -1
theorem WPost.uniq {L : List (List Int)} {v x : Int} (h : WPost L v) (h' : WPost L x) : v = x := by
  unfold WPost at h h'
  by_cases ha : allOk L = true
  · rw [if_pos ha] at h h'; exact h.uniq h'
  · rw [if_neg ha] at h h'; rw [h, h']
theorem wpost_no {L : List (List Int)} (h : allOk L = false) : WPost L (-1) := by unfold WPost; rw [if_neg (by simp [h])]
theorem allOk_long {L : List (List Int)} (h : 8 < L.length) : allOk L = false := by unfold allOk; rw [decide_eq_false (by omega)]; rfl
theorem allOk_bad {L : List (List Int)} {i : Nat} (hi : i < L.length) (h : rowB (hd L) L[i] = false) : allOk L = false := by
  unfold allOk
  rw [show L.all (rowB (hd L)) = false from List.all_eq_false.2 ⟨L[i], List.getElem_mem hi, by simp [h]⟩, Bool.and_false]
theorem allOk_yes {L : List (List Int)} (h8 : L.length ≤ 8) (h : ∀ i (hi : i < L.length), rowB (hd L) L[i] = true) : allOk L = true := by
  unfold allOk
  rw [decide_eq_true h8, Bool.true_and, List.all_eq_true]
  intro x hx
  obtain ⟨i, hi, rfl⟩ := List.getElem_of_mem hx
  exact h i hi
theorem rowB_parts {h0 h : List Int} (hh : rowB h0 h = true) : hopsB h 16 = true ∧ 0 < h.length ∧ h.length = h0.length := by
  unfold rowB at hh; simp only [Bool.and_eq_true, decide_eq_true_eq] at hh; exact ⟨hh.1.1, hh.1.2, hh.2⟩
theorem rowB_col {h0 a b : List Int} (ha : rowB h0 a = true) (hb : rowB h0 b = true) : colOk a b = true := by
  obtain ⟨a1, a2, a3⟩ := rowB_parts ha
  obtain ⟨b1, b2, b3⟩ := rowB_parts hb
  exact colOk_yes a1 b1 (by omega) a2
theorem col_rowB {h0 r : List Int} (h : colOk r h0 = true) : rowB h0 r = true := by
  unfold colOk at h
  simp only [Bool.and_eq_true, decide_eq_true_eq] at h
  unfold rowB
  rw [h.1.1.1, decide_eq_true h.2, decide_eq_true h.1.2]; rfl
theorem nums_len (rs : List RowI) : (nums rs).length = rs.length := by simp [nums]
theorem nums_at {rs : List RowI} {i : Nat} (h : i < rs.length) (h' : i < (nums rs).length) : (nums rs)[i] = rs[i].l := by simp [nums]
theorem nums_getD {rs : List RowI} {i : Nat} (h : i < rs.length) : (nums rs).getD i [] = rs[i].l := by simp [nums, List.getD, h]

end Go.Proofs.Ytklbdkbaldkkpaa
