/- TreeCode of the program: the code of a path. No condition beyond lengths. -/
import Derived.Test.YtdedcablhahbnaaDoorFq
namespace Go.Proofs.YtdedcablhahbnaaDoor
open Go.RowKit

/-- All bits changed. -/
def invL (l : List Int) : List Int := l.map fun x => 97 - x
def invT (s : ByteArray) : ByteArray := text (invL (codes s))
def isBit (x : Int) : Prop := x = 48 ∨ x = 49
theorem invL_get {l : List Int} {i : Nat} (h : i < (invL l).length) : (invL l)[i] = 97 - l[i]'(by simpa [invL] using h) := by simp [invL]
theorem invL_len (l : List Int) : (invL l).length = l.length := by simp [invL]


/-- The code of the first k bits of a path, as bytes. -/
def treeL (p : ByteArray) : Nat → List Int
  | 0 => [48]
  | k + 1 => treeL p k ++ (if (codes p).getD k 0 = 48 then treeL p k else invL (treeL p k))
theorem treeL_len (p : ByteArray) (k : Nat) : (treeL p k).length = 2 ^ k := by
  induction k with
  | zero => rfl
  | succ k ih =>
    unfold treeL
    rw [List.length_append, Nat.pow_succ]
    split
    · omega
    · rw [invL_len]; omega
theorem treeL_bit (p : ByteArray) (k : Nat) : ∀ x ∈ treeL p k, isBit x := by
  induction k with
  | zero => intro x hx; unfold treeL at hx; rw [List.mem_singleton] at hx; exact .inl hx
  | succ k ih =>
    intro x hx
    unfold treeL at hx
    rcases List.mem_append.1 hx with hx | hx
    · exact ih x hx
    · split at hx
      · exact ih x hx
      · unfold invL at hx
        obtain ⟨y, hy, rfl⟩ := List.mem_map.1 hx
        rcases ih y hy with h | h
        · right; omega
        · left; omega
theorem codes_text {l : List Int} (h : ∀ x ∈ l, isBit x) : codes (text l) = l := by
  unfold codes text
  simp only [List.map_map]
  refine (List.map_congr_left fun x hx => ?_).trans (List.map_id l)
  rcases h x hx with rfl | rfl <;> decide
theorem treeT_yes {p : ByteArray} {k : Nat} (h : (codes p).getD k 0 = 48) : text (treeL p k) ++ text (treeL p k) = text (treeL p (k + 1)) := by
  rw [text_add]; conv => rhs; unfold treeL
  rw [if_pos h]
theorem treeT_no {p : ByteArray} {k : Nat} (h : (codes p).getD k 0 ≠ 48) : text (treeL p k) ++ invT (text (treeL p k)) = text (treeL p (k + 1)) := by
  unfold invT
  rw [codes_text (treeL_bit p k), text_add]; conv => rhs; unfold treeL
  rw [if_neg h]

end Go.Proofs.YtdedcablhahbnaaDoor
