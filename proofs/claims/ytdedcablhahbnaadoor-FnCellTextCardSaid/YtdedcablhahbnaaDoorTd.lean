/- The code of a path by the reference (l3Tree). No condition beyond lengths. -/
import Derived.Test.YtdedcablhahbnaaDoorTc
namespace Go.Proofs.YtdedcablhahbnaaDoor
open Go.RowKit

def ones (n : Nat) : ByteArray := text (List.replicate n 49)
theorem ones_size (n : Nat) : (ones n).size = n := by unfold ones; rw [text_size, List.length_replicate]
theorem ones_add (a b : Nat) : ones a ++ ones b = ones (a + b) := by unfold ones; rw [text_add, List.replicate_append_replicate]
theorem ones_zero : ones 0 = ⟨#[]⟩ := rfl
theorem ones_one : ones 1 = ⟨#[49]⟩ := rfl
theorem ones_get {n k : Nat} (h : k < (ones n).size) : ((ones n)[k].toNat : Int) = 49 := by
  have hn : k < n := by rw [ones_size] at h; exact h
  rw [← codes_get _ h]
  have e : codes (ones n) = List.replicate n 49 := codes_text (fun x hx => .inr (List.eq_of_mem_replicate hx))
  simp [e]

end Go.Proofs.YtdedcablhahbnaaDoor
