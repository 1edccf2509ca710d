/- AllocateTree of the program and of the reference over valid paths. No condition beyond that. -/
import Derived.Test.YtbgabjdgbibohaaTb
import Derived.Test.YtbgabjdgbibohaaFp
namespace Go.Proofs.Ytbgabjdgbibohaa
open Go.RowKit

/-- The path that is given out: the first that is free. -/
def allocR (u : List ByteArray) (d : Int) : Option ByteArray := if inB d 0 6 = true then (freeL u d.toNat (2 ^ d.toNat)).head? else none
theorem allocR_no {u : List ByteArray} {d : Int} (h : inB d 0 6 = false) : allocR u d = none := by unfold allocR; rw [h]; rfl
theorem allocR_yes {u : List ByteArray} {d : Nat} (h : d ≤ 6) : allocR u d = (freeL u d (2 ^ d)).head? := by
  unfold allocR; rw [inB_true (by omega) (by omega), if_pos rfl]; simp




theorem text_add (l r : List Int) : text l ++ text r = text (l ++ r) := by
  apply ByteArray.ext; simp [text]
theorem binL_take {n d k : Nat} (h : k < d) : (binL n d).take (k + 1) = (binL n d).take k ++ [((48 + bitN n d k : Nat) : Int)] := by
  have hl : k < (binL n d).length := by rw [binL_len]; exact h
  rw [List.take_succ_eq_append_getElem hl, binL_get hl]

end Go.Proofs.Ytbgabjdgbibohaa
