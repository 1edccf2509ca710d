/- The free paths of a code tree (AllocateTree of the program and of the reference). No condition beyond lengths. -/
import Derived.Test.YtdedcablhahbnaaDoorCy
import Derived.Test.YtdedcablhahbnaaDoorG
import Derived.Test.YtdedcablhahbnaaDoorRg
import Derived.Test.YtdedcablhahbnaaDoorMk
import Derived.Deep.LoopGhost
namespace Go.Proofs.YtdedcablhahbnaaDoor
open Go.RowKit

def bitN (n d i : Nat) : Nat := n / 2 ^ (d - 1 - i) % 2
def binL (n d : Nat) : List Int := (List.range d).map fun i => ((48 + bitN n d i : Nat) : Int)
def binT (n d : Nat) : ByteArray := text (binL n d)
theorem binL_len (n d : Nat) : (binL n d).length = d := by simp [binL]
theorem binL_get {n d i : Nat} (h : i < (binL n d).length) : (binL n d)[i] = ((48 + bitN n d i : Nat) : Int) := by simp [binL]
theorem bitN_le (n d i : Nat) : bitN n d i ≤ 1 := by unfold bitN; omega
theorem binT_size (n d : Nat) : (binT n d).size = d := by unfold binT; rw [text_size, binL_len]



set_option maxHeartbeats 800000 in
theorem l9Dec_c (n : Nat) (w : World) (h : n ≤ 9) : Calls Tryd.prog 19 #[.int .i64 n] w fun e w' => e = .returned (.string (text [((48 + n : Nat) : Int)])) ∧ Below w.heap.size w w' := by
  have hT := Lib.hid (text_one_size (48 + (n : Int)))
  have hE := Lib.hid (show text [48 + (n : Int)] ++ (⟨#[]⟩ : ByteArray) = text [((48 + n : Nat) : Int)] by rw [show (48 + (n : Int)) = ((48 + n : Nat) : Int) by omega]; apply ByteArray.ext; simp)
  have hsum : ¬ (text [48 + (n : Int)]).size + (⟨#[]⟩ : ByteArray).size > 9223372036854775807 := by rw [hT.out]; decide
  have hb : Below w.heap.size w (w.alloc (.cells #[.int .u8 (48 + (n : Int))] 5)) := (Below.refl _ _).alloc (Nat.le_refl _) _
  go_enter Tryd.func19, Tryd.ntmps19
  go_wp2_with fail
  go_loop [0, 3] (fun m o => m = .int .i64 n ∧ o = .string ⟨#[]⟩) (fun _ _ => 0)
  case atStart => exact ⟨rfl, rfl⟩
  case round =>
    obtain ⟨rfl, rfl⟩ := hrel
    go_wp2_with (with_reducible refine wp_text 22 5 9 Tryd.underlying22 Tryd.underlying5 Tryd.underlying9 _ rfl (.tmp 27) rfl rfl (rdB_new _ _ _) ?_)
    go_ret
    exact ⟨ret_s hE.out, hb⟩

/-- Whether a path meets none of those in use; the free paths among the first k of d bits. -/
def freeB (u : List ByteArray) (p : ByteArray) : Bool := u.all fun q => !confB p q
def freeL (u : List ByteArray) (d k : Nat) : List ByteArray := ((List.range k).map (fun n => binT n d)).filter (freeB u)
theorem freeL_zero (u : List ByteArray) (d : Nat) : freeL u d 0 = [] := rfl
theorem freeL_yes {u : List ByteArray} {d k : Nat} (h : freeB u (binT k d) = true) : freeL u d (k + 1) = freeL u d k ++ [binT k d] := by
  unfold freeL; rw [List.range_succ, List.map_append, List.filter_append]; simp [h]
theorem freeL_no {u : List ByteArray} {d k : Nat} (h : freeB u (binT k d) = false) : freeL u d (k + 1) = freeL u d k := by
  unfold freeL; rw [List.range_succ, List.map_append, List.filter_append]; simp [h]
theorem freeL_len (u : List ByteArray) (d k : Nat) : (freeL u d k).length ≤ k := by
  unfold freeL; refine Nat.le_trans (List.length_filter_le _ _) ?_; simp
theorem freeB_all {u : List ByteArray} {p : ByteArray} {n : Nat} (hn : u.length ≤ n) (h : ∀ x (_ : x < n) (hl : x < u.length), confB p u[x] = false) : freeB u p = true := by
  unfold freeB; rw [List.all_eq_true]
  intro q hq
  obtain ⟨i, hi, rfl⟩ := List.getElem_of_mem hq
  rw [h i (by omega) hi]; rfl
theorem freeB_hit {u : List ByteArray} {p : ByteArray} {j : Nat} (hl : j < u.length) (h : confB p u[j] = true) : freeB u p = false := by
  unfold freeB; rw [List.all_eq_false]; exact ⟨u[j], List.getElem_mem hl, by simp [h]⟩
theorem freeB_take {u : List ByteArray} {p : ByteArray} {j : Nat} (hl : j < u.length) : freeB (u.take (j + 1)) p = (freeB (u.take j) p && !confB p u[j]) := by
  unfold freeB; rw [List.take_succ_eq_append_getElem hl, List.all_append]; simp
theorem pathB_bin {n d : Nat} (hd : d ≤ 6) : pathB (binT n d) = true := by
  unfold pathB
  rw [binT_size, decide_eq_true hd, Bool.true_and]
  unfold allS binT text
  rw [List.all_eq_true]
  intro c hc
  simp only [List.mem_map, binL] at hc
  obtain ⟨x, ⟨i, _, rfl⟩, rfl⟩ := hc
  have h := bitN_le n d i
  rcases (show bitN n d i = 0 ∨ bitN n d i = 1 by omega) with e | e <;> rw [e] <;> decide
theorem pow6 {d : Nat} (h : d ≤ 6) : 2 ^ d ≤ 64 := Nat.le_trans (Nat.pow_le_pow_right (by omega) h) (by decide)
theorem pathB_size {q : ByteArray} (h : pathB q = true) : q.size ≤ 6 := by
  unfold pathB at h; rw [Bool.and_eq_true, decide_eq_true_eq] at h; exact h.1

end Go.Proofs.YtdedcablhahbnaaDoor
