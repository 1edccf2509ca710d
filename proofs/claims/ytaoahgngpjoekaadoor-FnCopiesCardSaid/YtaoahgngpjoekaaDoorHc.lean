/- HopCollisions of the program and of the reference. No condition beyond lengths. -/
import Derived.Test.YtaoahgngpjoekaaDoorHs
import Derived.IntWalk
namespace Go.Proofs.YtaoahgngpjoekaaDoor
open Go.RowKit

def cntR (p : Nat → Bool) (n : Nat) : Nat := ((List.range n).filter p).length
theorem cntR_succ {p : Nat → Bool} (n : Nat) : cntR p (n + 1) = cntR p n + if p n = true then 1 else 0 := by
  unfold cntR
  rw [List.range_succ, List.filter_append, List.length_append]
  by_cases h : p n = true
  · simp [h]
  · simp [h]
theorem cntR_le {p : Nat → Bool} (n : Nat) : cntR p n ≤ n := by
  have := List.length_filter_le p (List.range n)
  rw [List.length_range] at this
  exact this
theorem cntR_congr {p q : Nat → Bool} {n : Nat} (h : ∀ i, i < n → p i = q i) : cntR p n = cntR q n := by
  unfold cntR
  rw [List.filter_congr (fun i hi => h i (List.mem_range.1 hi))]

def meetB (a b : List Int) (f i : Nat) : Bool := a.getD i 0 == b.getD ((i + f) % b.length) 0
def meet (a b : List Int) (k : Int) : Nat := cntR (meetB a b (k % b.length).toNat) a.length
def colOk (a b : List Int) : Bool := hopsB a 16 && hopsB b 16 && decide (a.length = b.length) && decide (0 < a.length)
def colHops (a b : List Int) (k : Int) : Int := if colOk a b = true then meet a b k else -1
theorem colHops_no {a b : List Int} {k : Int} (h : colOk a b = false) : colHops a b k = -1 := by simp [colHops, h]
theorem colHops_yes {a b : List Int} {k : Int} (h : colOk a b = true) : colHops a b k = meet a b k := by simp [colHops, h]

theorem colOk_ne {a b : List Int} (h : a.length ≠ b.length) : colOk a b = false := by unfold colOk; rw [decide_eq_false h]; simp
theorem colOk_nil {a b : List Int} (h : a.length = 0) : colOk a b = false := by unfold colOk; rw [decide_eq_false (show ¬ 0 < a.length by omega)]; simp
theorem colOk_nil2 {a b : List Int} (h : b.length = 0) : colOk a b = false := by
  by_cases h1 : a.length = b.length
  · exact colOk_nil (by omega)
  · exact colOk_ne h1
theorem colOk_yes {a b : List Int} (h1 : hopsB a 16 = true) (h2 : hopsB b 16 = true) (h3 : a.length = b.length) (h4 : 0 < a.length) : colOk a b = true := by unfold colOk; rw [h1, h2, decide_eq_true h3, decide_eq_true h4]; rfl

theorem rot_get {b : List Int} {f i : Nat} (hf : f < b.length) (hi : i < b.length) : (rotL f b).getD i 0 = b.getD ((i + f) % b.length) 0 := by
  unfold rotL
  simp only [List.getD]
  congr 1
  rw [List.getElem?_append, List.length_drop]
  by_cases h : i < b.length - f
  · rw [if_pos h, List.getElem?_drop, Nat.mod_eq_of_lt (by omega), Nat.add_comm]
  · rw [if_neg h, List.getElem?_take, if_pos (by omega), show (i + f) % b.length = i - (b.length - f) from ?_]
    rw [show i + f = (i - (b.length - f)) + b.length by omega, Nat.add_mod_right, Nat.mod_eq_of_lt (by omega)]

end Go.Proofs.YtaoahgngpjoekaaDoor
