/- HopSequence of the program and of the reference. No condition. -/
import Derived.Test.YtadcckjlcmnhbaaRj
import Derived.Test.YtadcckjlcmnhbaaHl
namespace Go.Proofs.Ytadcckjlcmnhbaa
open Go.RowKit

/-- The state after i rounds of as many steps as there are cells. -/
def hopX (s t x : Nat) : Nat → Nat
  | 0 => x
  | i + 1 => jumpS s t s (hopX s t x i)
theorem hopX_lt {s t x : Nat} (hs : 2 ≤ s) (hx : x < 2 ^ s) : ∀ i, hopX s t x i < 2 ^ s := by
  intro i
  induction i with
  | zero => exact hx
  | succ i ih => exact jumpS_lt hs ih
def hopL (s t x : Nat) (ch : Int) (n : Nat) : List Int := (List.range n).map fun i => (hopX s t x i : Int) % ch
theorem hopL_succ {s t x n : Nat} {ch : Int} : hopL s t x ch (n + 1) = hopL s t x ch n ++ [(hopX s t x n : Int) % ch] := map_range_succ (f := fun i => (hopX s t x i : Int) % ch) n
theorem hopL_len {s t x n : Nat} {ch : Int} : (hopL s t x ch n).length = n := by simp [hopL]
theorem hopL_get {s t x n i : Nat} {ch : Int} (h : i < n) : (hopL s t x ch n).getD i 0 = (hopX s t x i : Int) % ch := by simp [hopL, List.getD, h]
def hopOk (s t x ch n : Int) : Bool := regB s t x && chB ch && inB n 0 300
def hopSeq (s t x ch n : Int) : Option (List Int) := if hopOk s t x ch n = true then some (hopL s.toNat t.toNat x.toNat ch n.toNat) else none
theorem hopSeq_no {s t x ch n : Int} (h : hopOk s t x ch n = false) : hopSeq s t x ch n = none := by simp [hopSeq, h]
theorem hopSeq_yes {s t x ch n : Int} (h : hopOk s t x ch n = true) : hopSeq s t x ch n = some (hopL s.toNat t.toNat x.toNat ch n.toNat) := by simp [hopSeq, h]
theorem regB_nat {s t x : Int} (h : regB s t x = true) : ∃ S T X : Nat, s = S ∧ t = T ∧ x = X ∧ (2 ≤ S ∧ S ≤ 8) ∧ (1 ≤ T ∧ T < 2 ^ S) ∧ X < 2 ^ S := by
  unfold regB tapB at h
  simp only [Bool.and_eq_true] at h
  obtain ⟨⟨h1, h2⟩, h3⟩ := h
  have a := inB_iff.1 h1
  have b := inB_iff.1 h2
  have c := inB_iff.1 h3
  obtain ⟨S, rfl⟩ := Int.eq_ofNat_of_zero_le (show 0 ≤ s by omega)
  obtain ⟨T, rfl⟩ := Int.eq_ofNat_of_zero_le (show 0 ≤ t by omega)
  obtain ⟨X, rfl⟩ := Int.eq_ofNat_of_zero_le (show 0 ≤ x by omega)
  have hp : (2 : Int) ^ S = ((2 ^ S : Nat) : Int) := by rw [Int.natCast_pow]; rfl
  rw [Int.toNat_natCast, hp] at b c
  exact ⟨S, T, X, rfl, rfl, rfl, by omega, by omega, by omega⟩
theorem regAt_one (w : World) (s t x : Int) : RegAt (w.alloc (.cells #[.int .i64 s, .int .i64 t, .int .i64 x] 42)) w.heap.size s t x := by
  unfold RegAt; rw [heap_alloc_new]
theorem RegAt.alloc {w : World} {b : Nat} {s t x : Int} (h : RegAt w b s t x) (o : Obj) : RegAt (w.alloc o) b s t x := by
  unfold RegAt; rw [Below.heap_alloc _ _ _ h.lt]; exact h

end Go.Proofs.Ytadcckjlcmnhbaa
