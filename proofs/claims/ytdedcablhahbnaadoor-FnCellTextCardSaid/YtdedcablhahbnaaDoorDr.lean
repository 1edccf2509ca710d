/- Draws of chapter 7: what the laws' generators hand over. No condition beyond lengths. -/
import Derived.Test.YtdedcablhahbnaaDoorDh
namespace Go.Proofs.YtdedcablhahbnaaDoor
open Go.RowKit

/-- Only block g and the slice's own block may have turned. -/
structure Gr2 (w w' : World) (g : Nat) (ao : Option Addr) : Prop where
  os : w'.os = w.os
  tape : w'.tape = w.tape
  output : w'.output = w.output
  size : w.heap.size ≤ w'.heap.size
  block : ∀ k, k < w.heap.size → k ≠ g → some k ≠ ao.map (·.block) → w'.heap[k]? = w.heap[k]?
theorem Gr2.of {w w' : World} {g : Nat} {ao : Option Addr} (h : w.grownBy w' (some g)) : Gr2 w w' g ao := ⟨h.os, h.tape, h.output, h.size, fun k hk h1 _ => h.block k hk (fun e => h1 (by injection e))⟩
theorem Gr2.app {w w1 w2 : World} {g : Nat} {ao : Option Addr} (h : w.grownBy w1 (some g)) (h2 : w1.grownBy w2 (ao.map (·.block))) : Gr2 w w2 g ao :=
  ⟨h2.os.trans h.os, h2.tape.trans h.tape, h2.output.trans h.output, Nat.le_trans h.size h2.size, fun k hk h1 h3 => (h2.block k (Nat.lt_of_lt_of_le hk h.size) h3).trans (h.block k hk (fun e => h1 (by injection e)))⟩
theorem Gr2.below {w w' : World} {g B : Nat} {ao : Option Addr} (h : Gr2 w w' g ao) (hg : B ≤ g) (ha : ∀ a, ao = some a → B ≤ a.block) (hB : B ≤ w.heap.size) : Below B w w' :=
  ⟨h.os, h.tape, h.output, h.size, fun k hk => h.block k (by omega) (by omega) (fun e => by
    cases ao with
    | none => cases e
    | some a => have := ha a rfl; simp at e; omega)⟩
theorem Rd.gr2 {w w' : World} {ao bo : Option Addr} {n g : Nat} {l : List Int} (h : Rd w bo n l) (hg : Gr2 w w' g ao) (h1 : ∀ b, bo = some b → 0 < n → b.block ≠ g) (h2 : ∀ a b, ao = some a → bo = some b → 0 < n → b.block ≠ a.block) : Rd w' bo n l := by
  refine ⟨h.1, h.2.1, fun i hi => ?_⟩
  obtain ⟨b, off, e1, e2⟩ := h.2.2 i hi
  refine ⟨b, off, e1, ?_⟩
  rw [World.cell?_of_block (w := w) (hg.block b (lt_of_cell e2) (h1 _ e1 (by omega)) (fun e => by
    cases ao with
    | none => cases e
    | some a => exact h2 a _ rfl e1 (by omega) (by simpa using e)))]
  exact e2

/-- What l7Bad leaves. -/
def BadP (w : World) (g p : Nat) (ao : Option Addr) (e : Ending) (w' : World) : Prop :=
  ∃ a2 n2 c2, ∃ l2 : List Int, ∃ q, e = .returned (.slice a2 n2 c2) ∧ RdC w' a2 n2 c2 l2 ∧ l2.length ≤ 301 ∧ p ≤ q ∧ q ≤ p + 2 ∧ Rdr w' g q ∧ Gr2 w w' g ao ∧ ∀ a, a2 = some a → g < a.block

/-- What l7Set leaves. -/
def SetP (w : World) (g p : Nat) (e : Ending) (w' : World) : Prop :=
  ∃ a2 n2 c2, ∃ l2 : List Int, ∃ q, e = .returned (.slice a2 n2 c2) ∧ Own w' w.heap.size a2 n2 c2 l2 ∧ l2.length ≤ 17 ∧ p ≤ q ∧ q ≤ p + 10 ∧ Rdr w' g q ∧ w.grownBy w' (some g)

/-- A number that was drawn, with a bound. -/
def IntP (w : World) (g p k : Nat) (lo hi : Int) (e : Ending) (w' : World) : Prop :=
  ∃ v : Int, ∃ q, e = .returned (.int .i64 v) ∧ lo ≤ v ∧ v ≤ hi ∧ p ≤ q ∧ q ≤ p + k ∧ Rdr w' g q ∧ w.grownBy w' (some g)

end Go.Proofs.YtdedcablhahbnaaDoor
