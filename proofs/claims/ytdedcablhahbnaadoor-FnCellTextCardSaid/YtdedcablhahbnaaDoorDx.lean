/- Draws of chapter 7: the generators of the laws. No condition beyond lengths. -/
import Derived.Test.YtdedcablhahbnaaDoorDr
namespace Go.Proofs.YtdedcablhahbnaaDoor
open Go.RowKit

/-- What a law's argument 'code' gives: bytes that can be read. -/
def CodeW (w : World) (ao : Option Addr) (n c : Nat) : Prop := ∃ l, RdB w ao n l ∧ n ≤ c ∧ ∀ x ∈ l, 0 ≤ x ∧ x < 256
theorem CodeW.below {w w' : World} {ao : Option Addr} {n c : Nat} (h : CodeW w ao n c) (hb : Below w.heap.size w w') : CodeW w' ao n c := by
  obtain ⟨l, h1, h2⟩ := h; exact ⟨l, h1.below hb, h2⟩

/-- The posts: hops and a number, and so on. -/
def RetHI (w : World) (lo hi : Int) (e : Ending) (w' : World) : Prop :=
  ∃ ao n c, ∃ l : List Int, ∃ k : Int, e = .returned (.tuple #[.slice ao n c, .int .i64 k]) ∧ RdC w' ao n c l ∧ l.length ≤ 301 ∧ lo ≤ k ∧ k ≤ hi ∧ Below w.heap.size w w'
def RetHJ (w : World) (e : Ending) (w' : World) : Prop :=
  ∃ ao n c, ∃ l : List Int, ∃ bo m d, ∃ j : List Int, e = .returned (.tuple #[.slice ao n c, .slice bo m d]) ∧ RdC w' ao n c l ∧ l.length ≤ 301 ∧ RdC w' bo m d j ∧ j.length ≤ 17 ∧ Below w.heap.size w w'

theorem some_base {w : World} {g : Nat} {ao : Option Addr} {n c : Nat} {l : List Int} {lo : Nat} (h : Own w lo ao n c l) (hg : g < lo) : ∀ a, ao = some a → g < a.block := fun a ha => Nat.lt_of_lt_of_le hg (h.lt a ha).1





def RetHII (w : World) (lo hi lo2 hi2 : Int) (e : Ending) (w' : World) : Prop :=
  ∃ ao n c, ∃ l : List Int, ∃ k m : Int, e = .returned (.tuple #[.slice ao n c, .int .i64 k, .int .i64 m]) ∧ RdC w' ao n c l ∧ l.length ≤ 301 ∧ lo ≤ k ∧ k ≤ hi ∧ lo2 ≤ m ∧ m ≤ hi2 ∧ Below w.heap.size w w'
def RetHIJ (w : World) (lo hi : Int) (e : Ending) (w' : World) : Prop :=
  ∃ ao n c, ∃ l : List Int, ∃ k : Int, ∃ bo m d, ∃ j : List Int, e = .returned (.tuple #[.slice ao n c, .int .i64 k, .slice bo m d]) ∧ RdC w' ao n c l ∧ l.length ≤ 301 ∧ lo ≤ k ∧ k ≤ hi ∧ RdC w' bo m d j ∧ j.length ≤ 17 ∧ Below w.heap.size w w'
def RetHHI (w : World) (lo hi : Int) (e : Ending) (w' : World) : Prop :=
  ∃ ao n c, ∃ l : List Int, ∃ bo m d, ∃ j : List Int, ∃ k : Int, e = .returned (.tuple #[.slice ao n c, .slice bo m d, .int .i64 k]) ∧ RdC w' ao n c l ∧ l.length ≤ 301 ∧ RdC w' bo m d j ∧ j.length ≤ 301 ∧ lo ≤ k ∧ k ≤ hi ∧ Below w.heap.size w w'
def RetIII (w : World) (e : Ending) (w' : World) : Prop :=
  ∃ a b c : Int, e = .returned (.tuple #[.int .i64 a, .int .i64 b, .int .i64 c]) ∧ (-1 ≤ a ∧ a ≤ 17) ∧ (-1 ≤ b ∧ b ≤ 9223372036854775807) ∧ (-1 ≤ c ∧ c ≤ 9223372036854775807) ∧ Below w.heap.size w w'

end Go.Proofs.YtdedcablhahbnaaDoor
