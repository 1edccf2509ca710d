/- Draws of chapter 7: hops, jammed channels, numbers of channels. No condition beyond lengths. -/
import Derived.Test.YtdedcablhahbnaaDoorD
import Derived.Test.YtdedcablhahbnaaDoorHl
import Derived.Test.YtdedcablhahbnaaDoorRh
import Derived.Test.YtdedcablhahbnaaDoorHs
namespace Go.Proofs.YtdedcablhahbnaaDoor
open Go.RowKit

theorem Rd.zero (w : World) (ao : Option Addr) : Rd w ao 0 [] := ⟨rfl, by omega, fun i hi => absurd hi (by omega)⟩
/-- Own memory of the call, a slice that reads as l. -/
def RdC (w : World) (ao : Option Addr) (n c : Nat) (l : List Int) : Prop := Rd w ao n l ∧ n ≤ c ∧ (ao = none → c = 0)
theorem Own.rdc {w : World} {lo n c : Nat} {ao : Option Addr} {l : List Int} (h : Own w lo ao n c l) : RdC w ao n c l := by
  refine ⟨h.rd, ?_⟩
  rcases h.2.2.2 with ⟨h1, h2⟩ | ⟨g, cap, cur, hv, _, _, hc, _⟩
  · cases h1; exact ⟨Nat.le_refl _, fun _ => rfl⟩
  · cases hv; exact ⟨hc, fun e => by cases e⟩
theorem RdC.below {w w' : World} {n c : Nat} {ao : Option Addr} {l : List Int} (h : RdC w ao n c l) (hb : Below w.heap.size w w') : RdC w' ao n c l := ⟨h.1.below hb, h.2⟩

/-- A register that is drawn. -/
def SomeRegP (w : World) (g p : Nat) (e : Ending) (w' : World) : Prop :=
  ∃ s t x : Int, ∃ q, e = .returned (.agg #[.int .i64 s, .int .i64 t, .int .i64 x]) ∧ regB s t x = true ∧ p ≤ q ∧ q ≤ p + 4 ∧ Rdr w' g q ∧ w.grownBy w' (some g)

theorem gr_trans_below {w w1 w2 : World} {g : Nat} (h : w.grownBy w1 (some g)) (hb : Below w1.heap.size w1 w2) : w.grownBy w2 (some g) := h.trans (gr_of_below hb _)

theorem num_lit {w : World} {g p n b c : Nat} {t : TypeId} (l : List Int) (h : Rdr w g p) (hp : p ≤ 1073741824) (hb : b = w.heap.size) (hn : n = l.length) (hs : l.length ≤ 1099511627776) (hn0 : 0 < n) :
    Calls Tryd.prog 46 #[.pointer (some ⟨g, 0, none⟩), .slice (some ⟨b, 0, none⟩) n c] (w.alloc (.cells (l.map (Value.int .i64)).toArray t)) (NumP (w.alloc (.cells (l.map (Value.int .i64)).toArray t)) g p l) := by
  refine num_c (h.alloc _) hp (rd_lit' w l t b n hb hn hs) ?_ hn0
  intro a ha
  cases ha
  have := h.lt
  intro _
  show b ≠ g
  omega

/-- Hops that are drawn, on how many channels. -/
def SomeHopsP (w : World) (g p : Nat) (e : Ending) (w' : World) : Prop :=
  ∃ ao n c, ∃ l : List Int, ∃ ch : Int, ∃ q, e = .returned (.tuple #[.slice ao n c, .int .i64 ch]) ∧ Own w' w.heap.size ao n c l ∧ (1 ≤ ch ∧ ch ≤ 16) ∧ hopsB l ch = true ∧ 0 < l.length ∧ l.length ≤ 14 ∧ p ≤ q ∧ q ≤ p + 20 ∧ Rdr w' g q ∧ w.grownBy w' (some g)

end Go.Proofs.YtdedcablhahbnaaDoor
