/- Words and small laws that all walks of this seat share: a slice of numbers that can be read (Rd), one that the call made itself (Own), a world that was only read (Qw). No condition. -/
import Derived.Test.YtdedcablhahbnaaDoorRows
import Derived.WalkKit
import Derived.WalkSpells
import Derived.WalkLawsBesides
import Derived.Lib.Hide
import Derived.BigQuiet
import Derived.Deep.QuietTactic
import Derived.StillTailTactics
namespace Go.Proofs.YtdedcablhahbnaaDoor
open Go.RowKit

/-- Only read: draws alone. -/
def Qw (w w' : World) : Prop := ∃ n, w' = w.drewN n

theorem Qw.refl (w : World) : Qw w w := ⟨0, rfl⟩
theorem Qw.drewN (w : World) (n : Nat) : Qw w (w.drewN n) := ⟨n, rfl⟩
theorem Qw.trans {a b c : World} (h : Qw a b) (k : Qw b c) : Qw a c := by
  obtain ⟨n, rfl⟩ := h
  obtain ⟨m, rfl⟩ := k
  exact ⟨n + m, by rw [World.drewN_drewN]⟩
theorem Qw.below {w w' : World} (h : Qw w w') (B : Nat) : Below B w w' := by
  obtain ⟨n, rfl⟩ := h
  exact below_drewN (Below.refl _ _) n

/-- The slice value '.slice ao n c' reads, in w, as the numbers l. -/
def Rd (w : World) (ao : Option Addr) (n : Nat) (l : List Int) : Prop :=
  n = l.length ∧ n ≤ 1099511627776 ∧ ∀ i, i < n → ∃ b off, ao = some ⟨b, off, none⟩ ∧ w.cell? ⟨b, off + i, none⟩ = some (.int .i64 (l.getD i 0))

/-- The slice value '.slice ao n c' was made by the call itself, in a block from lo on; it holds the numbers l. -/
def Own (w : World) (lo : Nat) (ao : Option Addr) (n c : Nat) (l : List Int) : Prop :=
  n = l.length ∧ n ≤ 1099511627776 ∧ w.ownsRow lo 3 1 (.slice ao n c) n (l.map (Value.int .i64))

theorem lt_of_cell {w : World} {a : Addr} {v : Value} (h : w.cell? a = some v) : a.block < w.heap.size := by
  unfold World.cell? at h
  cases hb : w.heap[a.block]? with
  | none => rw [hb] at h; cases h
  | some o => exact (Array.getElem?_eq_some_iff.1 hb).1

theorem getD_map_int {l : List Int} {i : Nat} (hi : i < l.length) : (l.map (Value.int .i64))[i]? = some (.int .i64 (l.getD i 0)) := by
  simp [List.getD, hi]

theorem Own.rd {w : World} {lo : Nat} {ao : Option Addr} {n c : Nat} {l : List Int} (h : Own w lo ao n c l) : Rd w ao n l := by
  obtain ⟨hn, hs, hown⟩ := h
  refine ⟨hn, hs, fun i hi => ?_⟩
  rcases hown.2 with ⟨h1, h2⟩ | ⟨g, cap, cur, hv, hr⟩
  · omega
  · cases hv
    refine ⟨g, 0, rfl, ?_⟩
    rw [Nat.zero_add, hown.cellAt i (by omega)]
    exact getD_map_int (by omega)

theorem Rd.below {w w' : World} {ao : Option Addr} {n : Nat} {l : List Int} (h : Rd w ao n l) (hb : Below w.heap.size w w') : Rd w' ao n l := by
  refine ⟨h.1, h.2.1, fun i hi => ?_⟩
  obtain ⟨b, off, h1, h2⟩ := h.2.2 i hi
  exact ⟨b, off, h1, by rw [hb.cell (lt_of_cell h2)]; exact h2⟩

theorem Rd.qw {w w' : World} {ao : Option Addr} {n : Nat} {l : List Int} (h : Rd w ao n l) (hq : Qw w w') : Rd w' ao n l := h.below (hq.below _)

theorem Rd.nil (w : World) : Rd w none 0 [] := ⟨rfl, by omega, fun i hi => absurd hi (by omega)⟩

/-- A cell of a slice that is read, for a round's walk. -/
theorem Rd.at {w : World} {ao : Option Addr} {n : Nat} {l : List Int} (h : Rd w ao n l) {i : Nat} (hi : i < n) :
    ∃ b off, ao = some ⟨b, off, none⟩ ∧ ∃ hl : i < l.length, w.cell? ⟨b, off + i, none⟩ = some (.int .i64 (l[i]'hl)) := by
  obtain ⟨b, off, h1, h2⟩ := h.2.2 i hi
  have hl : i < l.length := by have := h.1; omega
  exact ⟨b, off, h1, hl, by rw [h2]; simp [List.getD, hl]⟩

theorem ownsRow_below {w w' : World} {lo : Nat} {e : TypeId} {size : Nat} {v : Value} {n : Nat} {xs : List Value} (h : w.ownsRow lo e size v n xs) {B : Nat} (hb : Below B w w') (hB : ∀ k, v.ownBlock = some k → k < B) : w'.ownsRow lo e size v n xs := by
  refine ⟨h.1, ?_⟩
  rcases h.2 with h2 | ⟨g, cap, cur, hv, hg, hh, hr⟩
  · exact .inl h2
  · refine .inr ⟨g, cap, cur, hv, hg, ?_, hr⟩
    rw [hb.block g (hB g (by rw [hv]; rfl))]
    exact hh

theorem Own.below {w w' : World} {lo : Nat} {ao : Option Addr} {n c : Nat} {l : List Int} (h : Own w lo ao n c l) (hb : Below w.heap.size w w') : Own w' lo ao n c l :=
  ⟨h.1, h.2.1, ownsRow_below h.2.2 hb fun k hk => (h.2.2.lt k hk).2⟩

theorem Own.qw {w w' : World} {lo : Nat} {ao : Option Addr} {n c : Nat} {l : List Int} (h : Own w lo ao n c l) (hq : Qw w w') : Own w' lo ao n c l := h.below (hq.below _)

theorem Own.mono {w : World} {lo lo' : Nat} {ao : Option Addr} {n c : Nat} {l : List Int} (h : Own w lo ao n c l) (hl : lo' ≤ lo) : Own w lo' ao n c l := by
  refine ⟨h.1, h.2.1, h.2.2.1, ?_⟩
  rcases h.2.2.2 with h2 | ⟨g, cap, cur, hv, hg, hr⟩
  · exact .inl h2
  · exact .inr ⟨g, cap, cur, hv, by omega, hr⟩

/-- Only blocks from lo on that are the slice's own may have turned. -/
def Wr (ao : Option Addr) (w w' : World) : Prop := w.grownBy w' (ao.map (·.block))

theorem ownBlock_slice (ao : Option Addr) (n c : Nat) : (Value.slice ao n c).ownBlock = ao.map (·.block) := by cases ao <;> rfl

theorem Wr.below {ao : Option Addr} {w w' : World} {lo n c : Nat} {l : List Int} (h : Wr ao w w') (ho : Own w lo ao n c l) (hlo : lo ≤ w.heap.size) : Below lo w w' := by
  refine ⟨h.os, h.tape, h.output, h.size, fun k hk => h.block k (by omega) fun e => ?_⟩
  have h2 := ho.2.2.lt k (by rw [ownBlock_slice]; exact e.symm)
  omega

/-- Another slice that lies below the written one's blocks reads on. -/
theorem Rd.wr {w w' : World} {ao bo : Option Addr} {n m c lo : Nat} {l r : List Int} (h : Rd w ao n l) (ho : Own w lo bo m c r) (hw : Wr bo w w') (hlt : ∀ b, ao = some b → 0 < n → b.block < lo) : Rd w' ao n l := by
  refine ⟨h.1, h.2.1, fun i hi => ?_⟩
  obtain ⟨b, off, h1, h2⟩ := h.2.2 i hi
  refine ⟨b, off, h1, ?_⟩
  have h3 : b < w.heap.size := lt_of_cell h2
  have h5 : b < lo := hlt _ h1 (by omega)
  have h6 : some b ≠ bo.map (·.block) := fun e => by
    have h4 := ho.2.2.lt b (by rw [ownBlock_slice]; exact e.symm)
    omega
  rw [World.cell?_of_block (w := w) (hw.block b h3 h6)]
  exact h2

theorem Own.lt {w : World} {lo : Nat} {ao : Option Addr} {n c : Nat} {l : List Int} (h : Own w lo ao n c l) : ∀ b, ao = some b → lo ≤ b.block ∧ b.block < w.heap.size := by
  intro b hb
  exact h.2.2.lt b.block (by rw [ownBlock_slice, hb]; rfl)

/-- An owned slice whose block differs from the written one's is owned on. -/
theorem Own.wr {w w' : World} {ao bo : Option Addr} {n m c d lo lo' : Nat} {l r : List Int} (h : Own w lo ao n c l) (ho : Own w lo' bo m d r) (hw : Wr bo w w') (hne : ∀ a b, ao = some a → bo = some b → a.block ≠ b.block) : Own w' lo ao n c l := by
  refine ⟨h.1, h.2.1, h.2.2.kept hw ?_⟩
  rw [ownBlock_slice]
  cases ao with
  | none => exact .inl rfl
  | some a =>
    right
    cases bo with
    | none => simp
    | some b =>
      have := hne a b rfl rfl
      simpa using this

theorem ret_b {x y : Bool} (h : x = y) : Ending.returned (.bool x) = .returned (.bool y) := by rw [h]
theorem ret_i {k : IntKind} {a b : Int} (h : a = b) : Ending.returned (.int k a) = .returned (.int k b) := by rw [h]

/-- What the frame of a law says of a slice of integers that came in, turned into Rd. -/
theorem rd_of_row {w : World} {a : Option Addr} {len cap : Nat} {zs : List Int}
    (h : (a = none ∧ len = 0 ∧ cap = 0 ∧ zs = []) ∨ ∃ x, a = some x ∧ len ≤ cap ∧ cap ≤ maxLen ∧ zs.length = cap ∧ (∀ i, i < zs.length → w.cell? (x.add i) = some (.int .i64 (zs.getD i 0))) ∧ ∀ n ∈ zs, (Lit.int .i64 n).wf = true)
    (hs : len ≤ 1099511627776) : Rd w a len (zs.take len) := by
  rcases h with ⟨rfl, rfl, rfl, rfl⟩ | ⟨x, rfl, h1, h2, h3, h4, _⟩
  · exact Rd.nil w
  · refine ⟨by rw [List.length_take]; omega, hs, fun i hi => ?_⟩
    obtain ⟨b, off, spot⟩ := x
    have hc0 := h4 0 (by omega)
    have hsp : spot = none := by simpa [Addr.add] using World.cell?_spot hc0
    subst hsp
    refine ⟨b, off, rfl, ?_⟩
    have e : (zs.take len).getD i 0 = zs.getD i 0 := by simp [List.getD, hi]
    rw [e, ← h4 i (by omega), Addr.add_lit]

theorem Rd.lt {w : World} {ao : Option Addr} {n : Nat} {l : List Int} (h : Rd w ao n l) : ∀ b, ao = some b → 0 < n → b.block < w.heap.size := by
  intro b hb hn
  obtain ⟨k, off, h1, h2⟩ := h.2.2 0 hn
  rw [hb] at h1
  cases h1
  exact lt_of_cell h2
theorem Own.wrOld {w w' : World} {ao bo : Option Addr} {n m c d lo lo' : Nat} {l r : List Int} (h : Own w lo ao n c l) (ho : Own w lo' bo m d r) (hw : Wr bo w w') (hlt : ∀ b, bo = some b → b.block < lo) : Own w' lo ao n c l :=
  h.wr ho hw fun a b ea eb => by have h1 := hlt b eb; have h2 := h.lt a ea; omega
theorem Own.wrNew {w w' : World} {ao bo : Option Addr} {n m c d lo lo' : Nat} {l r : List Int} (h : Own w lo ao n c l) (ho : Own w lo' bo m d r) (hw : Wr bo w w') (hlt : ∀ a, ao = some a → a.block < lo') : Own w' lo ao n c l :=
  h.wr ho hw fun a b ea eb => by have h1 := hlt a ea; have h2 := ho.lt b eb; omega
theorem Own.below' {w : World} {lo : Nat} {ao : Option Addr} {n c : Nat} {l : List Int} (h : Own w lo ao n c l) : ∀ b, ao = some b → b.block < w.heap.size := fun b hb => (h.lt b hb).2

/-- Block b holds the cells cs (a boxed struct), none of them frozen. -/
def Box (w : World) (b : Nat) (cs : Array Value) (t : TypeId) : Prop := w.heap[b]? = some (.cells cs t (0, 0))
theorem Box.cell {w : World} {b : Nat} {cs : Array Value} {t : TypeId} (h : Box w b cs t) {i : Nat} {v : Value} (hv : cs[i]? = some v) : w.cell? ⟨b, i, none⟩ = some v := by unfold Box at h; simp [World.cell?, h, hv]
theorem Box.free {w : World} {b : Nat} {cs : Array Value} {t : TypeId} (h : Box w b cs t) (i : Nat) : w.frozen? ⟨b, i, none⟩ = false := by unfold Box at h; simp [World.frozen?, h]
theorem Box.lt {w : World} {b : Nat} {cs : Array Value} {t : TypeId} (h : Box w b cs t) : b < w.heap.size := lt_of_block h
theorem Box.below {w w' : World} {b : Nat} {cs : Array Value} {t : TypeId} (h : Box w b cs t) {B : Nat} (hb : Below B w w') (hB : b < B) : Box w' b cs t := by unfold Box; rw [hb.block b hB]; exact h
theorem Box.new (w : World) (cs : Array Value) (t : TypeId) : Box (w.alloc (.cells cs t)) w.heap.size cs t := heap_alloc_new w _
theorem Box.other {w : World} {b : Nat} {cs : Array Value} {t : TypeId} (h : Box w b cs t) {a : Addr} (hne : b ≠ a.block) (u : Value) : Box (w.setCell a u) b cs t := by unfold Box at *; rw [Below.heap_setCell _ _ _ _ hne]; exact h
theorem Box.alloc {w : World} {b : Nat} {cs : Array Value} {t : TypeId} (h : Box w b cs t) (o : Obj) : Box (w.alloc o) b cs t := by unfold Box; rw [Below.heap_alloc _ _ _ h.lt]; exact h

end Go.Proofs.YtdedcablhahbnaaDoor
