/- Lists of stations: a slice of structs that is read (RdS), one that the call made itself (OwnS); the laws' helpers on them. No condition beyond lengths. -/
import Derived.Test.YtdedcablhahbnaaDoorSt
import Derived.Laws.OwnMore
namespace Go.Proofs.YtdedcablhahbnaaDoor
open Go.RowKit

/-- A station. -/
structure Stn where
  nm : ByteArray
  ph : ByteArray
  g : Int
  l : Int
deriving DecidableEq

instance : Inhabited Stn := ⟨⟨ByteArray.empty, ByteArray.empty, 0, 0⟩⟩

def Stn.vals (s : Stn) : List Value := [.string s.nm, .string s.ph, .int .i64 s.g, .int .i64 s.l]
def Stn.agg (s : Stn) : Value := .agg #[.string s.nm, .string s.ph, .int .i64 s.g, .int .i64 s.l]
def cellsS (l : List Stn) : List Value := l.flatMap Stn.vals

theorem cellsS_len (l : List Stn) : (cellsS l).length = l.length * 4 := by
  induction l with
  | nil => rfl
  | cons s l ih => simp only [cellsS, List.flatMap_cons, List.length_append, List.length_cons] at *; rw [ih]; simp [Stn.vals]; omega

theorem cellsS_get (l : List Stn) (i r : Nat) (hr : r < 4) : (cellsS l)[i * 4 + r]? = l[i]?.bind fun s => s.vals[r]? := by
  induction l generalizing i with
  | nil => simp [cellsS]
  | cons s l ih =>
    have e : cellsS (s :: l) = s.vals ++ cellsS l := rfl
    have hl : s.vals.length = 4 := rfl
    rw [e]
    cases i with
    | zero => rw [List.getElem?_append_left (by omega)]; simp
    | succ i => rw [List.getElem?_append_right (by omega), hl, show (i + 1) * 4 + r - 4 = i * 4 + r from by omega, ih]; simp

theorem cellsS_at {l : List Stn} {i : Nat} (hi : i < l.length) : (cellsS l)[i * 4]? = some (.string l[i].nm) ∧ (cellsS l)[i * 4 + 1]? = some (.string l[i].ph) ∧ (cellsS l)[i * 4 + 2]? = some (.int .i64 l[i].g) ∧ (cellsS l)[i * 4 + 3]? = some (.int .i64 l[i].l) := by
  refine ⟨?_, ?_, ?_, ?_⟩
  · have := cellsS_get l i 0 (by omega); simpa [hi, Stn.vals] using this
  · have := cellsS_get l i 1 (by omega); simpa [hi, Stn.vals] using this
  · have := cellsS_get l i 2 (by omega); simpa [hi, Stn.vals] using this
  · have := cellsS_get l i 3 (by omega); simpa [hi, Stn.vals] using this

theorem cellsS_set {l : List Stn} {k : Nat} (s : Stn) (hk : k < l.length) :
    ((((cellsS l).set (k * 4) (.string s.nm)).set (k * 4 + 1) (.string s.ph)).set (k * 4 + 2) (.int .i64 s.g)).set (k * 4 + 3) (.int .i64 s.l) = cellsS (l.set k s) := by
  apply List.ext_getElem?
  intro j
  obtain ⟨i, r, hr, rfl⟩ : ∃ i r, r < 4 ∧ j = i * 4 + r := ⟨j / 4, j % 4, Nat.mod_lt _ (by omega), by omega⟩
  rw [cellsS_get _ _ _ hr, List.getElem?_set, List.getElem?_set, List.getElem?_set, List.getElem?_set, cellsS_get _ _ _ hr]
  simp only [List.length_set, cellsS_len, List.getElem?_set]
  by_cases h : k = i
  · subst h
    rw [if_pos rfl, if_pos hk]
    rcases (by omega : r = 0 ∨ r = 1 ∨ r = 2 ∨ r = 3) with rfl | rfl | rfl | rfl
    · rw [if_neg (by omega), if_neg (by omega), if_neg (by omega), if_pos (by omega), if_pos (by omega)]; rfl
    · rw [if_neg (by omega), if_neg (by omega), if_pos (by omega), if_pos (by omega)]; rfl
    · rw [if_neg (by omega), if_pos (by omega), if_pos (by omega)]; rfl
    · rw [if_pos (by omega), if_pos (by omega)]; rfl
  · rw [if_neg h, if_neg (by omega), if_neg (by omega), if_neg (by omega), if_neg (by omega)]

theorem take_set_next {α : Type} {l r : List α} {k : Nat} (hk : k < l.length) (hr : r.length = l.length) : (l.take k ++ r.drop k).set k l[k] = l.take (k + 1) ++ r.drop (k + 1) := by
  rw [List.set_append_right _ _ (by rw [List.length_take]; omega)]
  rw [List.length_take, Nat.min_eq_left (by omega), Nat.sub_self, List.take_succ_eq_append_getElem hk, List.append_assoc, List.drop_eq_getElem_cons (by omega)]
  rfl

/-- The slice value '.slice ao n c' reads, in w, as the stations l. -/
def RdS (w : World) (ao : Option Addr) (n : Nat) (l : List Stn) : Prop :=
  n = l.length ∧ n ≤ 1099511627776 ∧ ∀ i (hi : i < l.length), ∃ b off, ao = some ⟨b, off, none⟩ ∧ w.cell? ⟨b, off + i * 4, none⟩ = some (.string l[i].nm) ∧ w.cell? ⟨b, off + i * 4 + 1, none⟩ = some (.string l[i].ph) ∧
    w.cell? ⟨b, off + i * 4 + 2, none⟩ = some (.int .i64 l[i].g) ∧ w.cell? ⟨b, off + i * 4 + 3, none⟩ = some (.int .i64 l[i].l)

theorem RdS.below {w w' : World} {ao : Option Addr} {n : Nat} {l : List Stn} (h : RdS w ao n l) (hb : Below w.heap.size w w') : RdS w' ao n l := by
  refine ⟨h.1, h.2.1, fun i hi => ?_⟩
  obtain ⟨b, off, h1, h2, h3, h4, h5⟩ := h.2.2 i hi
  exact ⟨b, off, h1, by rw [hb.cell (lt_of_cell h2)]; exact h2, by rw [hb.cell (lt_of_cell h3)]; exact h3, by rw [hb.cell (lt_of_cell h4)]; exact h4, by rw [hb.cell (lt_of_cell h5)]; exact h5⟩
theorem RdS.qw {w w' : World} {ao : Option Addr} {n : Nat} {l : List Stn} (h : RdS w ao n l) (hq : Qw w w') : RdS w' ao n l := h.below (hq.below _)
theorem RdS.nil (w : World) : RdS w none 0 [] := ⟨rfl, by omega, fun i hi => absurd hi (by simp)⟩
theorem RdS.at {w : World} {ao : Option Addr} {n : Nat} {l : List Stn} (h : RdS w ao n l) {i : Nat} (hi : i < n) :
    ∃ b off, ao = some ⟨b, off, none⟩ ∧ ∃ hl : i < l.length, w.cell? ⟨b, off + i * 4, none⟩ = some (.string (l[i]'hl).nm) ∧ w.cell? ⟨b, off + i * 4 + 1, none⟩ = some (.string (l[i]'hl).ph) ∧
      w.cell? ⟨b, off + i * 4 + 2, none⟩ = some (.int .i64 (l[i]'hl).g) ∧ w.cell? ⟨b, off + i * 4 + 3, none⟩ = some (.int .i64 (l[i]'hl).l) := by
  have hl : i < l.length := by rw [← h.1]; exact hi
  obtain ⟨b, off, h1, h2⟩ := h.2.2 i hl
  exact ⟨b, off, h1, hl, h2⟩
theorem RdS.lt {w : World} {ao : Option Addr} {n : Nat} {l : List Stn} (h : RdS w ao n l) : ∀ b, ao = some b → 0 < n → b.block < w.heap.size := by
  intro b hb hn
  obtain ⟨k, off, h1, _, h2, _⟩ := h.at hn
  rw [hb] at h1
  cases h1
  exact lt_of_cell h2

/-- The slice value '.slice ao n c' was made by the call itself, in a block from lo on; it holds the stations l. -/
def OwnS (w : World) (lo : Nat) (ao : Option Addr) (n c : Nat) (l : List Stn) : Prop :=
  n = l.length ∧ n ≤ 1099511627776 ∧ w.ownsRow lo 37 4 (.slice ao n c) n (cellsS l)

theorem OwnS.rd {w : World} {lo : Nat} {ao : Option Addr} {n c : Nat} {l : List Stn} (h : OwnS w lo ao n c l) : RdS w ao n l := by
  obtain ⟨hn, hs, hown⟩ := h
  refine ⟨hn, hs, fun i hi => ?_⟩
  rcases hown.2 with ⟨h1, h2⟩ | ⟨g, cap, cur, hv, hr⟩
  · omega
  · cases hv
    obtain ⟨c0, c1, c2, c3⟩ := cellsS_at hi
    refine ⟨g, 0, rfl, ?_, ?_, ?_, ?_⟩
    · rw [Nat.zero_add, hown.cellAt _ (by omega)]; exact c0
    · rw [Nat.zero_add, hown.cellAt _ (by omega)]; exact c1
    · rw [Nat.zero_add, hown.cellAt _ (by omega)]; exact c2
    · rw [Nat.zero_add, hown.cellAt _ (by omega)]; exact c3
theorem OwnS.below {w w' : World} {lo : Nat} {ao : Option Addr} {n c : Nat} {l : List Stn} (h : OwnS w lo ao n c l) (hb : Below w.heap.size w w') : OwnS w' lo ao n c l :=
  ⟨h.1, h.2.1, ownsRow_below h.2.2 hb fun k hk => (h.2.2.lt k hk).2⟩
theorem OwnS.qw {w w' : World} {lo : Nat} {ao : Option Addr} {n c : Nat} {l : List Stn} (h : OwnS w lo ao n c l) (hq : Qw w w') : OwnS w' lo ao n c l := h.below (hq.below _)
theorem OwnS.lt {w : World} {lo : Nat} {ao : Option Addr} {n c : Nat} {l : List Stn} (h : OwnS w lo ao n c l) : ∀ b, ao = some b → lo ≤ b.block ∧ b.block < w.heap.size := by
  intro b hb
  exact h.2.2.lt b.block (by rw [ownBlock_slice, hb]; rfl)
theorem OwnS.below' {w : World} {lo : Nat} {ao : Option Addr} {n c : Nat} {l : List Stn} (h : OwnS w lo ao n c l) : ∀ b, ao = some b → b.block < w.heap.size := fun b hb => (h.lt b hb).2

theorem info_stn : (Tryd.prog.info? 37).map (fun i => (i.zero, i.size, i.bytes)) = some (some (.agg #[.string ByteArray.empty, .string ByteArray.empty, .int .i64 0, .int .i64 0]), 4, 48) := by kernel_rfl

def RetS (w : World) (l : List Stn) (e : Ending) (w' : World) : Prop :=
  ∃ ao n c, e = .returned (.slice ao n c) ∧ OwnS w' w.heap.size ao n c l ∧ Below w.heap.size w w'

def zstn : Stn := ⟨ByteArray.empty, ByteArray.empty, 0, 0⟩
theorem made_stn (n : Nat) : (madeCells (Value.agg #[.string ByteArray.empty, .string ByteArray.empty, .int .i64 0, .int .i64 0]).cells (n * 4)).toList = cellsS (List.replicate n zstn) := by
  apply List.ext_getElem?
  intro j
  obtain ⟨i, r, hr, rfl⟩ : ∃ i r, r < 4 ∧ j = i * 4 + r := ⟨j / 4, j % 4, Nat.mod_lt _ (by omega), by omega⟩
  rw [cellsS_get _ _ _ hr]
  have e4 : (Value.agg #[.string ByteArray.empty, .string ByteArray.empty, .int .i64 0, .int .i64 0]).cells = #[.string ByteArray.empty, .string ByteArray.empty, .int .i64 0, .int .i64 0] := rfl
  rw [e4]
  by_cases h : i < n
  · have h2 : i * 4 + r < n * 4 := by omega
    have h3 : (i * 4 + r) % 4 = r := by omega
    simp only [madeCells, Array.toList_map, List.getElem?_map, Array.toList_range, List.getElem?_range h2, Option.map_some, List.getElem?_replicate, if_pos h, Option.bind_some]
    rcases (by omega : r = 0 ∨ r = 1 ∨ r = 2 ∨ r = 3) with rfl | rfl | rfl | rfl <;> simp [h3, zstn, Stn.vals]
  · have h2 : ¬ i * 4 + r < n * 4 := by omega
    simp [madeCells, h, h2]

theorem ownS_cells {w : World} {lo g n c : Nat} {M : List Stn} (h : w.ownsRow lo 37 4 (.slice (some ⟨g, 0, none⟩) n c) n (cellsS M)) {k : Nat} (hk : k < n) :
    (∃ a b x y, w.cell? ⟨g, k * 4, none⟩ = some (.string a) ∧ w.cell? ⟨g, k * 4 + 1, none⟩ = some (.string b) ∧ w.cell? ⟨g, k * 4 + 2, none⟩ = some (.int .i64 x) ∧ w.cell? ⟨g, k * 4 + 3, none⟩ = some (.int .i64 y)) ∧
    w.frozen? ⟨g, k * 4, none⟩ = false ∧ w.frozen? ⟨g, k * 4 + 1, none⟩ = false ∧ w.frozen? ⟨g, k * 4 + 2, none⟩ = false ∧ w.frozen? ⟨g, k * 4 + 3, none⟩ = false := by
  have hl : k < M.length := by have := h.1; rw [cellsS_len] at this; omega
  obtain ⟨d0, d1, d2, d3⟩ := cellsS_at hl
  refine ⟨⟨M[k].nm, M[k].ph, M[k].g, M[k].l, ?_, ?_, ?_, ?_⟩, h.frozenAt _, h.frozenAt _, h.frozenAt _, h.frozenAt _⟩
  · rw [h.cellAt _ (by omega)]; exact d0
  · rw [h.cellAt _ (by omega)]; exact d1
  · rw [h.cellAt _ (by omega)]; exact d2
  · rw [h.cellAt _ (by omega)]; exact d3

theorem ownS_put {w : World} {lo g n c : Nat} {M : List Stn} (h : w.ownsRow lo 37 4 (.slice (some ⟨g, 0, none⟩) n c) n (cellsS M)) {k : Nat} (hk : k < n) (s : Stn) :
    ((((w.setCell ⟨g, k * 4, none⟩ (.string s.nm)).setCell ⟨g, k * 4 + 1, none⟩ (.string s.ph)).setCell ⟨g, k * 4 + 2, none⟩ (.int .i64 s.g)).setCell ⟨g, k * 4 + 3, none⟩ (.int .i64 s.l)).ownsRow lo 37 4 (.slice (some ⟨g, 0, none⟩) n c) n (cellsS (M.set k s)) := by
  have hl : k < M.length := by have := h.1; rw [cellsS_len] at this; omega
  rw [← cellsS_set s hl]
  exact ((((h.stored (k * 4) (.string s.nm)).1.stored (k * 4 + 1) (.string s.ph)).1.stored (k * 4 + 2) (.int .i64 s.g)).1.stored (k * 4 + 3) (.int .i64 s.l)).1


/-- What szStationS leaves: the lists of lengths that fit. -/
def szL (l : List Stn) : Int := (l.map fun s => (s.nm.size : Int) + (s.ph.size : Int)).sum
theorem szL_nn (l : List Stn) : 0 ≤ szL l := by
  unfold szL
  induction l with
  | nil => simp
  | cons s l ih => simp only [List.map_cons, List.sum_cons]; omega
theorem szL_take (l : List Stn) {k : Nat} (hk : k < l.length) : szL (l.take (k + 1)) = szL (l.take k) + ((l[k].nm.size : Int) + (l[k].ph.size : Int)) := by
  unfold szL
  rw [List.take_succ_eq_append_getElem hk, List.map_append, List.sum_append]
  simp
theorem szL_le (l : List Stn) (k : Nat) : szL (l.take k) ≤ szL l := by
  have h := szL_nn (l.drop k)
  have e : szL l = szL (l.take k) + szL (l.drop k) := by
    unfold szL; rw [← List.sum_append, ← List.map_append, List.take_append_drop]
  omega
theorem szL_mem (l : List Stn) {s : Stn} (h : s ∈ l) : (s.nm.size : Int) + (s.ph.size : Int) ≤ szL l := by
  obtain ⟨k, hk, rfl⟩ := List.getElem_of_mem h
  have h1 := szL_take l hk
  have h2 := szL_le l (k + 1)
  have h3 := szL_nn (l.take k)
  omega
/-- What szStationS hands back: below 0 where the list is too long, else what is left of 'left'. -/
def szR (l : List Stn) (left : Int) : Int := if left < (l.length : Int) + szL l then -1 else left - l.length - szL l
theorem szR_no {l : List Stn} {left : Int} (h : left < (l.length : Int) + szL l) : szR l left = -1 := by simp [szR, h]
theorem szR_yes {l : List Stn} {left : Int} (h : (l.length : Int) + szL l ≤ left) : szR l left = left - l.length - szL l := by unfold szR; rw [if_neg (by omega)]

/-- The slice of the laws' own stations reads the same way: its struct type alone differs. -/
def SmallS (l : List Stn) : Prop := ∀ i (h : i < l.length), (l[i]'h).nm.size ≤ maxLen ∧ (l[i]'h).ph.size ≤ maxLen

end Go.Proofs.YtdedcablhahbnaaDoor
