/- Lists of stations: a slice of structs that is read (RdS), one that the call made itself (OwnS); the laws' helpers on them. No condition beyond lengths. -/
import Derived.Test.YtighlblbjbkjiaaDoorSt
import Derived.Laws.OwnMore
namespace Go.Proofs.YtighlblbjbkjiaaDoor
open Go.RowKit

/-- A station. -/
structure Stn where
  nm : ByteArray
  ph : ByteArray
  g : Int
  l : Int
deriving DecidableEq

instance : Inhabited Stn := ⟨⟨ByteArray.empty, ByteArray.empty, 0, 0⟩⟩

def Stn.vals (s : Stn) : List Value := [.string s.nm, .string s.ph, .int .i64 s.g, .int .i64 s.l]
def Stn.agg (s : Stn) : Value := .agg #[.string s.nm, .string s.ph, .int .i64 s.g, .int .i64 s.l]
def cellsS (l : List Stn) : List Value := l.flatMap Stn.vals

theorem cellsS_len (l : List Stn) : (cellsS l).length = l.length * 4 := by
  induction l with
  | nil => rfl
  | cons s l ih => simp only [cellsS, List.flatMap_cons, List.length_append, List.length_cons] at *; rw [ih]; simp [Stn.vals]; omega

theorem cellsS_get (l : List Stn) (i r : Nat) (hr : r < 4) : (cellsS l)[i * 4 + r]? = l[i]?.bind fun s => s.vals[r]? := by
  induction l generalizing i with
  | nil => simp [cellsS]
  | cons s l ih =>
    have e : cellsS (s :: l) = s.vals ++ cellsS l := rfl
    have hl : s.vals.length = 4 := rfl
    rw [e]
    cases i with
    | zero => rw [List.getElem?_append_left (by omega)]; simp
    | succ i => rw [List.getElem?_append_right (by omega), hl, show (i + 1) * 4 + r - 4 = i * 4 + r from by omega, ih]; simp

theorem cellsS_at {l : List Stn} {i : Nat} (hi : i < l.length) : (cellsS l)[i * 4]? = some (.string l[i].nm) ∧ (cellsS l)[i * 4 + 1]? = some (.string l[i].ph) ∧ (cellsS l)[i * 4 + 2]? = some (.int .i64 l[i].g) ∧ (cellsS l)[i * 4 + 3]? = some (.int .i64 l[i].l) := by
  refine ⟨?_, ?_, ?_, ?_⟩
  · have := cellsS_get l i 0 (by omega); simpa [hi, Stn.vals] using this
  · have := cellsS_get l i 1 (by omega); simpa [hi, Stn.vals] using this
  · have := cellsS_get l i 2 (by omega); simpa [hi, Stn.vals] using this
  · have := cellsS_get l i 3 (by omega); simpa [hi, Stn.vals] using this

theorem cellsS_set {l : List Stn} {k : Nat} (s : Stn) (hk : k < l.length) :
    ((((cellsS l).set (k * 4) (.string s.nm)).set (k * 4 + 1) (.string s.ph)).set (k * 4 + 2) (.int .i64 s.g)).set (k * 4 + 3) (.int .i64 s.l) = cellsS (l.set k s) := by
  apply List.ext_getElem?
  intro j
  obtain ⟨i, r, hr, rfl⟩ : ∃ i r, r < 4 ∧ j = i * 4 + r := ⟨j / 4, j % 4, Nat.mod_lt _ (by omega), by omega⟩
  rw [cellsS_get _ _ _ hr, List.getElem?_set, List.getElem?_set, List.getElem?_set, List.getElem?_set, cellsS_get _ _ _ hr]
  simp only [List.length_set, cellsS_len, List.getElem?_set]
  by_cases h : k = i
  · subst h
    rw [if_pos rfl, if_pos hk]
    rcases (by omega : r = 0 ∨ r = 1 ∨ r = 2 ∨ r = 3) with rfl | rfl | rfl | rfl
    · rw [if_neg (by omega), if_neg (by omega), if_neg (by omega), if_pos (by omega), if_pos (by omega)]; rfl
    · rw [if_neg (by omega), if_neg (by omega), if_pos (by omega), if_pos (by omega)]; rfl
    · rw [if_neg (by omega), if_pos (by omega), if_pos (by omega)]; rfl
    · rw [if_pos (by omega), if_pos (by omega)]; rfl
  · rw [if_neg h, if_neg (by omega), if_neg (by omega), if_neg (by omega), if_neg (by omega)]

theorem take_set_next {α : Type} {l r : List α} {k : Nat} (hk : k < l.length) (hr : r.length = l.length) : (l.take k ++ r.drop k).set k l[k] = l.take (k + 1) ++ r.drop (k + 1) := by
  rw [List.set_append_right _ _ (by rw [List.length_take]; omega)]
  rw [List.length_take, Nat.min_eq_left (by omega), Nat.sub_self, List.take_succ_eq_append_getElem hk, List.append_assoc, List.drop_eq_getElem_cons (by omega)]
  rfl

/-- The slice value '.slice ao n c' reads, in w, as the stations l. -/
def RdS (w : World) (ao : Option Addr) (n : Nat) (l : List Stn) : Prop :=
  n = l.length ∧ n ≤ 1099511627776 ∧ ∀ i (hi : i < l.length), ∃ b off, ao = some ⟨b, off, none⟩ ∧ w.cell? ⟨b, off + i * 4, none⟩ = some (.string l[i].nm) ∧ w.cell? ⟨b, off + i * 4 + 1, none⟩ = some (.string l[i].ph) ∧
    w.cell? ⟨b, off + i * 4 + 2, none⟩ = some (.int .i64 l[i].g) ∧ w.cell? ⟨b, off + i * 4 + 3, none⟩ = some (.int .i64 l[i].l)

theorem RdS.below {w w' : World} {ao : Option Addr} {n : Nat} {l : List Stn} (h : RdS w ao n l) (hb : Below w.heap.size w w') : RdS w' ao n l := by
  refine ⟨h.1, h.2.1, fun i hi => ?_⟩
  obtain ⟨b, off, h1, h2, h3, h4, h5⟩ := h.2.2 i hi
  exact ⟨b, off, h1, by rw [hb.cell (lt_of_cell h2)]; exact h2, by rw [hb.cell (lt_of_cell h3)]; exact h3, by rw [hb.cell (lt_of_cell h4)]; exact h4, by rw [hb.cell (lt_of_cell h5)]; exact h5⟩
theorem RdS.qw {w w' : World} {ao : Option Addr} {n : Nat} {l : List Stn} (h : RdS w ao n l) (hq : Qw w w') : RdS w' ao n l := h.below (hq.below _)
theorem RdS.nil (w : World) : RdS w none 0 [] := ⟨rfl, by omega, fun i hi => absurd hi (by simp)⟩
theorem RdS.at {w : World} {ao : Option Addr} {n : Nat} {l : List Stn} (h : RdS w ao n l) {i : Nat} (hi : i < n) :
    ∃ b off, ao = some ⟨b, off, none⟩ ∧ ∃ hl : i < l.length, w.cell? ⟨b, off + i * 4, none⟩ = some (.string (l[i]'hl).nm) ∧ w.cell? ⟨b, off + i * 4 + 1, none⟩ = some (.string (l[i]'hl).ph) ∧
      w.cell? ⟨b, off + i * 4 + 2, none⟩ = some (.int .i64 (l[i]'hl).g) ∧ w.cell? ⟨b, off + i * 4 + 3, none⟩ = some (.int .i64 (l[i]'hl).l) := by
  have hl : i < l.length := by rw [← h.1]; exact hi
  obtain ⟨b, off, h1, h2⟩ := h.2.2 i hl
  exact ⟨b, off, h1, hl, h2⟩
theorem RdS.lt {w : World} {ao : Option Addr} {n : Nat} {l : List Stn} (h : RdS w ao n l) : ∀ b, ao = some b → 0 < n → b.block < w.heap.size := by
  intro b hb hn
  obtain ⟨k, off, h1, _, h2, _⟩ := h.at hn
  rw [hb] at h1
  cases h1
  exact lt_of_cell h2

/-- The slice value '.slice ao n c' was made by the call itself, in a block from lo on; it holds the stations l. -/
def OwnS (w : World) (lo : Nat) (ao : Option Addr) (n c : Nat) (l : List Stn) : Prop :=
  n = l.length ∧ n ≤ 1099511627776 ∧ w.ownsRow lo 41 4 (.slice ao n c) n (cellsS l)

theorem OwnS.rd {w : World} {lo : Nat} {ao : Option Addr} {n c : Nat} {l : List Stn} (h : OwnS w lo ao n c l) : RdS w ao n l := by
  obtain ⟨hn, hs, hown⟩ := h
  refine ⟨hn, hs, fun i hi => ?_⟩
  rcases hown.2 with ⟨h1, h2⟩ | ⟨g, cap, cur, hv, hr⟩
  · omega
  · cases hv
    obtain ⟨c0, c1, c2, c3⟩ := cellsS_at hi
    refine ⟨g, 0, rfl, ?_, ?_, ?_, ?_⟩
    · rw [Nat.zero_add, hown.cellAt _ (by omega)]; exact c0
    · rw [Nat.zero_add, hown.cellAt _ (by omega)]; exact c1
    · rw [Nat.zero_add, hown.cellAt _ (by omega)]; exact c2
    · rw [Nat.zero_add, hown.cellAt _ (by omega)]; exact c3
theorem OwnS.below {w w' : World} {lo : Nat} {ao : Option Addr} {n c : Nat} {l : List Stn} (h : OwnS w lo ao n c l) (hb : Below w.heap.size w w') : OwnS w' lo ao n c l :=
  ⟨h.1, h.2.1, ownsRow_below h.2.2 hb fun k hk => (h.2.2.lt k hk).2⟩
theorem OwnS.qw {w w' : World} {lo : Nat} {ao : Option Addr} {n c : Nat} {l : List Stn} (h : OwnS w lo ao n c l) (hq : Qw w w') : OwnS w' lo ao n c l := h.below (hq.below _)
theorem OwnS.lt {w : World} {lo : Nat} {ao : Option Addr} {n c : Nat} {l : List Stn} (h : OwnS w lo ao n c l) : ∀ b, ao = some b → lo ≤ b.block ∧ b.block < w.heap.size := by
  intro b hb
  exact h.2.2.lt b.block (by rw [ownBlock_slice, hb]; rfl)
theorem OwnS.below' {w : World} {lo : Nat} {ao : Option Addr} {n c : Nat} {l : List Stn} (h : OwnS w lo ao n c l) : ∀ b, ao = some b → b.block < w.heap.size := fun b hb => (h.lt b hb).2

theorem info_stn : (Tryd.prog.info? 41).map (fun i => (i.zero, i.size, i.bytes)) = some (some (.agg #[.string ByteArray.empty, .string ByteArray.empty, .int .i64 0, .int .i64 0]), 4, 48) := by kernel_rfl

def RetS (w : World) (l : List Stn) (e : Ending) (w' : World) : Prop :=
  ∃ ao n c, e = .returned (.slice ao n c) ∧ OwnS w' w.heap.size ao n c l ∧ Below w.heap.size w w'

def zstn : Stn := ⟨ByteArray.empty, ByteArray.empty, 0, 0⟩
theorem made_stn (n : Nat) : (madeCells (Value.agg #[.string ByteArray.empty, .string ByteArray.empty, .int .i64 0, .int .i64 0]).cells (n * 4)).toList = cellsS (List.replicate n zstn) := by
  apply List.ext_getElem?
  intro j
  obtain ⟨i, r, hr, rfl⟩ : ∃ i r, r < 4 ∧ j = i * 4 + r := ⟨j / 4, j % 4, Nat.mod_lt _ (by omega), by omega⟩
  rw [cellsS_get _ _ _ hr]
  have e4 : (Value.agg #[.string ByteArray.empty, .string ByteArray.empty, .int .i64 0, .int .i64 0]).cells = #[.string ByteArray.empty, .string ByteArray.empty, .int .i64 0, .int .i64 0] := rfl
  rw [e4]
  by_cases h : i < n
  · have h2 : i * 4 + r < n * 4 := by omega
    have h3 : (i * 4 + r) % 4 = r := by omega
    simp only [madeCells, Array.toList_map, List.getElem?_map, Array.toList_range, List.getElem?_range h2, Option.map_some, List.getElem?_replicate, if_pos h, Option.bind_some]
    rcases (by omega : r = 0 ∨ r = 1 ∨ r = 2 ∨ r = 3) with rfl | rfl | rfl | rfl <;> simp [h3, zstn, Stn.vals]
  · have h2 : ¬ i * 4 + r < n * 4 := by omega
    simp [madeCells, h, h2]

theorem ownS_cells {w : World} {lo g n c : Nat} {M : List Stn} (h : w.ownsRow lo 41 4 (.slice (some ⟨g, 0, none⟩) n c) n (cellsS M)) {k : Nat} (hk : k < n) :
    (∃ a b x y, w.cell? ⟨g, k * 4, none⟩ = some (.string a) ∧ w.cell? ⟨g, k * 4 + 1, none⟩ = some (.string b) ∧ w.cell? ⟨g, k * 4 + 2, none⟩ = some (.int .i64 x) ∧ w.cell? ⟨g, k * 4 + 3, none⟩ = some (.int .i64 y)) ∧
    w.frozen? ⟨g, k * 4, none⟩ = false ∧ w.frozen? ⟨g, k * 4 + 1, none⟩ = false ∧ w.frozen? ⟨g, k * 4 + 2, none⟩ = false ∧ w.frozen? ⟨g, k * 4 + 3, none⟩ = false := by
  have hl : k < M.length := by have := h.1; rw [cellsS_len] at this; omega
  obtain ⟨d0, d1, d2, d3⟩ := cellsS_at hl
  refine ⟨⟨M[k].nm, M[k].ph, M[k].g, M[k].l, ?_, ?_, ?_, ?_⟩, h.frozenAt _, h.frozenAt _, h.frozenAt _, h.frozenAt _⟩
  · rw [h.cellAt _ (by omega)]; exact d0
  · rw [h.cellAt _ (by omega)]; exact d1
  · rw [h.cellAt _ (by omega)]; exact d2
  · rw [h.cellAt _ (by omega)]; exact d3

theorem ownS_put {w : World} {lo g n c : Nat} {M : List Stn} (h : w.ownsRow lo 41 4 (.slice (some ⟨g, 0, none⟩) n c) n (cellsS M)) {k : Nat} (hk : k < n) (s : Stn) :
    ((((w.setCell ⟨g, k * 4, none⟩ (.string s.nm)).setCell ⟨g, k * 4 + 1, none⟩ (.string s.ph)).setCell ⟨g, k * 4 + 2, none⟩ (.int .i64 s.g)).setCell ⟨g, k * 4 + 3, none⟩ (.int .i64 s.l)).ownsRow lo 41 4 (.slice (some ⟨g, 0, none⟩) n c) n (cellsS (M.set k s)) := by
  have hl : k < M.length := by have := h.1; rw [cellsS_len] at this; omega
  rw [← cellsS_set s hl]
  exact ((((h.stored (k * 4) (.string s.nm)).1.stored (k * 4 + 1) (.string s.ph)).1.stored (k * 4 + 2) (.int .i64 s.g)).1.stored (k * 4 + 3) (.int .i64 s.l)).1

set_option maxHeartbeats 800000 in
theorem toStationS_c {ao : Option Addr} {n c : Nat} {l : List Stn} {w : World} (h : RdS w ao n l) :
    Calls Tryd.prog 8 #[.slice ao n c] w (RetS w l) := by
  obtain ⟨i0, hi, hz0, hz1, hz2⟩ := info_parts info_stn
  have hs := h.2.1
  obtain ⟨m, rfl⟩ : ∃ m, m = n := ⟨_, rfl⟩
  go_enter Tryd.func8, Tryd.ntmps8
  go_wp2_with (at_make; refine wpList_make_full _ rfl (.tmp 6) (.tmp 6) 25 rfl w.heap.size 41 i0 _ 4 Tryd.underlying25 hi hz0 hz1 .i64 .i64 _ _ m rfl rfl rfl rfl ?c1 ?c2 (Nat.le_refl _) ?_)
  case c1 => rw [hz2]; omega
  case c2 => unfold maxLen; omega
  intro w1 hown hgrow
  replace hown := (made_stn m) ▸ hown
  have hown1 : w1.ownsRow w.heap.size 41 4 (.slice (some ⟨w.heap.size, 0, none⟩) m m) m (cellsS (l.take 0 ++ (List.replicate m zstn).drop 0)) := by simpa using hown
  have hb1 : Below w.heap.size w w1 := (Below.refl _ _).grown hgrow (Nat.le_refl _) (by intro k hk; cases hk)
  have hz := hb1.size
  clear hown hgrow
  go_wp2
  go_loopw [4] (fun i wr => ∃ k : Nat, k ≤ m ∧ i = .int .i64 k ∧ wr.ownsRow w.heap.size 41 4 (.slice (some ⟨w.heap.size, 0, none⟩) m m) m (cellsS (l.take k ++ (List.replicate m zstn).drop k)) ∧ Below w.heap.size w wr) (fun i _ => m - (intOf i).toNat)
  case atStart => exact ⟨0, Nat.zero_le _, rfl, hown1, hb1⟩
  case round =>
    clear hown1 hb1 hz
    obtain ⟨k, hk, rfl, hown, hb⟩ := hrel
    by_cases hlt : k < m
    · obtain ⟨bk, off, rfl, hl, hc0, hc1, hc2, hc3⟩ := (h.below hb).at hlt
      go_wp2_with fail
      refine (toStation_c _ _ _ _ _).mono ?_; rintro e w2 ⟨rfl, hb2⟩
      have hb3 := hb.trans (hb2.mono hb.size)
      have hown2 := ownsRow_below hown hb2 fun j hj => (hown.lt j hj).2
      obtain ⟨⟨x0, x1, x2, x3, f0, f1, f2, f3⟩, g0, g1, g2, g3⟩ := ownS_cells hown2 hlt
      have hp := ownS_put hown2 hlt l[k]
      rw [take_set_next hl (by rw [List.length_replicate]; exact h.1)] at hp
      have hb4 := (((hb3.setCell (p := ⟨w.heap.size, k * 4, none⟩) (Nat.le_refl _) (.string l[k].nm)).setCell (p := ⟨w.heap.size, k * 4 + 1, none⟩) (Nat.le_refl _) (.string l[k].ph)).setCell (p := ⟨w.heap.size, k * 4 + 2, none⟩) (Nat.le_refl _) (.int .i64 l[k].g)).setCell (p := ⟨w.heap.size, k * 4 + 3, none⟩) (Nat.le_refl _) (.int .i64 l[k].l)
      clear hc0 hc1 hc2 hc3 hb hb2 hb3 hown hown2
      go_wp2_with fail
      go_roundw
      case rel => exact ⟨k + 1, by omega, by go_num, hp, hb4⟩
      case measure => simp [intOf]; omega
    · go_wp2
      go_ret
      obtain rfl : k = m := by omega
      refine ⟨_, _, _, rfl, ⟨h.1, h.2.1, ?_⟩, hb⟩
      rw [List.take_of_length_le (by rw [h.1]; exact Nat.le_refl _), List.drop_of_length_le (by simp), List.append_nil] at hown
      exact hown

/-- What szStationS leaves: the lists of lengths that fit. -/
def szL (l : List Stn) : Int := (l.map fun s => (s.nm.size : Int) + (s.ph.size : Int)).sum
theorem szL_nn (l : List Stn) : 0 ≤ szL l := by
  unfold szL
  induction l with
  | nil => simp
  | cons s l ih => simp only [List.map_cons, List.sum_cons]; omega
theorem szL_take (l : List Stn) {k : Nat} (hk : k < l.length) : szL (l.take (k + 1)) = szL (l.take k) + ((l[k].nm.size : Int) + (l[k].ph.size : Int)) := by
  unfold szL
  rw [List.take_succ_eq_append_getElem hk, List.map_append, List.sum_append]
  simp
theorem szL_le (l : List Stn) (k : Nat) : szL (l.take k) ≤ szL l := by
  have h := szL_nn (l.drop k)
  have e : szL l = szL (l.take k) + szL (l.drop k) := by
    unfold szL; rw [← List.sum_append, ← List.map_append, List.take_append_drop]
  omega
theorem szL_mem (l : List Stn) {s : Stn} (h : s ∈ l) : (s.nm.size : Int) + (s.ph.size : Int) ≤ szL l := by
  obtain ⟨k, hk, rfl⟩ := List.getElem_of_mem h
  have h1 := szL_take l hk
  have h2 := szL_le l (k + 1)
  have h3 := szL_nn (l.take k)
  omega
/-- What szStationS hands back: below 0 where the list is too long, else what is left of 'left'. -/
def szR (l : List Stn) (left : Int) : Int := if left < (l.length : Int) + szL l then -1 else left - l.length - szL l
theorem szR_no {l : List Stn} {left : Int} (h : left < (l.length : Int) + szL l) : szR l left = -1 := by simp [szR, h]
theorem szR_yes {l : List Stn} {left : Int} (h : (l.length : Int) + szL l ≤ left) : szR l left = left - l.length - szL l := by unfold szR; rw [if_neg (by omega)]

/-- The slice of the laws' own stations reads the same way: its struct type alone differs. -/
def SmallS (l : List Stn) : Prop := ∀ i (h : i < l.length), (l[i]'h).nm.size ≤ maxLen ∧ (l[i]'h).ph.size ≤ maxLen

set_option maxHeartbeats 1600000 in
theorem szStationS_c {ao : Option Addr} {n c : Nat} {l : List Stn} {w : World} (h : RdS w ao n l) (hm : SmallS l) (left : Int) (h0 : 0 ≤ left) (h1 : left ≤ 1048576) :
    Calls Tryd.prog 6 #[.slice ao n c, .int .i64 left] w fun e w' => e = .returned (.int .i64 (szR l left)) ∧ Below w.heap.size w w' := by
  have hs := h.2.1
  have hn := h.1
  have HM := Lib.hid hm; clear hm
  by_cases h2 : left - (n : Int) < 0
  · have hr := Lib.hid (szR_no (l := l) (left := left) (by have := szL_nn l; omega))
    clear hn
    go_enter Tryd.func6, Tryd.ntmps6
    go_wp2
    go_ret
    exact ⟨ret_i hr.out.symm, Below.refl _ _⟩
  · have HN := Lib.hid hn; clear hn
    go_enter Tryd.func6, Tryd.ntmps6
    go_wp2
    go_loopw [1, 5] (fun lf i wr => ∃ k : Nat, k ≤ n ∧ i = .int .i64 k ∧ (∃ y : Int, lf = .int .i64 y ∧ y = left - n - szL (l.take k) ∧ 0 ≤ y) ∧ Below w.heap.size w wr) (fun _ i _ => n - (intOf i).toNat)
    case atStart => exact ⟨0, Nat.zero_le _, rfl, ⟨_, rfl, by simp [szL], by omega⟩, Below.refl _ _⟩
    case round =>
      obtain ⟨k, hk, rfl, ⟨y, rfl, hy, hy0⟩, hb⟩ := hrel
      have HY := Lib.hid hy
      by_cases hlt : k < n
      · obtain ⟨bk, off, rfl, hl, hc0, hc1, hc2, hc3⟩ := (h.below hb).at hlt
        have hz1 := (HM.out k hl).1
        have hz2 := (HM.out k hl).2
        have hnn := szL_nn (l.take k)
        have hyl : y ≤ 1048576 := by omega
        clear hy hnn
        by_cases h3 : y < (l[k].nm.size : Int) + (l[k].ph.size : Int)
        · have hr := Lib.hid (szS_no h3)
          have hr2 := Lib.hid (szR_no (l := l) (left := left) (by have := szL_take l hl; have := szL_le l (k + 1); have := HN.out; have := HY.out; omega))
          clear h
          go_wp2_with fail
          refine (szStation_c _ _ _ _ _ _ hz1 hz2 hy0 hyl).mono ?_; rintro e w2 ⟨rfl, hb2⟩
          rw [hr.out]
          have hb3 := hb.trans (hb2.mono hb.size)
          clear hc0 hc1 hc2 hc3
          go_wp2_with fail
          go_ret
          exact ⟨ret_i hr2.out.symm, hb3⟩
        · have hr := Lib.hid (szS_yes (show (l[k].nm.size : Int) + (l[k].ph.size : Int) ≤ y by omega))
          have HS := Lib.hid (szL_take l hl)
          have h4 : ¬ y - (l[k].nm.size : Int) - (l[k].ph.size : Int) < 0 := by omega
          go_wp2_with fail
          refine (szStation_c _ _ _ _ _ _ hz1 hz2 hy0 hyl).mono ?_; rintro e w2 ⟨rfl, hb2⟩
          rw [hr.out]
          have hb3 := hb.trans (hb2.mono hb.size)
          clear hc0 hc1 hc2 hc3
          go_wp2_with fail
          go_roundw
          case rel => exact ⟨k + 1, by omega, by go_num, ⟨_, rfl, by rw [HS.out, HY.out]; omega, by omega⟩, hb3⟩
          case measure => simp [intOf]; omega
      · have hr2 := Lib.hid (show y = szR l left by
          have e1 : l.take k = l := List.take_of_length_le (by have := HN.out; omega)
          rw [e1] at hy
          rw [szR_yes (by have := HN.out; omega), hy, ← HN.out])
        clear hy
        go_wp2
        go_ret
        exact ⟨ret_i hr2.out, hb⟩

set_option maxHeartbeats 1600000 in
theorem eqStation_same (s : Stn) (w : World) : Calls Tryd.prog 27 #[.agg #[.string s.nm, .string s.ph, .int .i64 s.g, .int .i64 s.l], .agg #[.string s.nm, .string s.ph, .int .i64 s.g, .int .i64 s.l]] w fun e w' => e = .returned (.bool true) ∧ Below w.heap.size w w' := by
  go_enter Tryd.func27, Tryd.ntmps27
  go_wp2
  go_ret
  refine ⟨rfl, ?_⟩
  repeat (first | exact Below.refl _ _ | refine Below.drew ?_ | refine below_drewN ?_ _ | refine Below.alloc ?_ (by first | exact Nat.le_refl _ | (simp; done) | (simp; omega)) _ | refine Below.setCell ?_ (by simp) _)

set_option maxRecDepth 100000 in
set_option maxHeartbeats 1600000 in
theorem eqStationS_same {ao bo : Option Addr} {n m c d : Nat} {l : List Stn} {w : World} (h : RdS w ao n l) (h' : RdS w bo m l) :
    Calls Tryd.prog 10 #[.slice ao n c, .slice bo m d] w fun e w' => e = .returned (.bool true) ∧ Below w.heap.size w w' := by
  have hs := h.2.1
  obtain rfl : n = m := by rw [h.1, h'.1]
  go_enter Tryd.func10, Tryd.ntmps10
  go_wp2
  go_loopw [5] (fun i wr => ∃ k : Nat, k ≤ n ∧ i = .int .i64 k ∧ Below w.heap.size w wr) (fun i _ => n - (intOf i).toNat)
  case atStart => exact ⟨0, Nat.zero_le _, rfl, Below.refl _ _⟩
  case round =>
    obtain ⟨k, hk, rfl, hb⟩ := hrel
    by_cases hlt : k < n
    · obtain ⟨b1, o1, rfl, hl, hc0, hc1, hc2, hc3⟩ := (h.below hb).at hlt
      obtain ⟨b2, o2, rfl, hl', hd0, hd1, hd2, hd3⟩ := (h'.below hb).at hlt
      clear h h'
      go_wp2_with fail
      go_still_tail 8, (by kernel_rfl)
      go_wp2_with fail
      refine (eqStation_same l[k] _).mono ?_; rintro e w2 ⟨rfl, hb2⟩
      have hb3 : Below w.heap.size w w2 := (Below.drew hb).trans (hb2.mono hb.size)
      clear hc0 hc1 hc2 hc3 hd0 hd1 hd2 hd3 hb2
      go_wp2_with fail
      go_roundw
      case rel => exact ⟨k + 1, by omega, by go_num, hb3⟩
      case measure => simp [intOf]; omega
    · go_wp2
      go_ret
      exact ⟨rfl, hb⟩

end Go.Proofs.YtighlblbjbkjiaaDoor
