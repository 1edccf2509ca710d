/- What the laws' own helpers on slices of numbers do: a copy (toIntS), the comparison (eqIntS), marks (markIntS, heldIntS). No condition beyond a length of at most 2 to the 40. -/
import Derived.Test.YtdedcablhahbnaaDoorB
import Derived.Laws.AppendOwnNone
import Derived.Lib.AppendZeros
import Derived.Maps.AppendAt
namespace Go.Proofs.YtdedcablhahbnaaDoor
open Go.RowKit

theorem info_int : (Tryd.prog.info? 3).map (fun i => (i.zero, i.size, i.bytes)) = some (some (.int .i64 0), 1, 8) := by kernel_rfl

theorem take_set_snoc {l : List Int} {r : List Int} {k : Nat} (hk : k < l.length) (hr : r.length = l.length) :
    ((l.take k ++ r.drop k).map (Value.int .i64)).set k (.int .i64 l[k]) = (l.take (k + 1) ++ r.drop (k + 1)).map (Value.int .i64) := by
  apply List.ext_getElem?
  intro j
  rw [List.getElem?_set]
  simp only [List.length_map, List.length_append, List.length_take, List.length_drop, List.getElem?_map, List.getElem?_append, List.getElem?_take, List.getElem?_drop]
  have e1 : min k l.length = k := by omega
  have e2 : min (k + 1) l.length = k + 1 := by omega
  simp only [e1, e2]
  by_cases h : k = j
  · subst h
    rw [if_pos rfl, if_pos (by omega), if_pos (by omega), if_pos (by omega)]
    simp [hk]
  · rw [if_neg h]
    by_cases h2 : j < k
    · rw [if_pos h2, if_pos h2, if_pos (by omega), if_pos (by omega)]
    · rw [if_neg h2, if_neg (by omega), show k + (j - k) = j from by omega, show k + 1 + (j - (k + 1)) = j from by omega]

theorem get_mid {l : List Int} {r : List Int} {k : Nat} (hk : k ≤ l.length) : ((l.take k ++ r.drop k).map (Value.int .i64))[k]? = (r.map (Value.int .i64))[k]? := by
  rw [List.getElem?_map, List.getElem?_append, List.length_take, Nat.min_eq_left hk, if_neg (by omega), List.getElem?_drop, Nat.sub_self, Nat.add_zero, List.getElem?_map]

/-- The post of toIntS, and of each function that hands back new numbers. -/
def RetInts (w : World) (l : List Int) (e : Ending) (w' : World) : Prop :=
  ∃ ao n c, e = .returned (.slice ao n c) ∧ Own w' w.heap.size ao n c l ∧ Below w.heap.size w w'



/-- k, k + 1 and so on: what markIntS writes. -/
def marks (k : Int) (n : Nat) : List Int := (List.range n).map fun i => k + (i : Nat)

theorem marks_length (k : Int) (n : Nat) : (marks k n).length = n := by simp [marks]
theorem marks_get (k : Int) (n i : Nat) (h : i < n) : (marks k n)[i]'(by rw [marks_length]; exact h) = k + i := by simp [marks]




/-- The value v, which the call made itself, holds the numbers l (a loop that appends). -/
def OwnV (w : World) (lo : Nat) (v : Value) (l : List Int) : Prop := w.ownsRow lo 3 1 v l.length (l.map (Value.int .i64))

theorem OwnV.snoc {w : World} {lo : Nat} {v : Value} {l : List Int} {x : Int} (h : w.ownsRow lo 3 1 v (l.length + 1) (l.map (Value.int .i64) ++ [.int .i64 x])) : OwnV w lo v (l ++ [x]) := by
  unfold OwnV; simpa using h
theorem OwnV.nil (w : World) (lo : Nat) : OwnV w lo (.slice none 0 0) [] := World.ownsRow_nil _ _ _ _
theorem OwnV.own {w : World} {lo : Nat} {v : Value} {l : List Int} (h : OwnV w lo v l) (hs : l.length ≤ 1099511627776) : ∃ ao n c, v = .slice ao n c ∧ Own w lo ao n c l := by
  rcases h.2 with ⟨hv, hl⟩ | ⟨g, cap, cur, hv, hr⟩
  · refine ⟨none, 0, 0, hv, hl.symm, by omega, ?_⟩
    subst hv; unfold OwnV at h; rwa [hl] at h
  · refine ⟨_, _, _, hv, rfl, hs, ?_⟩
    subst hv; exact h
theorem OwnV.made0 (w : World) {lo : Nat} (hb : lo ≤ w.heap.size) : OwnV (w.alloc (.cells #[] 3)) lo (.slice (some ⟨w.heap.size, 0, none⟩) 0 0) [] :=
  World.ownsRow_lit (size := 1) w #[] 0 hb (Nat.zero_le _) rfl

/-- The post of a function that hands back new numbers and a bool: the zero values where there are none. -/
def RetIntsB (w : World) (r : Option (List Int)) (e : Ending) (w' : World) : Prop :=
  ∃ ao n c, e = .returned (.tuple #[.slice ao n c, .bool r.isSome]) ∧ Own w' w.heap.size ao n c (r.getD []) ∧ Below w.heap.size w w'

theorem retIntsB_nil {w w' : World} {r : Option (List Int)} (hr : r = none) (hb : Below w.heap.size w w') : RetIntsB w r (.returned (.tuple #[.slice none 0 0, .bool false])) w' := by
  subst hr
  exact ⟨none, 0, 0, rfl, ⟨rfl, by omega, World.ownsRow_nil _ _ _ _⟩, hb⟩
theorem retIntsB_mk {w w' : World} {r : Option (List Int)} {l : List Int} {v : Value} {b : Bool} (h : OwnV w' w.heap.size v l) (hs : l.length ≤ 1099511627776) (hl : r.getD [] = l) (hr : r.isSome = b) (hb : Below w.heap.size w w') : RetIntsB w r (.returned (.tuple #[v, .bool b])) w' := by
  obtain ⟨ao, n, c, rfl, ho⟩ := h.own hs
  subst hl; subst hr
  exact ⟨ao, n, c, rfl, ho, hb⟩

theorem RetIntsB.some {w w' : World} {l : List Int} {e : Ending} (h : RetIntsB w (some l) e w') : ∃ ao n c, e = .returned (.tuple #[.slice ao n c, .bool true]) ∧ Own w' w.heap.size ao n c l ∧ Below w.heap.size w w' := h
theorem RetIntsB.none {w w' : World} {e : Ending} (h : RetIntsB w none e w') : ∃ ao n c, e = .returned (.tuple #[.slice ao n c, .bool false]) ∧ Own w' w.heap.size ao n c [] ∧ Below w.heap.size w w' := h

theorem map_range_succ {f : Nat → Int} (k : Nat) : (List.range (k + 1)).map f = (List.range k).map f ++ [f k] := by rw [List.range_succ, List.map_append]; rfl

theorem OwnV.grown {w w' : World} {lo : Nat} {v : Value} {l : List Int} (h : OwnV w lo v l) (hg : w.grownBy w' v.ownBlock) (hlo : lo ≤ w.heap.size) : Below lo w w' :=
  (Below.refl _ _).grown hg hlo fun k hk => (h.lt k hk).1

/-- 'out = append(out, y)' of one number, out made by the call itself. -/
theorem wp_app1 {ops : Array Oper} {rest : List Oper} {o : Oper} {a : Act} {Q : Exit → Act → World → Prop} (wr : World) (hgd : o.guard = none) (s x : Operand)
    (ho : o.op = .call { callee := .builtin .append, args := #[s, x], argTypes := #[69, 69] })
    (lo : Nat) (v : Value) (l : List Int) (y : Int) (hs : a.eval s = v) (hown : OwnV wr lo v l) (hx : a.eval x = .slice (some ⟨wr.heap.size, 0, none⟩) 1 1)
    (hlen : l.length ≤ 1099511627775) (hlo : lo ≤ wr.heap.size)
    (h : ∀ v' w', OwnV w' lo v' (l ++ [y]) → wr.grownBy w' v.ownBlock → Below lo wr w' → wpList Tryd.prog ops Q rest (a.put o.dst v') w') :
    wpList Tryd.prog ops Q (o :: rest) a (wr.alloc (.cells #[.int .i64 y] 3)) := by
  obtain ⟨i0, hi, hz0, hz1, hz2⟩ := info_parts info_int
  refine wpList_append_own _ hgd s x 69 ho lo 3 i0 (.int .i64 0) 1 8 Tryd.underlying69 hi hz0 hz1 hz2 rfl (by decide) v l.length (l.map (Value.int .i64)) hs (hown.alloc _)
    ⟨wr.heap.size, 0, none⟩ 1 1 [.int .i64 y] hx rfl (cell_one_new _ _ _) (ints_oneCell .i64 [y]) (by unfold maxLen; omega) (by omega) (by simp; omega) ?_
  intro v' w1 h1 h2 _
  have hg : wr.grownBy w1 v.ownBlock := by
    refine ⟨h2.os, h2.tape, h2.output, Nat.le_trans (by simp) h2.size, fun k hk hne => ?_⟩
    rw [h2.block k (by simp; omega) hne]
    exact Below.heap_alloc _ _ _ hk
  exact h v' w1 (OwnV.snoc h1) hg (hown.grown hg hlo)

/-- The call's own row g of m numbers, of which the first k are those of L, the others those of Z. -/
def Fill (w : World) (lo g m : Nat) (L Z : List Int) (k : Nat) : Prop :=
  w.ownsRow lo 3 1 (.slice (some ⟨g, 0, none⟩) m m) m ((L.take k ++ Z.drop k).map (Value.int .i64)) ∧ L.length = m ∧ Z.length = m

theorem Fill.cell {w : World} {lo g m k : Nat} {L Z : List Int} (h : Fill w lo g m L Z k) (hk : k < m) : w.cell? ⟨g, k, none⟩ = some (.int .i64 (Z.getD k 0)) := by
  obtain ⟨ho, hL, hZ⟩ := h
  rw [ho.cellAt k (by omega), get_mid (by omega)]
  exact getD_map_int (by omega)
theorem Fill.free {w : World} {lo g m k : Nat} {L Z : List Int} (h : Fill w lo g m L Z k) (j : Nat) : w.frozen? ⟨g, j, none⟩ = false := h.1.frozenAt j
theorem Fill.lo {w : World} {lo g m k : Nat} {L Z : List Int} (h : Fill w lo g m L Z k) : lo ≤ g := (h.1.lt g rfl).1
theorem Fill.step {w : World} {lo g m k : Nat} {L Z : List Int} (h : Fill w lo g m L Z k) (hk : k < m) {y : Int} (hy : L.getD k 0 = y) : Fill (w.setCell ⟨g, k, none⟩ (.int .i64 y)) lo g m L Z (k + 1) := by
  obtain ⟨ho, hL, hZ⟩ := h
  have h2 := (ho.stored k (.int .i64 y)).1
  have hl : k < L.length := by omega
  have e : L.getD k 0 = L[k] := by simp [List.getD, hl]
  rw [← hy, e, take_set_snoc hl (by omega)] at h2
  rw [← hy, e]
  exact ⟨h2, hL, hZ⟩
theorem Fill.below {w w1 : World} {lo g m k : Nat} {L Z : List Int} (h : Fill w lo g m L Z k) (hb : Below lo w1 w) (u : Value) : Below lo w1 (w.setCell ⟨g, k, none⟩ u) := hb.setCell h.lo u
theorem Fill.done {w : World} {lo g m k : Nat} {L Z : List Int} (h : Fill w lo g m L Z k) (hk : m ≤ k) : OwnV w lo (.slice (some ⟨g, 0, none⟩) m m) L := by
  obtain ⟨ho, hL, hZ⟩ := h
  subst hL
  rw [List.take_of_length_le hk, List.drop_of_length_le (by omega), List.append_nil] at ho
  exact ho
theorem Fill.start {w : World} {lo g m : Nat} {L Z : List Int} (ho : w.ownsRow lo 3 1 (.slice (some ⟨g, 0, none⟩) m m) m (Z.map (Value.int .i64))) (hL : L.length = m) (hZ : Z.length = m) : Fill w lo g m L Z 0 :=
  ⟨by simpa using ho, hL, hZ⟩
theorem Fill.alter {w w' : World} {lo g m k : Nat} {L Z : List Int} (h : Fill w lo g m L Z k) (hb : Below w.heap.size w w') : Fill w' lo g m L Z k :=
  ⟨ownsRow_below h.1 hb fun k hk => (h.1.lt k hk).2, h.2⟩

/-- 'make([]int, n)'. -/
theorem wp_make {ops : Array Oper} {rest : List Oper} {o : Oper} {a : Act} {Q : Exit → Act → World → Prop} (w : World) (hgd : o.guard = none) (s x : Operand)
    (hop : o.op = Op.makeSlice 69 s x) (kl kc : IntKind) (n : Nat) (hs : a.eval s = .int kl n) (hx : a.eval x = .int kc n) (hn : n ≤ 1099511627776)
    (h : ∀ w', w'.ownsRow w.heap.size 3 1 (.slice (some ⟨w.heap.size, 0, none⟩) n n) n ((List.replicate n (0 : Int)).map (Value.int .i64)) → Below w.heap.size w w' →
      wpList Tryd.prog ops Q rest (a.put o.dst (.slice (some ⟨w.heap.size, 0, none⟩) n n)) w') :
    wpList Tryd.prog ops Q (o :: rest) a w := by
  obtain ⟨i0, hi, hz0, hz1, hz2⟩ := info_parts info_int
  refine wpList_make_full w hgd s x 69 hop w.heap.size 3 i0 (.int .i64 0) 1 Tryd.underlying69 hi hz0 hz1 kl kc n n n hs hx rfl rfl (by rw [hz2]; omega) (by unfold maxLen; omega) (Nat.le_refl _) ?_
  intro w1 h1 h2
  refine h w1 ?_ ((Below.refl _ _).grown h2 (Nat.le_refl _) (by intro k hk; cases hk))
  have e : (madeCells (Value.int IntKind.i64 0).cells (n * 1)).toList = (List.replicate n (0 : Int)).map (Value.int .i64) := by
    rw [Nat.mul_one]; refine (toList_madeCells_one _ _).trans ?_; simp
  rw [← e]; exact h1

theorem Rd.news {w : World} {ad : Addr} {n : Nat} {l : List Int} (h : Rd w (some ad) n l) : ∀ j u, (l.map (Value.int .i64))[j]? = some u → w.cell? (ad.add j) = some u := by
  intro j u hu
  have hj : j < l.length := by simpa using (List.getElem?_eq_some_iff.1 hu).1
  obtain ⟨b, off, h1, h2⟩ := h.2.2 j (by rw [h.1]; exact hj)
  cases h1
  rw [Addr.add_lit, h2, ← getD_map_int hj, hu]

/-- 'out = append(out, xs...)', out made by the call itself, xs a slice that is read. -/
theorem op_appS {o : Oper} {a : Act} {K : Act → World → Prop} {Q : Exit → Act → World → Prop} (wr : World) (s x : Operand)
    (ho : o.op = .call { callee := .builtin .append, args := #[s, x], argTypes := #[69, 69] })
    (lo : Nat) (v : Value) (l r : List Int) (ao : Option Addr) (m c : Nat) (hs : a.eval s = v) (hown : OwnV wr lo v l) (hx : a.eval x = .slice ao m c) (hr : Rd wr ao m r)
    (hc : ao = none → c = 0) (hlen : l.length + m ≤ 1099511627776) (hlo : lo ≤ wr.heap.size)
    (h : ∀ v' w', OwnV w' lo v' (l ++ r) → wr.grownBy w' v.ownBlock → Below lo wr w' → K (a.put o.dst v') w') :
    o.wp Tryd.prog a wr K Q := by
  obtain ⟨i0, hi, hz0, hz1, hz2⟩ := info_parts info_int
  cases ao with
  | none =>
    obtain rfl := hc rfl
    have h0 : m = 0 := by
      rcases Nat.eq_zero_or_pos m with h0 | h0
      · exact h0
      · obtain ⟨b, off, h1, _⟩ := hr.2.2 0 h0
        cases h1
    subst h0
    have hr0 : r = [] := List.eq_nil_of_length_eq_zero hr.1.symm
    subst hr0
    have hrun := run_append_owned_none (P := Tryd.prog) (w := wr) lo 69 o.type 3 i0 1 Tryd.underlying69 hi v l.length (l.map (Value.int .i64)) hown
    unfold Oper.wp
    simp [execOp, ho, resolve, invoke, builtin, hs, hx, hrun, Result.andThen]
    exact h v wr (by rw [List.append_nil]; exact hown) (World.grownBy.refl _ _) (Below.refl _ _)
  | some ad =>
    have hm := hr.1
    refine wp_append_own wr s x 69 ho lo 3 i0 (.int .i64 0) 1 8 Tryd.underlying69 hi hz0 hz1 hz2 rfl (by decide) v l.length (l.map (Value.int .i64)) hs hown
      ad m c (r.map (Value.int .i64)) hx (by simp [hm]) hr.news (ints_oneCell .i64 r) (by unfold maxLen; omega) (by omega) hlo ?_
    intro v' w1 h1 h2 _
    refine h v' w1 ?_ h2 (hown.grown h2 hlo)
    unfold OwnV
    rw [List.length_append, ← hm, List.map_append]
    exact h1

theorem wp_appS {ops : Array Oper} {rest : List Oper} {o : Oper} {a : Act} {Q : Exit → Act → World → Prop} (wr : World) (hgd : o.guard = none) (s x : Operand)
    (ho : o.op = .call { callee := .builtin .append, args := #[s, x], argTypes := #[69, 69] })
    (lo : Nat) (v : Value) (l r : List Int) (ao : Option Addr) (m c : Nat) (hs : a.eval s = v) (hown : OwnV wr lo v l) (hx : a.eval x = .slice ao m c) (hr : Rd wr ao m r)
    (hc : ao = none → c = 0) (hlen : l.length + m ≤ 1099511627776) (hlo : lo ≤ wr.heap.size)
    (h : ∀ v' w', OwnV w' lo v' (l ++ r) → wr.grownBy w' v.ownBlock → Below lo wr w' → wpList Tryd.prog ops Q rest (a.put o.dst v') w') :
    wpList Tryd.prog ops Q (o :: rest) a wr :=
  wpList_plain hgd fun _ hK => op_appS wr s x ho lo v l r ao m c hs hown hx hr hc hlen hlo fun v' w' h2 h3 h4 => hK _ _ (h v' w' h2 h3 h4)

theorem step_appS {ops : Array Oper} {o : Oper} {a : Act} {K : Act → World → Prop} {Q : Exit → Act → World → Prop} {E : Prop} (wr : World) (hgd : o.guard = none) (s x : Operand)
    (ho : o.op = .call { callee := .builtin .append, args := #[s, x], argTypes := #[69, 69] })
    (lo : Nat) (v : Value) (l r : List Int) (ao : Option Addr) (m c : Nat) (hs : a.eval s = v) (hown : OwnV wr lo v l) (hx : a.eval x = .slice ao m c) (hr : Rd wr ao m r)
    (hc : ao = none → c = 0) (hlen : l.length + m ≤ 1099511627776) (hlo : lo ≤ wr.heap.size)
    (h : ∀ v' w', OwnV w' lo v' (l ++ r) → wr.grownBy w' v.ownBlock → Below lo wr w' → K (a.put o.dst v') w') :
    if Region.wanted o (yielded ops a.tmps) = true then Oper.wp Tryd.prog o a wr K Q else E := by
  have hw : Region.wanted o (yielded ops a.tmps) = true := by simp [Region.wanted, hgd]
  rw [if_pos hw]
  exact op_appS wr s x ho lo v l r ao m c hs hown hx hr hc hlen hlo h

theorem Rd.drop {w : World} {b off n f : Nat} {l : List Int} (h : Rd w (some ⟨b, off, none⟩) n l) (hf : f ≤ n) : Rd w (some ⟨b, off + f, none⟩) (n - f) (l.drop f) := by
  refine ⟨by rw [List.length_drop, h.1], by have := h.2.1; omega, fun i hi => ?_⟩
  obtain ⟨b', off', h1, h2⟩ := h.2.2 (f + i) (by omega)
  cases h1
  refine ⟨b, off + f, rfl, ?_⟩
  rw [Nat.add_assoc, h2]
  simp [List.getD]
theorem Rd.take {w : World} {ao : Option Addr} {n f : Nat} {l : List Int} (h : Rd w ao n l) (hf : f ≤ n) : Rd w ao f (l.take f) := by
  refine ⟨by rw [List.length_take, ← h.1]; omega, by have := h.2.1; omega, fun i hi => ?_⟩
  obtain ⟨b', off', h1, h2⟩ := h.2.2 i (by omega)
  refine ⟨b', off', h1, ?_⟩
  rw [h2]
  simp [List.getD, hi]
theorem OwnV.mono {w : World} {lo lo' : Nat} {v : Value} {l : List Int} (h : OwnV w lo v l) (hl : lo' ≤ lo) : OwnV w lo' v l := by
  refine ⟨h.1, ?_⟩
  rcases h.2 with h2 | ⟨g, cap, cur, hv, hg, hr⟩
  · exact .inl h2
  · exact .inr ⟨g, cap, cur, hv, by omega, hr⟩
theorem OwnV.drew {w : World} {lo : Nat} {v : Value} {l : List Int} (h : OwnV w lo v l) : OwnV w.drew lo v l := h

/-- wp_app1, and where the new slice lies: in the old block or in a new one. -/
theorem wp_app1x {ops : Array Oper} {rest : List Oper} {o : Oper} {a : Act} {Q : Exit → Act → World → Prop} (wr : World) (hgd : o.guard = none) (s x : Operand)
    (ho : o.op = .call { callee := .builtin .append, args := #[s, x], argTypes := #[69, 69] })
    (lo : Nat) (v : Value) (l : List Int) (y : Int) (hs : a.eval s = v) (hown : OwnV wr lo v l) (hx : a.eval x = .slice (some ⟨wr.heap.size, 0, none⟩) 1 1)
    (hlen : l.length ≤ 1099511627775) (hlo : lo ≤ wr.heap.size)
    (h : ∀ v' w', OwnV w' lo v' (l ++ [y]) → wr.grownBy w' v.ownBlock → Below lo wr w' → (∀ g, v'.ownBlock = some g → v.ownBlock = some g ∨ wr.heap.size ≤ g) → wpList Tryd.prog ops Q rest (a.put o.dst v') w') :
    wpList Tryd.prog ops Q (o :: rest) a (wr.alloc (.cells #[.int .i64 y] 3)) := by
  obtain ⟨i0, hi, hz0, hz1, hz2⟩ := info_parts info_int
  refine wpList_append_own_at _ hgd s x 69 ho lo 3 i0 (.int .i64 0) 1 8 Tryd.underlying69 hi hz0 hz1 hz2 rfl (by decide) v l.length (l.map (Value.int .i64)) hs (hown.alloc _)
    ⟨wr.heap.size, 0, none⟩ 1 1 [.int .i64 y] hx rfl (cell_one_new _ _ _) (ints_oneCell .i64 [y]) (by unfold maxLen; omega) (by omega) (by simp; omega) ?_
  intro v' w1 h1 h2 _ h4
  have hg : wr.grownBy w1 v.ownBlock := by
    refine ⟨h2.os, h2.tape, h2.output, Nat.le_trans (by simp) h2.size, fun k hk hne => ?_⟩
    rw [h2.block k (by simp; omega) hne]
    exact Below.heap_alloc _ _ _ hk
  refine h v' w1 (OwnV.snoc h1) hg (hown.grown hg hlo) fun g hg' => ?_
  rcases h4 with h4 | h4
  · exact .inl (h4 ▸ hg')
  · right
    rw [h4] at hg'
    simp at hg'
    omega

end Go.Proofs.YtdedcablhahbnaaDoor
