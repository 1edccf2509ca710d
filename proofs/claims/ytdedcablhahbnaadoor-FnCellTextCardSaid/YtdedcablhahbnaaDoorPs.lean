/- Lists of stations handed back: make, append; PowerStep and ReleaseStation of the program and of the reference. No condition beyond lengths. -/
import Derived.Test.YtdedcablhahbnaaDoorPt
namespace Go.Proofs.YtdedcablhahbnaaDoor
open Go.RowKit

theorem RdS.news {w : World} {ad : Addr} {n : Nat} {l : List Stn} (h : RdS w (some ad) n l) : ∀ j u, (cellsS l)[j]? = some u → w.cell? (ad.add j) = some u := by
  intro j u hu
  obtain ⟨i, r, hr, rfl⟩ : ∃ i r, r < 4 ∧ j = i * 4 + r := ⟨j / 4, j % 4, Nat.mod_lt _ (by omega), by omega⟩
  rw [cellsS_get _ _ _ hr] at hu
  rcases hi : l[i]? with _ | s
  · rw [hi] at hu; cases hu
  · rw [hi] at hu
    obtain ⟨hil, hs⟩ := List.getElem?_eq_some_iff.1 hi
    obtain ⟨b, off, h1, c0, c1, c2, c3⟩ := h.2.2 i hil
    cases h1
    rw [hs] at c0 c1 c2 c3
    rw [Addr.add_lit]
    have hu' : s.vals[r]? = some u := hu
    rcases (by omega : r = 0 ∨ r = 1 ∨ r = 2 ∨ r = 3) with rfl | rfl | rfl | rfl
    · simp [Stn.vals] at hu'; subst hu'; rw [Nat.add_zero]; exact c0
    · simp [Stn.vals] at hu'; subst hu'; rw [← Nat.add_assoc]; exact c1
    · simp [Stn.vals] at hu'; subst hu'; rw [← Nat.add_assoc]; exact c2
    · simp [Stn.vals] at hu'; subst hu'; rw [← Nat.add_assoc]; exact c3
theorem cellsS_one (l : List Stn) : ∀ u ∈ cellsS l, u.oneCell' = true := by
  intro u hu
  unfold cellsS at hu
  obtain ⟨s, _, h⟩ := List.mem_flatMap.1 hu
  simp [Stn.vals] at h
  rcases h with rfl | rfl | rfl | rfl <;> rfl
theorem cellsS_append (l r : List Stn) : cellsS (l ++ r) = cellsS l ++ cellsS r := by simp [cellsS]
theorem RdS.take {w : World} {ao : Option Addr} {n k : Nat} {l : List Stn} (h : RdS w ao n l) (hk : k ≤ n) : RdS w ao k (l.take k) := by
  have hl := h.1
  refine ⟨by rw [List.length_take]; omega, by have := h.2.1; omega, fun i hi => ?_⟩
  have hi2 : i < k := by rw [List.length_take] at hi; omega
  obtain ⟨b, off, h1, _, h2⟩ := h.at (show i < n by omega)
  exact ⟨b, off, h1, by simpa using h2⟩
theorem RdS.drop {w : World} {b off n k : Nat} {l : List Stn} (h : RdS w (some ⟨b, off, none⟩) n l) (hk : k ≤ n) : RdS w (some ⟨b, off + k * 4, none⟩) (n - k) (l.drop k) := by
  have hl := h.1
  refine ⟨by rw [List.length_drop]; omega, by have := h.2.1; omega, fun i hi => ?_⟩
  have hi2 : k + i < l.length := by rw [List.length_drop] at hi; omega
  obtain ⟨b', off', h1, h2⟩ := h.2.2 (k + i) hi2
  cases h1
  refine ⟨b, off + k * 4, rfl, ?_⟩
  have e : off + k * 4 + i * 4 = off + (k + i) * 4 := by omega
  rw [e]
  simpa using h2
theorem RdS.empty {w : World} {ao : Option Addr} {n : Nat} {l : List Stn} (h : RdS w ao n l) (h0 : ao = none) : n = 0 ∧ l = [] := by
  subst h0
  rcases Nat.eq_zero_or_pos n with h1 | h1
  · subst h1; exact ⟨rfl, List.eq_nil_of_length_eq_zero h.1.symm⟩
  · obtain ⟨b, off, h2, _⟩ := h.at h1
    cases h2
theorem OwnS.cap' {w : World} {lo : Nat} {ao : Option Addr} {n c : Nat} {l : List Stn} (h : OwnS w lo ao n c l) : n ≤ c ∧ (ao = none → c = 0) := by
  rcases h.2.2.2 with ⟨h1, h2⟩ | ⟨g, cap, cur, hv, _, _, hc, _⟩
  · cases h1; exact ⟨Nat.le_refl _, fun _ => rfl⟩
  · cases hv; exact ⟨hc, fun e => by cases e⟩
theorem OwnS.mono {w : World} {lo lo' : Nat} {ao : Option Addr} {n c : Nat} {l : List Stn} (h : OwnS w lo ao n c l) (hl : lo' ≤ lo) : OwnS w lo' ao n c l := by
  refine ⟨h.1, h.2.1, h.2.2.1, ?_⟩
  rcases h.2.2.2 with h2 | ⟨g, cap, cur, hv, hg, hr⟩
  · exact .inl h2
  · exact .inr ⟨g, cap, cur, hv, by omega, hr⟩

/-- The value v, which the call made itself, holds the stations l. -/
def OwnVS (w : World) (lo : Nat) (v : Value) (l : List Stn) : Prop := w.ownsRow lo 37 4 v l.length (cellsS l)
theorem OwnVS.own {w : World} {lo : Nat} {v : Value} {l : List Stn} (h : OwnVS w lo v l) (hs : l.length ≤ 1099511627776) : ∃ ao n c, v = .slice ao n c ∧ OwnS w lo ao n c l := by
  rcases h.2 with ⟨hv, hl⟩ | ⟨g, cap, cur, hv, hr⟩
  · refine ⟨none, 0, 0, hv, hl.symm, by omega, ?_⟩
    subst hv; unfold OwnVS at h; rwa [hl] at h
  · refine ⟨_, _, _, hv, rfl, hs, ?_⟩
    subst hv; exact h
theorem OwnVS.made0 (w : World) {lo : Nat} (hb : lo ≤ w.heap.size) : OwnVS (w.alloc (.cells #[] 37)) lo (.slice (some ⟨w.heap.size, 0, none⟩) 0 0) [] :=
  World.ownsRow_lit (size := 4) w #[] 0 hb (Nat.zero_le _) rfl
theorem OwnVS.grown {w w' : World} {lo : Nat} {v : Value} {l : List Stn} (h : OwnVS w lo v l) (hg : w.grownBy w' v.ownBlock) (hlo : lo ≤ w.heap.size) : Below lo w w' :=
  (Below.refl _ _).grown hg hlo fun k hk => (h.lt k hk).1

def RetSB (w : World) (r : Option (List Stn)) (e : Ending) (w' : World) : Prop :=
  ∃ ao n c, e = .returned (.tuple #[.slice ao n c, .bool r.isSome]) ∧ OwnS w' w.heap.size ao n c (r.getD []) ∧ Below w.heap.size w w'
theorem retSB_nil {w w' : World} {r : Option (List Stn)} (hr : r = none) (hb : Below w.heap.size w w') : RetSB w r (.returned (.tuple #[.slice none 0 0, .bool false])) w' := by
  subst hr
  exact ⟨none, 0, 0, rfl, ⟨rfl, by omega, World.ownsRow_nil _ _ _ _⟩, hb⟩
theorem retSB_mk {w w' : World} {r : Option (List Stn)} {l : List Stn} {v : Value} {b : Bool} (h : OwnVS w' w.heap.size v l) (hs : l.length ≤ 1099511627776) (hl : r.getD [] = l) (hr : r.isSome = b) (hb : Below w.heap.size w w') : RetSB w r (.returned (.tuple #[v, .bool b])) w' := by
  obtain ⟨ao, n, c, rfl, ho⟩ := h.own hs
  subst hl; subst hr
  exact ⟨ao, n, c, rfl, ho, hb⟩

/-- 'out = append(out, xs...)', out made by the call itself, xs a slice that is read. -/
theorem op_appSS {o : Oper} {a : Act} {K : Act → World → Prop} {Q : Exit → Act → World → Prop} (wr : World) (s x : Operand)
    (ho : o.op = .call { callee := .builtin .append, args := #[s, x], argTypes := #[23, 23] })
    (lo : Nat) (v : Value) (l r : List Stn) (ao : Option Addr) (m c : Nat) (hs : a.eval s = v) (hown : OwnVS wr lo v l) (hx : a.eval x = .slice ao m c) (hr : RdS wr ao m r)
    (hc : ao = none → c = 0) (hlen : l.length + m ≤ 1099511627776) (hlo : lo ≤ wr.heap.size)
    (h : ∀ v' w', OwnVS w' lo v' (l ++ r) → wr.grownBy w' v.ownBlock → Below lo wr w' → K (a.put o.dst v') w') :
    o.wp Tryd.prog a wr K Q := by
  obtain ⟨i0, hi, hz0, hz1, hz2⟩ := info_parts info_stn
  cases ao with
  | none =>
    obtain rfl := hc rfl
    obtain ⟨rfl, rfl⟩ := hr.empty rfl
    have hrun := run_append_owned_none (P := Tryd.prog) (w := wr) lo 23 o.type 37 i0 4 Tryd.underlying23 hi v l.length (cellsS l) hown
    unfold Oper.wp
    simp [execOp, ho, resolve, invoke, builtin, hs, hx, hrun, Result.andThen]
    exact h v wr (by rw [List.append_nil]; exact hown) (World.grownBy.refl _ _) (Below.refl _ _)
  | some ad =>
    have hm := hr.1
    refine wp_append_own wr s x 23 ho lo 37 i0 _ 4 48 Tryd.underlying23 hi hz0 hz1 hz2 rfl (by decide) v l.length (cellsS l) hs hown
      ad m c (cellsS r) hx (by rw [cellsS_len, hm]) hr.news (cellsS_one r) (by unfold maxLen; omega) (by omega) hlo ?_
    intro v' w1 h1 h2 _
    refine h v' w1 ?_ h2 (hown.grown h2 hlo)
    unfold OwnVS
    rw [List.length_append, ← hm, cellsS_append]
    exact h1
theorem wp_appSS {ops : Array Oper} {rest : List Oper} {o : Oper} {a : Act} {Q : Exit → Act → World → Prop} (wr : World) (hgd : o.guard = none) (s x : Operand)
    (ho : o.op = .call { callee := .builtin .append, args := #[s, x], argTypes := #[23, 23] })
    (lo : Nat) (v : Value) (l r : List Stn) (ao : Option Addr) (m c : Nat) (hs : a.eval s = v) (hown : OwnVS wr lo v l) (hx : a.eval x = .slice ao m c) (hr : RdS wr ao m r)
    (hc : ao = none → c = 0) (hlen : l.length + m ≤ 1099511627776) (hlo : lo ≤ wr.heap.size)
    (h : ∀ v' w', OwnVS w' lo v' (l ++ r) → wr.grownBy w' v.ownBlock → Below lo wr w' → wpList Tryd.prog ops Q rest (a.put o.dst v') w') :
    wpList Tryd.prog ops Q (o :: rest) a wr :=
  wpList_plain hgd fun _ hK => op_appSS wr s x ho lo v l r ao m c hs hown hx hr hc hlen hlo fun v' w' h2 h3 h4 => hK _ _ (h v' w' h2 h3 h4)
theorem step_appSS {ops : Array Oper} {o : Oper} {a : Act} {K : Act → World → Prop} {Q : Exit → Act → World → Prop} {E : Prop} (wr : World) (hgd : o.guard = none) (s x : Operand)
    (ho : o.op = .call { callee := .builtin .append, args := #[s, x], argTypes := #[23, 23] })
    (lo : Nat) (v : Value) (l r : List Stn) (ao : Option Addr) (m c : Nat) (hs : a.eval s = v) (hown : OwnVS wr lo v l) (hx : a.eval x = .slice ao m c) (hr : RdS wr ao m r)
    (hc : ao = none → c = 0) (hlen : l.length + m ≤ 1099511627776) (hlo : lo ≤ wr.heap.size)
    (h : ∀ v' w', OwnVS w' lo v' (l ++ r) → wr.grownBy w' v.ownBlock → Below lo wr w' → K (a.put o.dst v') w') :
    if Region.wanted o (yielded ops a.tmps) = true then Oper.wp Tryd.prog o a wr K Q else E := by
  have hw : Region.wanted o (yielded ops a.tmps) = true := by simp [Region.wanted, hgd]
  rw [if_pos hw]
  exact op_appSS wr s x ho lo v l r ao m c hs hown hx hr hc hlen hlo h
/-- 'make([]Station, n)'. -/
theorem wp_makeS {ops : Array Oper} {rest : List Oper} {o : Oper} {a : Act} {Q : Exit → Act → World → Prop} (w : World) (hgd : o.guard = none) (s x : Operand)
    (hop : o.op = Op.makeSlice 23 s x) (kl kc : IntKind) (n : Nat) (hs : a.eval s = .int kl n) (hx : a.eval x = .int kc n) (hn : n ≤ 1099511627776)
    (h : ∀ w', w'.ownsRow w.heap.size 37 4 (.slice (some ⟨w.heap.size, 0, none⟩) n n) n (cellsS (List.replicate n zstn)) → Below w.heap.size w w' →
      wpList Tryd.prog ops Q rest (a.put o.dst (.slice (some ⟨w.heap.size, 0, none⟩) n n)) w') :
    wpList Tryd.prog ops Q (o :: rest) a w := by
  obtain ⟨i0, hi, hz0, hz1, hz2⟩ := info_parts info_stn
  refine wpList_make_full w hgd s x 23 hop w.heap.size 37 i0 _ 4 Tryd.underlying23 hi hz0 hz1 kl kc n n n hs hx rfl rfl (by rw [hz2]; omega) (by unfold maxLen; omega) (Nat.le_refl _) ?_
  intro w1 h1 h2
  exact h w1 ((made_stn n) ▸ h1) ((Below.refl _ _).grown h2 (Nat.le_refl _) (by intro k hk; cases hk))
/-- 'make([]Station, 0, n)'. -/
theorem wp_make0S {ops : Array Oper} {rest : List Oper} {o : Oper} {a : Act} {Q : Exit → Act → World → Prop} (w : World) (hgd : o.guard = none) (s x : Operand)
    (hop : o.op = Op.makeSlice 23 s x) (kl kc : IntKind) (n : Nat) (C : Int) (hC : C = n) (hs : a.eval s = .int kl 0) (hx : a.eval x = .int kc C) (hn : n ≤ 1099511627776)
    (h : ∀ w', OwnVS w' w.heap.size (.slice (some ⟨w.heap.size, 0, none⟩) 0 n) [] → Below w.heap.size w w' →
      wpList Tryd.prog ops Q rest (a.put o.dst (.slice (some ⟨w.heap.size, 0, none⟩) 0 n)) w') :
    wpList Tryd.prog ops Q (o :: rest) a w := by
  obtain ⟨i0, hi, hz0, hz1, hz2⟩ := info_parts info_stn
  refine wpList_make_own w hgd s x 23 hop w.heap.size 37 i0 _ 4 Tryd.underlying23 hi hz0 hz1 kl kc C n hs hx hC (by rw [hz2]; omega) (by unfold maxLen; omega) (Nat.le_refl _) ?_
  intro w1 h1 h2
  exact h w1 h1 ((Below.refl _ _).grown h2 (Nat.le_refl _) (by intro k hk; cases hk))

theorem OwnVS.mono {w : World} {lo lo' : Nat} {v : Value} {l : List Stn} (h : OwnVS w lo v l) (hl : lo' ≤ lo) : OwnVS w lo' v l := by
  refine ⟨h.1, ?_⟩
  rcases h.2 with h2 | ⟨g, cap, cur, hv, hg, hr⟩
  · exact .inl h2
  · exact .inr ⟨g, cap, cur, hv, by omega, hr⟩
theorem ownsRow_mono {w : World} {lo lo' n size : Nat} {t : TypeId} {v : Value} {xs : List Value} (h : w.ownsRow lo t size v n xs) (hl : lo' ≤ lo) : w.ownsRow lo' t size v n xs := by
  refine ⟨h.1, ?_⟩
  rcases h.2 with h2 | ⟨g, cap, cur, hv, hg, hr⟩
  · exact .inl h2
  · exact .inr ⟨g, cap, cur, hv, by omega, hr⟩
theorem ownRow_at' {w : World} {lo g n c size : Nat} {t : TypeId} {xs : List Value} {u : Value} {j : Nat} (h : w.ownsRow lo t size (.slice (some ⟨g, 0, none⟩) n c) n xs) (hj : xs[j]? = some u) : w.cell? ⟨g, j, none⟩ = some u := by
  have hl : j < xs.length := (List.getElem?_eq_some_iff.1 hj).1
  rw [h.cellAt j (by rw [← h.1]; exact hl)]; exact hj
theorem ownsRow_far {w : World} {lo n size : Nat} {t : TypeId} {v : Value} {xs : List Value} (h : w.ownsRow lo t size v n xs) {p : Addr} (hne : ∀ k, v.ownBlock = some k → k ≠ p.block) (u : Value) : (w.setCell p u).ownsRow lo t size v n xs := by
  refine ⟨h.1, ?_⟩
  rcases h.2 with h2 | ⟨g, cap, cur, hv, hg, hh, hr⟩
  · exact .inl h2
  · refine .inr ⟨g, cap, cur, hv, hg, ?_, hr⟩
    rw [Below.heap_setCell _ _ _ _ (hne g (by rw [hv]; rfl))]
    exact hh
theorem Box.put {w : World} {b : Nat} {cs : Array Value} {t : TypeId} (h : Box w b cs t) (i : Nat) (u : Value) : Box (w.setCell ⟨b, i, none⟩ u) b (cs.setIfInBounds i u) t := by
  unfold Box at *
  simp [World.setCell, Array.getElem?_modify, h]

/-- One station after a step of power control. -/
def pstS (t : Int) (s : Stn) : Stn := ⟨s.nm, s.ph, if s.g < goalS t s then s.g + 1 else if s.g > goalS t s then s.g - 1 else s.g, s.l⟩
def stepR (l : List Stn) (t : Int) : Option (List Stn) := if (cellB l && inB t 0 40) = true then some (l.map (pstS t)) else none
theorem stepR_no1 {l : List Stn} {t : Int} (h : cellB l = false) : stepR l t = none := by simp [stepR, h]
theorem stepR_no2 {l : List Stn} {t : Int} (h : inB t 0 40 = false) : stepR l t = none := by simp [stepR, h]
theorem stepR_yes {l : List Stn} {t : Int} (h : cellB l = true) (h' : inB t 0 40 = true) : stepR l t = some (l.map (pstS t)) := by simp [stepR, h, h']
theorem pstS_up {t : Int} {s : Stn} (h : s.g < goalS t s) : pstS t s = ⟨s.nm, s.ph, s.g + 1, s.l⟩ := by simp [pstS, h]
theorem pstS_down {t : Int} {s : Stn} (h : ¬ s.g < goalS t s) (h' : s.g > goalS t s) : pstS t s = ⟨s.nm, s.ph, s.g - 1, s.l⟩ := by unfold pstS; rw [if_neg h, if_pos h']
theorem pstS_same {t : Int} {s : Stn} (h : ¬ s.g < goalS t s) (h' : ¬ s.g > goalS t s) : pstS t s = ⟨s.nm, s.ph, s.g, s.l⟩ := by unfold pstS; rw [if_neg h, if_neg h']

end Go.Proofs.YtdedcablhahbnaaDoor
