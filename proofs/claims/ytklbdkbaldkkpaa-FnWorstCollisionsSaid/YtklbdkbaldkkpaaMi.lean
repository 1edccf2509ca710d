/- A slice of slices of integers: that came in, opened (for the laws' frames); read; made (toIntSS, szIntSS, eqIntSS). No condition beyond lengths. -/
import Derived.Test.YtklbdkbaldkkpaaInts
import Derived.Test.YtklbdkbaldkkpaaG
import Derived.Deep.Slices
import Derived.Deep.Fields
import Derived.Lib.SmallJoins
namespace Go.Proofs.Ytklbdkbaldkkpaa
open Go.RowKit Go.ChangeShapes Go.WideShapes Go.Deep Go.Joins

structure RowI where
  ao : Option Addr
  n : Nat
  c : Nat
  l : List Int
deriving Inhabited
def RowI.v (r : RowI) : Value := .slice r.ao r.n r.c
/-- What is known of a row that came in. -/
def RowOk (w : World) (r : RowI) : Prop :=
  (r.ao = none ∧ r.n = 0 ∧ r.c = 0 ∧ r.l = []) ∨ ∃ x, r.ao = some x ∧ r.n ≤ r.c ∧ r.c ≤ maxLen ∧ r.l.length = r.n ∧ ∀ i (hi : i < r.l.length), w.cell? (x.add i) = some (.int .i64 r.l[i])
def IsIntSS (w : World) (a : Option Addr) (len cap : Nat) (rs : List RowI) : Prop :=
  (a = none ∧ len = 0 ∧ cap = 0 ∧ rs = []) ∨ ∃ x, a = some x ∧ len ≤ cap ∧ cap ≤ maxLen ∧ rs.length = cap ∧ ∀ i (hi : i < rs.length), w.cell? (x.add i) = some rs[i].v ∧ RowOk w rs[i]

theorem open_intss {H : Type} {enc : TypeId × Value → H} {P : Program} {w : World} {base fuel : Nat} {held : Bool} {t e q : TypeId} {a : Option Addr} {len cap : Nat} {x : DataW H × List MemPlace}
    (ht : P.underlying t = some (.slice e)) (he : P.underlying e = some (.slice q)) (hq : P.underlying q = some (.int .i64)) (hC : P.cellsOf e = 1) (hc : P.cellsOf q = 1)
    (h : DataW.trod enc P w base (fun _ => true) held fuel t [.slice a len cap] = some x) : ∃ rs, IsIntSS w a len cap rs := by
  rcases open_slice ht h with ⟨h0, _⟩ | ⟨ad, ln, cp, m, n, D, Pl, hcs, hb, hl, hm, hmm, _, hx⟩
  · simp at h0
    obtain ⟨rfl, rfl, rfl⟩ := h0
    exact ⟨[], .inl ⟨rfl, rfl, rfl, rfl⟩⟩
  · simp at hcs
    obtain ⟨rfl, rfl, rfl⟩ := hcs
    simp at hmm
    subst hmm
    have each : ∀ i, i < m → ∃ r : RowI, w.cell? (ad.add i) = some r.v ∧ RowOk w r := by
      intro i hi
      obtain ⟨cs', h1, h2⟩ := hx i hi
      rw [hC] at h1
      obtain ⟨_, hlen, hcell⟩ := World.cells?_some h1
      have c0 := hcell 0 (by omega)
      rw [Go.Deep.add_add] at c0
      rcases open_ints he hq hc h2 with ⟨rfl, _⟩ | ⟨y, l, c, zs, rfl, _, hl2, hm2, hz, _, hcell2, hw2⟩
      · exact ⟨⟨none, 0, 0, []⟩, by simpa [RowI.v] using c0, .inl ⟨rfl, rfl, rfl, rfl⟩⟩
      · refine ⟨⟨some y, l, c, zs.take l⟩, by simpa [RowI.v] using c0, .inr ⟨y, rfl, hl2, hm2, ?_, fun j hj => ?_⟩⟩
        · rw [List.length_take]; simp at hz; simp; omega
        · have hj2 : j < zs.length := by simp at hj; omega
          have := hcell2 j hj2
          simpa [List.getD, hj2] using this
    obtain ⟨F, hF⟩ := choose_lt each
    refine ⟨(List.range m).map F, .inr ⟨ad, rfl, hl, hm, by simp, fun i hi => ?_⟩⟩
    have hi' : i < m := by simpa using hi
    have e : ((List.range m).map F)[i] = F i := by simp
    rw [e]
    exact hF i hi'

/-- A slice of slices that reads as the rows. -/
def RdM (w : World) (ao : Option Addr) (n : Nat) (rs : List RowI) : Prop := RdF RowI.v w ao n rs ∧ ∀ r ∈ rs, Rd w r.ao r.n r.l ∧ r.n ≤ r.c
theorem RdM.below {w w' : World} {ao : Option Addr} {n : Nat} {rs : List RowI} (h : RdM w ao n rs) (hb : Below w.heap.size w w') : RdM w' ao n rs :=
  ⟨h.1.below hb, fun r hr => ⟨(h.2 r hr).1.below hb, (h.2 r hr).2⟩⟩
theorem RdM.qw {w w' : World} {ao : Option Addr} {n : Nat} {rs : List RowI} (h : RdM w ao n rs) (hq : Qw w w') : RdM w' ao n rs := h.below (hq.below _)
theorem row_far {w : World} {lo n size : Nat} {t : TypeId} {v : Value} {xs : List Value} (h : w.ownsRow lo t size v n xs) {p : Addr} (hne : ∀ k, v.ownBlock = some k → k ≠ p.block) (u : Value) : (w.setCell p u).ownsRow lo t size v n xs := by
  refine ⟨h.1, ?_⟩
  rcases h.2 with h2 | ⟨g, cap, cur, hv, hg, hh, hr⟩
  · exact .inl h2
  · refine .inr ⟨g, cap, cur, hv, hg, ?_, hr⟩
    rw [Below.heap_setCell _ _ _ _ (hne g (by rw [hv]; rfl))]
    exact hh
/-- What the rows hold together, their number besides. -/
def szM (rs : List RowI) : Nat := (rs.map RowI.n).sum
theorem szM_snoc {rs : List RowI} {k : Nat} (h : k < rs.length) : szM (rs.take (k + 1)) = szM (rs.take k) + rs[k].n := by
  unfold szM; rw [List.take_succ_eq_append_getElem h, List.map_append, List.sum_append]; simp
theorem szM_le {rs : List RowI} (k : Nat) : szM (rs.take k) ≤ szM rs := by
  unfold szM
  conv => rhs; rw [← List.take_append_drop k rs, List.map_append, List.sum_append]
  omega
theorem szM_mem {rs : List RowI} {r : RowI} (h : r ∈ rs) : r.n ≤ szM rs := by
  obtain ⟨i, hi, rfl⟩ := List.getElem_of_mem h
  have h1 := szM_snoc hi
  have h2 := szM_le (rs := rs) (i + 1)
  omega
def szR (rs : List RowI) (left : Int) : Int := if left - rs.length - szM rs < 0 then -1 else left - rs.length - szM rs




def zrow : RowI := ⟨none, 0, 0, []⟩
theorem info_ints : (Try.prog.info? 27).map (fun i => (i.zero, i.size, i.bytes)) = some (some (RowI.v zrow), 1, 24) := by kernel_rfl
theorem own_fits {w : World} {lo : Nat} {ao : Option Addr} {n c : Nat} {l : List Int} (h : Own w lo ao n c l) : n ≤ c := by
  rcases h.2.2.2 with ⟨h1, h2⟩ | ⟨g, cap, cur, hv, hg, hh, hc, _⟩
  · cases h1; omega
  · cases hv; exact hc
/-- The numbers that the rows hold. -/
def nums (rs : List RowI) : List (List Int) := rs.map RowI.l
theorem set_mid {rs : List RowI} {k m : Nat} {x : RowI} (hk : rs.length = k) : (rs ++ List.replicate (m + 1) zrow).set k x = (rs ++ [x]) ++ List.replicate m zrow := by
  subst hk
  rw [List.set_append_right _ _ (Nat.le_refl _), Nat.sub_self, List.replicate_succ, List.set_cons_zero, List.append_assoc]; rfl



/-- What the frame says, turned into RdM: as many rows as the slice has; the rows bounded by what was counted. -/
theorem rdF_of {w : World} {a : Option Addr} {len cap : Nat} {zs : List RowI} (h : IsIntSS w a len cap zs) (hs : len ≤ 1099511627776) : RdF RowI.v w a len (zs.take len) ∧ (∀ r ∈ zs.take len, RowOk w r) ∧ len ≤ cap := by
  rcases h with ⟨rfl, rfl, rfl, rfl⟩ | ⟨x, rfl, h1, h2, h3, h4⟩
  · exact ⟨RdF.nil _ w, fun r hr => by simp at hr, Nat.le_refl _⟩
  · have hlen : (zs.take len).length = len := by rw [List.length_take]; omega
    refine ⟨⟨hlen.symm, hs, fun i hi => ?_⟩, fun r hr => ?_, h1⟩
    · have hi2 : i < zs.length := by omega
      have e : (zs.take len)[i] = zs[i] := by simp
      rw [e]
      obtain ⟨b, off, spot⟩ := x
      have hsp : spot = none := by simpa [Addr.add] using World.cell?_spot (h4 0 (by omega)).1
      subst hsp
      have hc := (h4 i hi2).1
      rw [Addr.add_lit] at hc
      exact ⟨b, off, rfl, hc⟩
    · obtain ⟨i, hi, rfl⟩ := List.getElem_of_mem (List.mem_of_mem_take hr)
      exact (h4 i hi).2
theorem rowOk_max {w : World} {r : RowI} (h : RowOk w r) : r.n ≤ maxLen ∧ r.n ≤ r.c := by
  rcases h with ⟨_, h1, h2, _⟩ | ⟨x, _, h1, h2, _⟩
  · rw [h1, h2]; exact ⟨Nat.zero_le _, Nat.le_refl _⟩
  · exact ⟨Nat.le_trans h1 h2, h1⟩
theorem rowOk_rd {w : World} {r : RowI} (h : RowOk w r) (hs : r.n ≤ 1099511627776) : Rd w r.ao r.n r.l := by
  rcases h with ⟨h0, h1, h2, h3⟩ | ⟨x, h0, h1, h2, h3, h4⟩
  · rw [h0, h1, h3]; exact Rd.nil w
  · refine ⟨h3.symm, hs, fun i hi => ?_⟩
    obtain ⟨b, off, spot⟩ := x
    have hsp : spot = none := by simpa [Addr.add] using World.cell?_spot (h4 0 (by omega))
    subst hsp
    have hc := h4 i (by omega)
    rw [Addr.add_lit] at hc
    exact ⟨b, off, h0, by rw [hc]; simp [List.getD, show i < r.l.length by omega]⟩
theorem szR_yes {rs : List RowI} {left : Int} (h : (rs.length : Int) + szM rs ≤ left) : szR rs left = left - rs.length - szM rs := by unfold szR; rw [if_neg (by omega)]
theorem szR_no {rs : List RowI} {left : Int} (h : left < (rs.length : Int) + szM rs) : szR rs left = -1 := by unfold szR; rw [if_pos (by omega)]

end Go.Proofs.Ytklbdkbaldkkpaa
