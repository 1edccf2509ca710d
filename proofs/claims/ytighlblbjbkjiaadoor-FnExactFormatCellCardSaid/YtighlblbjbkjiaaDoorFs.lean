/- A slice of stations that came in, opened: for the laws' frames. No condition. -/
import Derived.Test.YtighlblbjbkjiaaDoorCl
import Derived.Deep.Slices
import Derived.Deep.Fields
import Derived.Lib.SmallJoins
namespace Go.Proofs.YtighlblbjbkjiaaDoor
open Go.RowKit Go.ChangeShapes Go.WideShapes Go.Deep Go.Joins

/-- A slice of stations that came in: nil, or a row of stations. -/
def IsStns (w : World) (a : Option Addr) (len cap : Nat) (zs : List Stn) : Prop :=
  (a = none ∧ len = 0 ∧ cap = 0 ∧ zs = []) ∨
  ∃ x, a = some x ∧ len ≤ cap ∧ cap ≤ maxLen ∧ zs.length = cap ∧ ∀ i (hi : i < zs.length), w.cell? (x.add (i * 4)) = some (.string zs[i].nm) ∧ w.cell? (x.add (i * 4 + 1)) = some (.string zs[i].ph) ∧
    w.cell? (x.add (i * 4 + 2)) = some (.int .i64 zs[i].g) ∧ w.cell? (x.add (i * 4 + 3)) = some (.int .i64 zs[i].l) ∧ zs[i].nm.size ≤ maxLen ∧ zs[i].ph.size ≤ maxLen ∧ (Lit.int .i64 zs[i].g).wf = true ∧ (Lit.int .i64 zs[i].l).wf = true

theorem open_stns {H : Type} {enc : TypeId × Value → H} {P : Program} {w : World} {base fuel : Nat} {held : Bool} {t e : TypeId} {f0 f1 f2 f3 : Field} {a : Option Addr} {len cap : Nat} {x : DataW H × List MemPlace}
    (ht : P.underlying t = some (.slice e)) (he : P.underlying e = some (.struct #[f0, f1, f2, f3])) (hone : oneCellFields P #[f0, f1, f2, f3] = true) (hC : P.cellsOf e = 4)
    (u0 : P.underlying f0.type = some .string) (u1 : P.underlying f1.type = some .string) (u2 : P.underlying f2.type = some (.int .i64)) (u3 : P.underlying f3.type = some (.int .i64))
    (h : DataW.trod enc P w base (fun _ => true) held fuel t [.slice a len cap] = some x) : ∃ zs, IsStns w a len cap zs := by
  rcases open_slice ht h with ⟨h0, _⟩ | ⟨ad, ln, cp, m, n, D, Pl, hcs, hb, hl, hm, hmm, _, hx⟩
  · simp at h0
    obtain ⟨rfl, rfl, rfl⟩ := h0
    exact ⟨[], .inl ⟨rfl, rfl, rfl, rfl⟩⟩
  · simp at hcs
    obtain ⟨rfl, rfl, rfl⟩ := hcs
    simp at hmm
    subst hmm
    have each : ∀ i, i < m → ∃ s : Stn, w.cell? (ad.add (i * 4)) = some (.string s.nm) ∧ w.cell? (ad.add (i * 4 + 1)) = some (.string s.ph) ∧
        w.cell? (ad.add (i * 4 + 2)) = some (.int .i64 s.g) ∧ w.cell? (ad.add (i * 4 + 3)) = some (.int .i64 s.l) ∧ s.nm.size ≤ maxLen ∧ s.ph.size ≤ maxLen ∧ (Lit.int .i64 s.g).wf = true ∧ (Lit.int .i64 s.l).wf = true := by
      intro i hi
      obtain ⟨cs', h1, h2⟩ := hx i hi
      rw [hC] at h1
      obtain ⟨_, hlen, hcell⟩ := World.cells?_some h1
      obtain ⟨y0, y1, y2, y3, k, _, _, g0, g1, g2, g3⟩ := trod_struct4 he h2
      obtain ⟨o0, k0⟩ := hone_of hone 0 f0 rfl
      obtain ⟨o1, k1⟩ := hone_of hone 1 f1 rfl
      obtain ⟨o2, k2⟩ := hone_of hone 2 f2 rfl
      obtain ⟨o3, k3⟩ := hone_of hone 3 f3 rfl
      match cs', hlen with
      | [v0, v1, v2, v3], _ =>
        simp [o0, o1, o2, o3, k0, k1, k2, k3] at g0 g1 g2 g3
        obtain ⟨s0, e0, _, w0⟩ := DataW.trod_string u0 g0
        obtain ⟨s1, e1, _, w1⟩ := DataW.trod_string u1 g1
        obtain ⟨s2, e2, _, w2⟩ := DataW.trod_int u2 g2
        obtain ⟨s3, e3, _, w3⟩ := DataW.trod_int u3 g3
        simp only [List.cons.injEq, and_true] at e0 e1 e2 e3
        subst e0 e1 e2 e3
        have c0 := hcell 0 (by omega)
        have c1 := hcell 1 (by omega)
        have c2 := hcell 2 (by omega)
        have c3 := hcell 3 (by omega)
        rw [Go.Deep.add_add] at c0 c1 c2 c3
        exact ⟨⟨s0, s1, s2, s3⟩, by simpa using c0, by simpa using c1, by simpa using c2, by simpa using c3, w0, w1, w2, w3⟩
    obtain ⟨F, hF⟩ := choose_lt each
    refine ⟨(List.range m).map F, .inr ⟨ad, rfl, hl, hm, by simp, fun i hi => ?_⟩⟩
    have hi' : i < m := by simpa using hi
    have e : ((List.range m).map F)[i] = F i := by simp
    rw [e]
    exact hF i hi'

/-- What the frame says, turned into RdS. -/
theorem rdS_of {w : World} {a : Option Addr} {len cap : Nat} {zs : List Stn} (h : IsStns w a len cap zs) (hs : len ≤ 1099511627776) : RdS w a len (zs.take len) ∧ SmallS (zs.take len) ∧ len ≤ cap := by
  rcases h with ⟨rfl, rfl, rfl, rfl⟩ | ⟨x, rfl, h1, h2, h3, h4⟩
  · exact ⟨RdS.nil w, fun i hi => absurd hi (by simp), Nat.le_refl _⟩
  · have hlen : (zs.take len).length = len := by rw [List.length_take]; omega
    refine ⟨⟨hlen.symm, hs, fun i hi => ?_⟩, fun i hi => ?_, h1⟩
    · have hi2 : i < zs.length := by omega
      have e : (zs.take len)[i] = zs[i] := by simp
      rw [e]
      obtain ⟨c0, c1, c2, c3, _⟩ := h4 i hi2
      obtain ⟨b, off, spot⟩ := x
      have hsp : spot = none := by simpa [Addr.add] using World.cell?_spot (h4 0 (by omega)).1
      subst hsp
      rw [Addr.add_lit] at c0 c1 c2 c3
      exact ⟨b, off, rfl, c0, by rw [Nat.add_assoc]; exact c1, by rw [Nat.add_assoc]; exact c2, by rw [Nat.add_assoc]; exact c3⟩
    · have hi2 : i < zs.length := by omega
      have e : (zs.take len)[i] = zs[i] := by simp
      rw [e]
      exact ⟨(h4 i hi2).2.2.2.2.1, (h4 i hi2).2.2.2.2.2.1⟩

theorem OwnS.cap {w : World} {lo : Nat} {ao : Option Addr} {n c : Nat} {l : List Stn} (h : OwnS w lo ao n c l) : n ≤ c := by
  rcases h.2.2.2 with ⟨h1, h2⟩ | ⟨g, cap, cur, hv, _, _, hc, _⟩
  · cases h1; exact Nat.le_refl _
  · cases hv; exact hc

set_option maxHeartbeats 800000 in
theorem szStationS_long {ao : Option Addr} {n c : Nat} {w : World} (left : Int) (h0 : 0 ≤ left) (h1 : left < (n : Int)) (h2 : n ≤ maxLen) :
    Calls Tryd.prog 6 #[.slice ao n c, .int .i64 left] w fun e w' => e = .returned (.int .i64 (-1)) ∧ w = w' := by
  unfold maxLen at h2
  have h3 : left - (n : Int) < 0 := by omega
  go_enter Tryd.func6, Tryd.ntmps6
  go_wp2
  go_ret
  exact ⟨rfl, rfl⟩

end Go.Proofs.YtighlblbjbkjiaaDoor
