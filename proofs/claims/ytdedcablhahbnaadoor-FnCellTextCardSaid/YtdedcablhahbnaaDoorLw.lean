/- What the laws' own helpers do: membership (ssHas), equality of lists (ssInts), and the bytes of a law's argument. No condition beyond lengths. -/
import Derived.Test.YtdedcablhahbnaaDoorDx
namespace Go.Proofs.YtdedcablhahbnaaDoor
open Go.RowKit

theorem codeW_of_row {w : World} {a : Option Addr} {len cap : Nat} {zs : List Int}
    (h : (a = none ∧ len = 0 ∧ cap = 0 ∧ zs = []) ∨ ∃ x, a = some x ∧ len ≤ cap ∧ cap ≤ maxLen ∧ zs.length = cap ∧ (∀ i, i < zs.length → w.cell? (x.add i) = some (.int .u8 (zs.getD i 0))) ∧ ∀ n ∈ zs, (Lit.int .u8 n).wf = true)
    (hs : len ≤ 1099511627776) : CodeW w a len cap := by
  rcases h with ⟨rfl, rfl, rfl, rfl⟩ | ⟨x, rfl, h1, h2, h3, h4, h5⟩
  · exact ⟨[], RdF.nil _ w, Nat.le_refl _, fun x hx => by simp at hx⟩
  · refine ⟨zs.take len, ⟨by rw [List.length_take]; omega, hs, fun i hi => ?_⟩, h1, fun x hx => ?_⟩
    · have hi2 : i < len := by rw [List.length_take] at hi; omega
      obtain ⟨b, off, spot⟩ := x
      have hc0 := h4 0 (by omega)
      have hsp : spot = none := by simpa [Addr.add] using World.cell?_spot hc0
      subst hsp
      refine ⟨b, off, rfl, ?_⟩
      have e : (zs.take len)[i] = zs.getD i 0 := by simp [List.getD, show i < zs.length by omega]
      rw [e, ← h4 i (by omega), Addr.add_lit]
    · have := h5 x (List.mem_of_mem_take hx)
      simp only [Lit.wf, Bool.and_eq_true, decide_eq_true_eq] at this
      have e1 : IntKind.u8.min = 0 := by decide
      have e2 : IntKind.u8.max = 255 := by decide
      omega

def sameB (l r : List Int) : Bool := decide (l = r)
theorem sameB_self (l : List Int) : sameB l l = true := by simp [sameB]
theorem sameB_len {l r : List Int} (h : l.length ≠ r.length) : sameB l r = false := by
  unfold sameB; rw [decide_eq_false_iff_not]; intro e; exact h (by rw [e])
theorem sameB_at {l r : List Int} {k : Nat} (hl : k < l.length) (hr : k < r.length) (h : l[k] ≠ r[k]) : sameB l r = false := by
  unfold sameB; rw [decide_eq_false_iff_not]; intro e; subst e; exact h rfl
theorem sameB_all {l r : List Int} (hn : l.length = r.length) (h : ∀ i (hl : i < l.length) (hr : i < r.length), l[i] = r[i]) : sameB l r = true := by
  unfold sameB; rw [decide_eq_true_eq]; exact List.ext_getElem hn h

end Go.Proofs.YtdedcablhahbnaaDoor
