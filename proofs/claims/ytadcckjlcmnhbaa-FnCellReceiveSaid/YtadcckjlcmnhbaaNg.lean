/- What the laws' own helpers on slices of texts do: szStringS, toStringS, eqStringS. No condition beyond a length of at most 2 to the 40. -/
import Derived.Test.YtadcckjlcmnhbaaG
import Derived.Test.YtadcckjlcmnhbaaMk
namespace Go.Proofs.Ytadcckjlcmnhbaa
open Go.RowKit

/-- A slice of texts that the call made. -/
def RetTexts (w : World) (l : List ByteArray) (e : Ending) (w' : World) : Prop :=
  ∃ ao n c, e = .returned (.slice ao n c) ∧ OwnT w' w.heap.size ao n c l ∧ Below w.heap.size w w'





theorem block_off {w w' : World} {b : Nat} {bo : Option Addr} (hw : Wr bo w w') (hb : b < w.heap.size) (hne : ∀ x, bo = some x → b ≠ x.block) : w'.heap[b]? = w.heap[b]? := by
  apply hw.block b hb
  intro e
  cases bo with
  | none => simp at e
  | some x => exact hne x rfl (by simpa using e)
theorem cell_off {w w' : World} {b o : Nat} {v : Value} {bo : Option Addr} (hw : Wr bo w w') (hne : ∀ x, bo = some x → b ≠ x.block) (h : w.cell? ⟨b, o, none⟩ = some v) : w'.cell? ⟨b, o, none⟩ = some v := by
  rw [World.cell?_of_block (w := w) (block_off hw (lt_of_cell h) hne)]
  exact h
theorem Rd.off {w w' : World} {ao bo : Option Addr} {n : Nat} {l : List Int} (h : Rd w ao n l) (hw : Wr bo w w') (hne : ∀ a b, ao = some a → 0 < n → bo = some b → a.block ≠ b.block) : Rd w' ao n l := by
  refine ⟨h.1, h.2.1, fun i hi => ?_⟩
  obtain ⟨b, off, h1, h2⟩ := h.2.2 i hi
  exact ⟨b, off, h1, cell_off hw (fun x hx => hne _ x h1 (by omega) hx) h2⟩
theorem RdF.off {α : Type} {f : α → Value} {w w' : World} {ao bo : Option Addr} {n : Nat} {l : List α} (h : RdF f w ao n l) (hw : Wr bo w w') (hne : ∀ a b, ao = some a → 0 < n → bo = some b → a.block ≠ b.block) : RdF f w' ao n l := by
  refine ⟨h.1, h.2.1, fun i hi => ?_⟩
  obtain ⟨b, off, h1, h2⟩ := h.2.2 i hi
  exact ⟨b, off, h1, cell_off hw (fun x hx => hne _ x h1 (by have := h.1; omega) hx) h2⟩
theorem RdS.off {w w' : World} {ao bo : Option Addr} {n : Nat} {l : List Stn} (h : RdS w ao n l) (hw : Wr bo w w') (hne : ∀ a b, ao = some a → 0 < n → bo = some b → a.block ≠ b.block) : RdS w' ao n l := by
  refine ⟨h.1, h.2.1, fun i hi => ?_⟩
  obtain ⟨b, off, h1, h2, h3, h4, h5⟩ := h.2.2 i hi
  have hx : ∀ x, bo = some x → b ≠ x.block := fun x hx => hne _ x h1 (by have := h.1; omega) hx
  exact ⟨b, off, h1, cell_off hw hx h2, cell_off hw hx h3, cell_off hw hx h4, cell_off hw hx h5⟩
theorem row_off {w w' : World} {lo n c size : Nat} {t : TypeId} {ao bo : Option Addr} {xs : List Value} (h : w.ownsRow lo t size (.slice ao n c) n xs) (hw : Wr bo w w') (hne : ∀ a b, ao = some a → bo = some b → a.block ≠ b.block) : w'.ownsRow lo t size (.slice ao n c) n xs := by
  refine h.kept hw ?_
  rw [ownBlock_slice]
  cases ao with
  | none => exact .inl rfl
  | some a =>
    right
    cases bo with
    | none => simp
    | some b =>
      have := hne a b rfl rfl
      simpa using this
theorem Own.off {w w' : World} {ao bo : Option Addr} {n c lo : Nat} {l : List Int} (h : Own w lo ao n c l) (hw : Wr bo w w') (hne : ∀ a b, ao = some a → bo = some b → a.block ≠ b.block) : Own w' lo ao n c l := ⟨h.1, h.2.1, row_off h.2.2 hw hne⟩
theorem OwnF.off {α : Type} {f : α → Value} {t : TypeId} {w w' : World} {ao bo : Option Addr} {n c lo : Nat} {l : List α} (h : OwnF f t w lo ao n c l) (hw : Wr bo w w') (hne : ∀ a b, ao = some a → bo = some b → a.block ≠ b.block) : OwnF f t w' lo ao n c l := ⟨h.1, h.2.1, row_off h.2.2 hw hne⟩
theorem OwnS.off {w w' : World} {ao bo : Option Addr} {n c lo : Nat} {l : List Stn} (h : OwnS w lo ao n c l) (hw : Wr bo w w') (hne : ∀ a b, ao = some a → bo = some b → a.block ≠ b.block) : OwnS w' lo ao n c l := ⟨h.1, h.2.1, row_off h.2.2 hw hne⟩
theorem Wr.low {w w' : World} {bo : Option Addr} {lo s : Nat} (h : Wr bo w w') (hx : ∀ b, bo = some b → lo ≤ b.block ∧ b.block < s) (hlo : lo ≤ w.heap.size) : Below lo w w' :=
  ⟨h.os, h.tape, h.output, h.size, fun k hk => block_off h (by omega) fun x e => by have := (hx x e).1; omega⟩

end Go.Proofs.Ytadcckjlcmnhbaa
