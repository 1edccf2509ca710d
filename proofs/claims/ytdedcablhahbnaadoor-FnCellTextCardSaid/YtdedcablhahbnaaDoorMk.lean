/- Marks: the laws' own texts of numbers (markText), and what markStationS writes and heldStationS reads. No condition beyond lengths. -/
import Derived.Test.YtdedcablhahbnaaDoorG
import Derived.Test.YtdedcablhahbnaaDoorCl
import Derived.Deep.RegionHeld3
import Derived.IntWalk
namespace Go.Proofs.YtdedcablhahbnaaDoor
open Go.RowKit

def decR (k : Nat) (acc : List UInt8) : List UInt8 := if h : k = 0 then acc else decR (k / 10) (UInt8.ofNat (48 + k % 10) :: acc)
termination_by k
decreasing_by omega
theorem decR_zero (acc : List UInt8) : decR 0 acc = acc := by unfold decR; simp
theorem decR_pos {k : Nat} (h : 0 < k) (acc : List UInt8) : decR k acc = decR (k / 10) (UInt8.ofNat (48 + k % 10) :: acc) := by
  rw [decR]; simp [show k ≠ 0 by omega]
def mtx (k : Int) : ByteArray := if k ≤ 0 then ⟨#[109, 48]⟩ else ⟨#[109]⟩ ++ ⟨(decR k.toNat []).toArray⟩
theorem mtx_zero {k : Int} (h : k ≤ 0) : mtx k = ⟨#[109, 48]⟩ := by simp [mtx, h]
theorem mtx_pos {k : Int} (h : 0 < k) : mtx k = ⟨#[109]⟩ ++ ⟨(decR k.toNat []).toArray⟩ := by unfold mtx; rw [if_neg (by omega)]
theorem text_cons (v : Int) (s : ByteArray) : (text [v] ++ s).data.toList = UInt8.ofNat v.toNat :: s.data.toList := by simp [text, ByteArray.data_append]
theorem ret_s {a b : ByteArray} (h : a = b) : Ending.returned (.string a) = .returned (.string b) := by rw [h]
theorem text_one_size (v : Int) : (text [v]).size = 1 := text_size _


def markS (k : Int) (i : Nat) : Stn := ⟨mtx (k + 4 * i), mtx (k + 4 * i + 1), k + 4 * i + 1 + 1, k + 4 * i + 1 + 1 + 1⟩
def marksS (k : Int) (n : Nat) : List Stn := (List.range n).map (markS k)
theorem marksS_length (k : Int) (n : Nat) : (marksS k n).length = n := by simp [marksS]
theorem marksS_get (k : Int) (n i : Nat) (h : i < n) : (marksS k n)[i]'(by rw [marksS_length]; exact h) = markS k i := by simp [marksS]

theorem cellsS_set4 {l : List Stn} {k : Nat} (a b : ByteArray) (x y : Int) (hk : k < l.length) : ((((cellsS l).set (k * 4) (.string a)).set (k * 4 + 1) (.string b)).set (k * 4 + 2) (.int .i64 x)).set (k * 4 + 3) (.int .i64 y) = cellsS (l.set k ⟨a, b, x, y⟩) := cellsS_set ⟨a, b, x, y⟩ hk
theorem Wr.step {ao : Option Addr} {w w1 w2 : World} (h : Wr ao w w1) (hb : Below w1.heap.size w1 w2) : Wr ao w w2 :=
  ⟨hb.os.trans h.os, hb.tape.trans h.tape, hb.output.trans h.output, Nat.le_trans h.size hb.size, fun j hj hne => (hb.block j (Nat.lt_of_lt_of_le hj h.size)).trans (h.block j hj hne)⟩
theorem Wr.set {b : Nat} {w w1 : World} (h : Wr (some ⟨b, 0, none⟩) w w1) (i : Nat) (u : Value) : Wr (some ⟨b, 0, none⟩) w (w1.setCell ⟨b, i, none⟩ u) :=
  ⟨h.os, h.tape, h.output, by simpa [World.setCell] using h.size, fun j hj hne => (Below.heap_setCell _ _ _ _ (by rintro rfl; exact hne rfl)).trans (h.block j hj hne)⟩
theorem ownRow_at {w : World} {lo g n c size : Nat} {t : TypeId} {xs : List Value} {u : Value} {j : Nat} (h : w.ownsRow lo t size (.slice (some ⟨g, 0, none⟩) n c) n xs) (hj : xs[j]? = some u) : w.cell? ⟨g, j, none⟩ = some u := by
  have hl : j < xs.length := (List.getElem?_eq_some_iff.1 hj).1
  rw [h.cellAt j (by rw [← h.1]; exact hl)]; exact hj



theorem Wr.belowS {w w' : World} {bo : Option Addr} {m d lo' : Nat} {r : List Stn} (h : Wr bo w w') (ho : OwnS w lo' bo m d r) (hlo : lo' ≤ w.heap.size) : Below lo' w w' := by
  refine ⟨h.os, h.tape, h.output, h.size, fun k hk => h.block k (by omega) fun e => ?_⟩
  have h2 := ho.2.2.lt k (by rw [ownBlock_slice]; exact e.symm)
  omega
theorem RdS.wr {w w' : World} {ao bo : Option Addr} {n m d lo' : Nat} {l r : List Stn} (h : RdS w ao n l) (ho : OwnS w lo' bo m d r) (hw : Wr bo w w') (hlt : ∀ a, ao = some a → 0 < n → a.block < lo') : RdS w' ao n l := by
  refine ⟨h.1, h.2.1, fun i hi => ?_⟩
  obtain ⟨b, off, h1, c0, c1, c2, c3⟩ := h.2.2 i hi
  have h3 : b < lo' := hlt _ h1 (by have := h.1; omega)
  have h6 : some b ≠ bo.map (·.block) := fun e => by
    have h4 := ho.2.2.lt b (by rw [ownBlock_slice]; exact e.symm)
    omega
  have hb := hw.block b (lt_of_cell c0) h6
  exact ⟨b, off, h1, by rw [World.cell?_of_block (w := w) hb]; exact c0, by rw [World.cell?_of_block (w := w) hb]; exact c1, by rw [World.cell?_of_block (w := w) hb]; exact c2, by rw [World.cell?_of_block (w := w) hb]; exact c3⟩
theorem OwnS.wr {w w' : World} {ao bo : Option Addr} {n c lo : Nat} {l : List Stn} (h : OwnS w lo ao n c l) (hw : Wr bo w w') (hne : ∀ a b, ao = some a → bo = some b → a.block ≠ b.block) : OwnS w' lo ao n c l := by
  refine ⟨h.1, h.2.1, h.2.2.kept hw ?_⟩
  rw [ownBlock_slice]
  cases ao with
  | none => exact .inl rfl
  | some a =>
    right
    cases bo with
    | none => simp
    | some b =>
      have := hne a b rfl rfl
      simpa using this
theorem OwnS.wrOld {w w' : World} {ao bo : Option Addr} {n c lo m d lo' : Nat} {l r : List Stn} (h : OwnS w lo ao n c l) (_ho : OwnS w lo' bo m d r) (hw : Wr bo w w') (hlt : ∀ b, bo = some b → b.block < lo) : OwnS w' lo ao n c l :=
  h.wr hw fun a b ea eb => by have h1 := hlt b eb; have h2 := h.lt a ea; omega
theorem OwnS.wrNew {w w' : World} {ao bo : Option Addr} {n c lo m d lo' : Nat} {l r : List Stn} (h : OwnS w lo ao n c l) (ho : OwnS w lo' bo m d r) (hw : Wr bo w w') (hlt : ∀ a, ao = some a → a.block < lo') : OwnS w' lo ao n c l :=
  h.wr hw fun a b ea eb => by have h1 := hlt a ea; have h2 := ho.lt b eb; omega

end Go.Proofs.YtdedcablhahbnaaDoor
