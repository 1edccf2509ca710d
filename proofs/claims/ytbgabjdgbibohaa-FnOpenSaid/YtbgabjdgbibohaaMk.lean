/- Marks: the laws' own texts of numbers (markText), and what markStationS writes and heldStationS reads. No condition beyond lengths. -/
import Derived.Test.YtbgabjdgbibohaaG
import Derived.Test.YtbgabjdgbibohaaCl
import Derived.Deep.RegionHeld3
import Derived.IntWalk
namespace Go.Proofs.Ytbgabjdgbibohaa
open Go.RowKit

def decR (k : Nat) (acc : List UInt8) : List UInt8 := if h : k = 0 then acc else decR (k / 10) (UInt8.ofNat (48 + k % 10) :: acc)
termination_by k
decreasing_by omega
theorem decR_zero (acc : List UInt8) : decR 0 acc = acc := by unfold decR; simp
theorem decR_pos {k : Nat} (h : 0 < k) (acc : List UInt8) : decR k acc = decR (k / 10) (UInt8.ofNat (48 + k % 10) :: acc) := by
  rw [decR]; simp [show k ≠ 0 by omega]
def mtx (k : Int) : ByteArray := if k ≤ 0 then ⟨#[109, 48]⟩ else ⟨#[109]⟩ ++ ⟨(decR k.toNat []).toArray⟩
theorem mtx_zero {k : Int} (h : k ≤ 0) : mtx k = ⟨#[109, 48]⟩ := by simp [mtx, h]
theorem mtx_pos {k : Int} (h : 0 < k) : mtx k = ⟨#[109]⟩ ++ ⟨(decR k.toNat []).toArray⟩ := by unfold mtx; rw [if_neg (by omega)]
theorem text_cons (v : Int) (s : ByteArray) : (text [v] ++ s).data.toList = UInt8.ofNat v.toNat :: s.data.toList := by simp [text, ByteArray.data_append]
theorem ret_s {a b : ByteArray} (h : a = b) : Ending.returned (.string a) = .returned (.string b) := by rw [h]
theorem text_one_size (v : Int) : (text [v]).size = 1 := text_size _


def markS (k : Int) (i : Nat) : Stn := ⟨mtx (k + 4 * i), mtx (k + 4 * i + 1), k + 4 * i + 1 + 1, k + 4 * i + 1 + 1 + 1⟩
def marksS (k : Int) (n : Nat) : List Stn := (List.range n).map (markS k)
theorem marksS_length (k : Int) (n : Nat) : (marksS k n).length = n := by simp [marksS]
theorem marksS_get (k : Int) (n i : Nat) (h : i < n) : (marksS k n)[i]'(by rw [marksS_length]; exact h) = markS k i := by simp [marksS]

theorem cellsS_set4 {l : List Stn} {k : Nat} (a b : ByteArray) (x y : Int) (hk : k < l.length) : ((((cellsS l).set (k * 4) (.string a)).set (k * 4 + 1) (.string b)).set (k * 4 + 2) (.int .i64 x)).set (k * 4 + 3) (.int .i64 y) = cellsS (l.set k ⟨a, b, x, y⟩) := cellsS_set ⟨a, b, x, y⟩ hk
theorem Wr.step {ao : Option Addr} {w w1 w2 : World} (h : Wr ao w w1) (hb : Below w1.heap.size w1 w2) : Wr ao w w2 :=
  ⟨hb.os.trans h.os, hb.tape.trans h.tape, hb.output.trans h.output, Nat.le_trans h.size hb.size, fun j hj hne => (hb.block j (Nat.lt_of_lt_of_le hj h.size)).trans (h.block j hj hne)⟩
theorem Wr.set {b : Nat} {w w1 : World} (h : Wr (some ⟨b, 0, none⟩) w w1) (i : Nat) (u : Value) : Wr (some ⟨b, 0, none⟩) w (w1.setCell ⟨b, i, none⟩ u) :=
  ⟨h.os, h.tape, h.output, by simpa [World.setCell] using h.size, fun j hj hne => (Below.heap_setCell _ _ _ _ (by rintro rfl; exact hne rfl)).trans (h.block j hj hne)⟩
theorem ownRow_at {w : World} {lo g n c size : Nat} {t : TypeId} {xs : List Value} {u : Value} {j : Nat} (h : w.ownsRow lo t size (.slice (some ⟨g, 0, none⟩) n c) n xs) (hj : xs[j]? = some u) : w.cell? ⟨g, j, none⟩ = some u := by
  have hl : j < xs.length := (List.getElem?_eq_some_iff.1 hj).1
  rw [h.cellAt j (by rw [← h.1]; exact hl)]; exact hj

end Go.Proofs.Ytbgabjdgbibohaa
