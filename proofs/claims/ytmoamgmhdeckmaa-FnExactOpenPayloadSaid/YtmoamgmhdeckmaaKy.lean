/- Plain: what a decoded block is as a row of bytes. -/
import Derived.Test.YtmoamgmhdeckmaaKw
namespace Go.Proofs.Ytmoamgmhdeckmaa
open Go.RowKit

theorem codes_ap (a b : ByteArray) : codes (a ++ b) = codes a ++ codes b := by unfold codes; rw [ap_list, List.map_append]
theorem codes_ex (s : ByteArray) (a b : Nat) : codes (s.extract a b) = ((codes s).drop a).take (b - a) := by unfold codes; rw [ex_list, List.map_take, List.map_drop]
/-- The block with bit q changed. -/
theorem codes_flip {X : ByteArray} {q : Nat} (hq : q < X.size) (hb : allS bitC X = true) : codes (flipT X q) = (codes X).set q (97 - (codes X)[q]'(by rw [codes_length]; exact hq)) := by
  have hl : q < (codes X).length := by rw [codes_length]; exact hq
  unfold flipT
  rw [codes_ap, codes_ap, codes_inv (allS_ex q (q + 1) hb), codes_ex, codes_ex, codes_ex, List.set_eq_take_append_cons_drop, if_pos hl]
  rw [List.drop_zero, Nat.sub_zero, Nat.add_sub_cancel_left, List.drop_eq_getElem_cons hl]
  rw [List.take_of_length_le (l := (codes X).drop (q + 1)) (by rw [List.length_drop, codes_length]; exact Nat.le_refl _)]
  simp [invL]
  have hl2 : q < ((codes X).map fun x => 97 - x).length := by rw [List.length_map]; exact hl
  rw [List.drop_eq_getElem_cons hl2, List.getElem_map]; rfl
/-- The four data bits of a block. -/
theorem codes_dec {Y : ByteArray} (hz : Y.size = 7) (h2 : 2 < (codes Y).length) (h4 : 4 < (codes Y).length) (h5 : 5 < (codes Y).length) (h6 : 6 < (codes Y).length) :
    codes (Y.extract 2 3 ++ Y.extract 4 7) = [(codes Y)[2], (codes Y)[4], (codes Y)[5], (codes Y)[6]] := by
  have hl : (codes Y).length = 7 := by rw [codes_length]; exact hz
  rw [codes_ap, codes_ex, codes_ex]
  generalize codes Y = L at *
  match L, hl with
  | [a, b, c, d, e, f, g], _ => rfl

end Go.Proofs.Ytmoamgmhdeckmaa
