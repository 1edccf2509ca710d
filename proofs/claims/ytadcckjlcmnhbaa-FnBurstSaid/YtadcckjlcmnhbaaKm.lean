/- MajorityBits of the program and of the reference. No condition beyond lengths. -/
import Derived.Test.YtadcckjlcmnhbaaKl
import Derived.Test.YtadcckjlcmnhbaaTb
namespace Go.Proofs.Ytadcckjlcmnhbaa
open Go.RowKit

theorem set_take {r L : List Int} {k : Nat} (hk : k < L.length) (h : r.length = L.length) : (L.take k ++ r.drop k).set k L[k] = L.take (k + 1) ++ r.drop (k + 1) := by
  have h1 : (L.take k).length = k := by rw [List.length_take]; omega
  rw [List.set_append_right _ _ (by omega), h1, Nat.sub_self, List.drop_eq_getElem_cons (show k < r.length by omega), List.set_cons_zero, List.take_succ_eq_append_getElem hk, List.append_assoc]
  rfl
theorem wr_nat {q : Nat} {x : Int} (h : x = (q : Int)) (hq : q ≤ 100000) : IntKind.i64.wrap x = (q : Int) := by rw [h]; exact IntWalk.i64_in _ (by omega)
theorem wr64_nat {q : Nat} {x : Int} (h : x = (q : Int)) (hq : q ≤ 100000) : wrap64 x = (q : Int) := by rw [h]; exact IntWalk.wrap64_in _ (by omega)
theorem cntO_sub (s : ByteArray) (a k : Nat) : cntO (s.extract a (a + k)) 0 k = cntO s a k := by
  unfold cntO; rw [ex_list, Nat.add_sub_cancel_left, List.drop_zero, List.take_take, Nat.min_self]
theorem text_snoc {L : List Int} {k : Nat} (h : k < L.length) (c : UInt8) (hc : UInt8.ofNat (L[k]).toNat = c) : text (L.take k) ++ ⟨#[c]⟩ = text (L.take (k + 1)) := by
  rw [List.take_succ_eq_append_getElem h, ← text_add]
  congr 1
  show _ = (⟨([UInt8.ofNat (L[k]).toNat]).toArray⟩ : ByteArray)
  rw [hc]

end Go.Proofs.Ytadcckjlcmnhbaa
