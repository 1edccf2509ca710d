/- How many paths are free (FreePaths). No condition beyond lengths. -/
import Derived.Test.YtklbdkbaldkkpaaLs
import Derived.Test.YtklbdkbaldkkpaaAn
namespace Go.Proofs.Ytklbdkbaldkkpaa
open Go.RowKit

def freeN (u : List ByteArray) (d : Int) : Int := if inB d 0 6 = true then ((freeL u d.toNat (2 ^ d.toNat)).length : Int) else -1
theorem freeN_no {u : List ByteArray} {d : Int} (h : inB d 0 6 = false) : freeN u d = -1 := by unfold freeN; rw [h]; rfl
theorem freeN_yes {u : List ByteArray} {d : Nat} (h : d ≤ 6) : freeN u (d : Int) = ((freeL u d (2 ^ d)).length : Int) := by
  unfold freeN; rw [inB_true (by omega) (by omega)]; rfl
theorem allocR_pos (u : List ByteArray) (d : Int) : (allocR u d).isSome = decide (0 < freeN u d) := by
  unfold allocR freeN
  split
  · cases freeL u d.toNat (2 ^ d.toNat) with
    | nil => rfl
    | cons x L => simp
  · rfl
/-- Whether a name is among the first k stations'. -/
def nameIn (l : List Stn) (nm : ByteArray) (k : Nat) : Bool := (l.take k).any fun s => s.nm.toList == nm.toList
theorem nameIn_succ {l : List Stn} {nm : ByteArray} {k : Nat} (h : k < l.length) : nameIn l nm (k + 1) = (nameIn l nm k || (l[k].nm.toList == nm.toList)) := by
  unfold nameIn; rw [List.take_succ_eq_append_getElem h, List.any_append]; simp
theorem nameIn_idx {l : List Stn} {nm : ByteArray} {k : Nat} (h : l.length ≤ k) : decide (idxS l nm < 0) = !nameIn l nm k := by
  unfold nameIn; rw [List.take_of_length_le h, Bool.eq_iff_iff]
  simp only [decide_eq_true_eq, Bool.not_eq_true', List.any_eq_false]
  rw [idxS_neg]
  constructor
  · intro h s hs; rw [h s hs]; simp
  · intro h s hs; simpa using h s hs

set_option maxHeartbeats 800000 in
theorem FreePaths_c {ao : Option Addr} {n c : Nat} {u : List ByteArray} {w : World} (d : Int) (h : RdT w ao n u) (hp : ∀ q ∈ u, pathB q = true) (hlen : n ≤ 70) :
    Calls Try.prog 38 #[.slice ao n c, .int .i64 d] w fun e w' => e = .returned (.int .i64 (freeN u d)) ∧ Below w.heap.size w w' := by
  by_cases hd : inB d 0 6 = true
  · have hd' := inB_iff.1 hd
    obtain ⟨D, rfl⟩ := Int.eq_ofNat_of_zero_le hd'.1
    have hD : D ≤ 6 := by omega
    have HR := Lib.hid (freeN_yes (u := u) hD)
    clear hd hd'
    go_enter Try.func38, Try.ntmps38
    go_wp2_with fail
    refine (freePaths_c D h hD hp hlen).mono ?_; rintro e w2 ⟨bo, m, cc, rfl, ho, hb⟩
    have HM := Lib.hid ho.1
    clear h hp ho
    go_wp2_with fail
    go_ret
    exact ⟨ret_i (by rw [HR.out, HM.out]), hb⟩
  · have hd' : inB d 0 6 = false := by simpa using hd
    have HR := Lib.hid (freeN_no (u := u) hd')
    clear hd
    go_enter Try.func38, Try.ntmps38
    go_wp2_with fail
    refine (freePaths_no d hd' hlen).mono ?_; rintro e w' ⟨rfl, rfl⟩
    clear hd' h
    go_wp2_with fail
    go_ret
    exact ⟨ret_i HR.out.symm, Below.refl _ _⟩

end Go.Proofs.Ytklbdkbaldkkpaa
