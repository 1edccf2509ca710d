/- The remainder between 0 and n - 1 (modulo, l2Mod), MoveHops of the program and of the reference. No condition. -/
import Derived.Test.YtdedcablhahbnaaDoorHl
namespace Go.Proofs.YtdedcablhahbnaaDoor
open Go.RowKit

theorem tmod_fix (k n : Int) (hn : 0 < n) : (if k.tmod n < 0 then k.tmod n + n else k.tmod n) = k % n := by
  rcases Int.lt_or_le k 0 with h | h
  · obtain ⟨j, rfl⟩ : ∃ j : Int, k = -j := ⟨-k, by omega⟩
    have hj : 0 < j := by omega
    rw [Int.neg_tmod, Int.tmod_eq_emod_of_nonneg (by omega)]
    have h1 := Int.emod_nonneg j (show n ≠ 0 by omega)
    have h2 := Int.emod_lt_of_pos j hn
    have h3 := Int.emod_nonneg (-j) (show n ≠ 0 by omega)
    have h4 := Int.emod_lt_of_pos (-j) hn
    have h5 := Int.mul_ediv_add_emod j n
    have h6 := Int.mul_ediv_add_emod (-j) n
    have h7 : n * (j / n + (-j) / n) = -(j % n + (-j) % n) := by rw [Int.mul_add]; omega
    rcases Int.lt_or_le 0 (j % n) with h8 | h8
    · rw [if_pos (by omega)]
      have hq : j / n + (-j) / n = -1 := by
        rcases Int.lt_trichotomy (j / n + (-j) / n) (-1) with h9 | h9 | h9
        · have : n * (j / n + (-j) / n) ≤ n * (-2) := Int.mul_le_mul_of_nonneg_left (by omega) (by omega)
          omega
        · exact h9
        · have : n * 0 ≤ n * (j / n + (-j) / n) := Int.mul_le_mul_of_nonneg_left (by omega) (by omega)
          omega
      rw [hq] at h7
      omega
    · rw [if_neg (by omega)]
      have hq : j / n + (-j) / n = 0 := by
        rcases Int.lt_trichotomy (j / n + (-j) / n) 0 with h9 | h9 | h9
        · have : n * (j / n + (-j) / n) ≤ n * (-1) := Int.mul_le_mul_of_nonneg_left (by omega) (by omega)
          omega
        · exact h9
        · have : n * 1 ≤ n * (j / n + (-j) / n) := Int.mul_le_mul_of_nonneg_left (by omega) (by omega)
          omega
      rw [hq] at h7
      omega
  · rw [Int.tmod_eq_emod_of_nonneg h, if_neg (by have := Int.emod_nonneg k (show n ≠ 0 by omega); omega)]

theorem tmod_bd (k n : Int) (hn : 0 < n) : -n < k.tmod n ∧ k.tmod n < n := ⟨Int.lt_tmod_of_pos k hn, Int.tmod_lt_of_pos k hn⟩

theorem tmod_fix2 (k n : Int) (hn : 0 < n) : (k.tmod n + n).tmod n = k % n := by
  have h := tmod_fix k n hn
  have hb := tmod_bd k n hn
  have h1 := Int.emod_nonneg k (show n ≠ 0 by omega)
  have h2 := Int.emod_lt_of_pos k hn
  rw [Int.tmod_eq_emod_of_nonneg (by omega), Int.add_emod_right]
  by_cases h3 : k.tmod n < 0
  · rw [if_pos h3] at h
    rw [← h, ← Int.add_emod_right, Int.emod_eq_of_lt (by rw [h]; exact h1) (by rw [h]; exact h2)]
  · rw [if_neg h3] at h
    rw [h, Int.emod_eq_of_lt h1 h2]




def movOk (l : List Int) (ch d : Int) : Bool := hopsB l ch && inB d (-16) 16
def movHops (l : List Int) (ch d : Int) : Option (List Int) := if movOk l ch d = true then some (l.map fun x => (x + d) % ch) else none
theorem movHops_no {l : List Int} {ch d : Int} (h : movOk l ch d = false) : movHops l ch d = none := by simp [movHops, h]
theorem movHops_yes {l : List Int} {ch d : Int} (h : movOk l ch d = true) : movHops l ch d = some (l.map fun x => (x + d) % ch) := by simp [movHops, h]
theorem map_take_succ {f : Int → Int} {l : List Int} {k : Nat} (hk : k < l.length) : (l.take (k + 1)).map f = (l.take k).map f ++ [f l[k]] := by
  rw [List.take_succ_eq_append_getElem hk, List.map_append]; rfl

end Go.Proofs.YtdedcablhahbnaaDoor
