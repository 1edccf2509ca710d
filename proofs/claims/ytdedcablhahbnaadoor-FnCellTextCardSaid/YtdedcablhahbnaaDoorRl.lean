/- PowerStep of the reference; ReleaseStation of the program and of the reference. No condition beyond lengths. -/
import Derived.Test.YtdedcablhahbnaaDoorPs
import Derived.Deep.RegionLaw
import Derived.Outline
namespace Go.Proofs.YtdedcablhahbnaaDoor
open Go.RowKit

theorem cellsS_setG {l : List Stn} {k : Nat} (hk : k < l.length) (y : Int) : (cellsS l).set (k * 4 + 2) (.int .i64 y) = cellsS (l.set k ⟨l[k].nm, l[k].ph, y, l[k].l⟩) := by
  apply List.ext_getElem?
  intro j
  obtain ⟨i, r, hr, rfl⟩ : ∃ i r, r < 4 ∧ j = i * 4 + r := ⟨j / 4, j % 4, Nat.mod_lt _ (by omega), by omega⟩
  rw [cellsS_get _ _ _ hr, List.getElem?_set, cellsS_get _ _ _ hr]
  simp only [cellsS_len, List.getElem?_set]
  by_cases h : k = i
  · subst h
    rw [if_pos rfl, if_pos hk]
    rcases (by omega : r = 0 ∨ r = 1 ∨ r = 2 ∨ r = 3) with rfl | rfl | rfl | rfl
    · rw [if_neg (by omega)]; simp [hk, Stn.vals]
    · rw [if_neg (by omega)]; simp [hk, Stn.vals]
    · rw [if_pos (by omega), if_pos (by omega)]; rfl
    · rw [if_neg (by omega)]; simp [hk, Stn.vals]
  · rw [if_neg h, if_neg (by omega)]
theorem mid_get {α : Type} {L l : List α} {k : Nat} (hk : k < l.length) (hL : L.length = l.length) (h : k < (L.take k ++ l.drop k).length) : (L.take k ++ l.drop k)[k] = l[k] := by
  rw [List.getElem_append_right (by rw [List.length_take]; omega)]
  simp [List.length_take, show min k L.length = k by omega]


set_option maxHeartbeats 1600000 in
theorem l8Index_c {ao : Option Addr} {n c : Nat} {l : List Stn} {w : World} (nm : ByteArray) (h : RdS w ao n l) :
    Calls Tryd.prog 59 #[.slice ao n c, .string nm] w fun e w' => e = .returned (.int .i64 (idxS l nm)) ∧ w = w' := by
  have hs := h.2.1
  have HN := Lib.hid h.1
  go_enter Tryd.func59, Tryd.ntmps59
  go_wp2
  go_loop [5] (fun i => ∃ k : Nat, k ≤ n ∧ i = .int .i64 k ∧ (∀ j (_ : j < k) (hj : j < l.length), (l[j].nm.toList == nm.toList) = false)) (fun i => n - (intOf i).toNat)
  case atStart => exact ⟨0, Nat.zero_le _, rfl, fun j hj => absurd hj (by omega)⟩
  case round =>
    obtain ⟨k, hk, rfl, hno⟩ := hrel
    have HO := Lib.hid hno; clear hno
    by_cases hlt : k < n
    · obtain ⟨bk, off, rfl, hl, hc0, hc1, hc2, hc3⟩ := h.at hlt
      clear h
      by_cases h3 : (l[k].nm.toList == nm.toList) = true
      · have hr := Lib.hid (idxS_at hl (fun j hj => HO.out j hj (by omega)) h3)
        go_wp2_with fail
        go_ret
        exact ⟨ret_i hr.out.symm, rfl⟩
      · have h3' : (l[k].nm.toList == nm.toList) = false := by simpa using h3
        clear h3
        go_wp2_with fail
        go_round
        case rel =>
          refine ⟨k + 1, by omega, by go_num, fun j hj hj2 => ?_⟩
          rcases Nat.lt_succ_iff_lt_or_eq.1 hj with hj | rfl
          · exact HO.out j hj hj2
          · exact h3'
        case measure => simp [intOf]; omega
    · have hr := Lib.hid (idxS_no (l := l) (nm := nm) fun j hj => HO.out j (by have := HN.out; omega) hj)
      go_wp2
      go_ret
      exact ⟨ret_i hr.out.symm, rfl⟩

theorem idxS_cases (l : List Stn) (nm : ByteArray) : idxS l nm = -1 ∨ ∃ f : Nat, f < l.length ∧ idxS l nm = f := by
  unfold idxS
  cases hf : l.findIdx? (fun s => s.nm.toList == nm.toList) with
  | none => exact .inl rfl
  | some i => exact .inr ⟨i, (List.findIdx?_eq_some_iff_getElem.1 hf).1, rfl⟩
def relR (l : List Stn) (nm : ByteArray) : Option (List Stn) := if (cellB l && decide (0 ≤ idxS l nm)) = true then some (l.take (idxS l nm).toNat ++ l.drop ((idxS l nm).toNat + 1)) else none
theorem relR_no1 {l : List Stn} {nm : ByteArray} (h : cellB l = false) : relR l nm = none := by simp [relR, h]
theorem relR_no2 {l : List Stn} {nm : ByteArray} (h : idxS l nm = -1) : relR l nm = none := by simp [relR, h]
theorem relR_yes {l : List Stn} {nm : ByteArray} {f : Nat} (h : cellB l = true) (h' : idxS l nm = f) : relR l nm = some (l.take f ++ l.drop (f + 1)) := by simp [relR, h, h']

end Go.Proofs.YtdedcablhahbnaaDoor
