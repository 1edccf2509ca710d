/- Signals of users as lists: spreading, scaling, adding, sending. No condition. -/
import Derived.Test.YtadcckjlcmnhbaaQc
namespace Go.Proofs.Ytadcckjlcmnhbaa
open Go.RowKit

/-- The data d spread by the code s. -/
def spreadL (d s : List Int) : List Int := d.flatMap fun b => s.map fun c => chipC b * chipC c
theorem spreadL_cons (b : Int) (d s : List Int) : spreadL (b :: d) s = (s.map fun c => chipC b * chipC c) ++ spreadL d s := rfl
theorem spreadL_len (d s : List Int) : (spreadL d s).length = d.length * s.length := by
  induction d with
  | nil => simp [spreadL]
  | cons b d ih => rw [spreadL_cons, List.length_append, List.length_map, List.length_cons, ih, Nat.succ_mul, Nat.add_comm]
theorem spreadL_get (d s : List Int) {i : Nat} (h : i < d.length * s.length) : (spreadL d s).getD i 0 = chipC (d.getD (i / s.length) 0) * chipC (s.getD (i % s.length) 0) := by
  induction d generalizing i with
  | nil => simp at h
  | cons b d ih =>
    have hs : 0 < s.length := by
      rcases Nat.eq_zero_or_pos s.length with h0 | h0
      · rw [h0] at h; simp at h
      · exact h0
    rw [spreadL_cons]
    by_cases hi : i < s.length
    · rw [Nat.div_eq_of_lt hi, Nat.mod_eq_of_lt hi]
      simp [List.getD, List.getElem?_append, hi]
    · have h2 : i - s.length < d.length * s.length := by rw [List.length_cons, Nat.succ_mul] at h; omega
      have e1 : i / s.length = (i - s.length) / s.length + 1 := by
        have := Nat.add_div_right (i - s.length) hs
        rw [Nat.sub_add_cancel (by omega)] at this
        exact this
      have e2 : i % s.length = (i - s.length) % s.length := Nat.mod_eq_sub_mod (by omega)
      have := ih h2
      rw [e1, e2, List.getD_cons_succ, ← this]
      simp [List.getD, List.getElem?_append, hi]
theorem spreadL_snoc (d s : List Int) (b : Int) : spreadL (d ++ [b]) s = spreadL d s ++ s.map fun c => chipC b * chipC c := by
  unfold spreadL; rw [List.flatMap_append]; simp

/-- All numbers of a list lie between -M and M. -/
def bdL (M : Int) (l : List Int) : Prop := ∀ x ∈ l, -M ≤ x ∧ x ≤ M
theorem bdL_mono {M N : Int} {l : List Int} (h : bdL M l) (hN : M ≤ N) : bdL N l := fun x hx => by have := h x hx; omega
theorem bdL_getD {M : Int} {l : List Int} (h : bdL M l) (h0 : 0 ≤ M) (i : Nat) : -M ≤ l.getD i 0 ∧ l.getD i 0 ≤ M := by
  by_cases hi : i < l.length
  · have e : l.getD i 0 = l[i] := by simp [List.getD, hi]
    rw [e]; exact h _ (List.getElem_mem hi)
  · have e : l.getD i 0 = 0 := by simp [List.getD, List.getElem?_eq_none (by omega : l.length ≤ i)]
    rw [e]; omega
theorem sigB_mk {l : List Int} (h1 : l.length ≤ 3000) (h2 : bdL 1000000 l) : sigB l = true := by
  unfold sigB allB
  rw [decide_eq_true h1, Bool.true_and, List.all_eq_true]
  intro x hx
  have := h2 x hx
  exact inB_true this.1 this.2
theorem sigB_bd {l : List Int} (h : sigB l = true) : bdL 1000000 l := by
  intro x hx
  unfold sigB allB at h
  rw [Bool.and_eq_true, List.all_eq_true] at h
  exact inB_iff.1 (h.2 x hx)
theorem chip_chip (x y : Int) : -1 ≤ chipC x * chipC y ∧ chipC x * chipC y ≤ 1 := by
  rcases chipC_or x with e | e <;> rcases chipC_or y with f | f <;> rw [e, f] <;> omega
theorem spreadL_bd (d s : List Int) : bdL 1 (spreadL d s) := by
  intro x hx
  unfold spreadL at hx
  obtain ⟨b, _, hb⟩ := List.mem_flatMap.1 hx
  obtain ⟨c, _, rfl⟩ := List.mem_map.1 hb
  exact chip_chip b c

/-- A list times a gain. -/
def scaleL (g : Int) (l : List Int) : List Int := l.map fun x => g * x
theorem scaleL_len (g : Int) (l : List Int) : (scaleL g l).length = l.length := by simp [scaleL]
theorem scaleL_get (g : Int) {l : List Int} {i : Nat} (h : i < l.length) : (scaleL g l).getD i 0 = g * l[i] := by simp [scaleL, List.getD, h]
theorem scale_one {g x : Int} (hg : 0 ≤ g ∧ g ≤ 1000) (hx : -1 ≤ x ∧ x ≤ 1) : -1000 ≤ g * x ∧ g * x ≤ 1000 := by
  have : x = -1 ∨ x = 0 ∨ x = 1 := by omega
  rcases this with rfl | rfl | rfl <;> omega
theorem scaleL_bd {g : Int} {l : List Int} (hg : 0 ≤ g ∧ g ≤ 1000) (h : bdL 1 l) : bdL 1000 (scaleL g l) := by
  intro x hx
  unfold scaleL at hx
  obtain ⟨y, hy, rfl⟩ := List.mem_map.1 hx
  exact scale_one hg (h y hy)

/-- The sum of two lists, the shorter one filled up with zeros. -/
def addL (a b : List Int) : List Int := (List.range (max a.length b.length)).map fun i => a.getD i 0 + b.getD i 0
theorem addL_len (a b : List Int) : (addL a b).length = max a.length b.length := by simp [addL]
theorem getD_past {l : List Int} {i : Nat} (h : l.length ≤ i) : l.getD i 0 = 0 := by simp [List.getD, List.getElem?_eq_none h]
theorem addL_get (a b : List Int) (i : Nat) : (addL a b).getD i 0 = a.getD i 0 + b.getD i 0 := by
  by_cases h : i < max a.length b.length
  · simp [addL, List.getD, List.getElem?_map, List.getElem?_range h]
  · rw [getD_past (by rw [addL_len]; omega), getD_past (by omega), getD_past (by omega)]; rfl
theorem addL_bd {A B : Int} {a b : List Int} (ha : bdL A a) (hb : bdL B b) (hA : 0 ≤ A) (hB : 0 ≤ B) : bdL (A + B) (addL a b) := by
  intro x hx
  unfold addL at hx
  obtain ⟨i, _, rfl⟩ := List.mem_map.1 hx
  have := bdL_getD ha hA i
  have := bdL_getD hb hB i
  omega
/-- a with zeros up to length m. -/
def padL (a : List Int) (m : Nat) : List Int := a ++ List.replicate (m - a.length) 0
theorem padL_len {a : List Int} {m : Nat} (h : a.length ≤ m) : (padL a m).length = m := by simp [padL]; omega
theorem padL_get (a : List Int) (m i : Nat) : (padL a m).getD i 0 = a.getD i 0 := by
  unfold padL
  by_cases h : i < a.length
  · simp [List.getD, List.getElem?_append, h]
  · rw [getD_past (by omega : a.length ≤ i)]
    simp [List.getD, List.getElem?_append, h, List.getElem?_replicate]
    split <;> rfl
/-- What stands when the first k of b have been added. -/
theorem add_end {a b : List Int} {k : Nat} (hk : b.length ≤ k) : (addL a b).take k ++ (padL a (max a.length b.length)).drop k = addL a b := by
  have hlen : (padL a (max a.length b.length)).length = max a.length b.length := padL_len (by omega)
  apply List.ext_getElem?
  intro j
  rw [List.getElem?_append, List.length_take, addL_len]
  by_cases h1 : j < min k (max a.length b.length)
  · rw [if_pos h1, List.getElem?_take, if_pos (by omega)]
  · rw [if_neg h1]
    by_cases h2 : j < max a.length b.length
    · have e : min k (max a.length b.length) = k := by omega
      rw [e, List.getElem?_drop, show k + (j - k) = j by omega]
      have e1 := addL_get a b j
      rw [getD_past (show b.length ≤ j by omega), Int.add_zero, ← padL_get a (max a.length b.length) j] at e1
      have l1 : j < (addL a b).length := by rw [addL_len]; exact h2
      have l2 : j < (padL a (max a.length b.length)).length := by rw [hlen]; exact h2
      rw [List.getElem?_eq_getElem l1, List.getElem?_eq_getElem l2]
      simp only [List.getD, List.getElem?_eq_getElem l1, List.getElem?_eq_getElem l2, Option.getD_some] at e1
      rw [e1]
    · rw [List.getElem?_eq_none (by rw [List.length_drop, hlen]; omega), List.getElem?_eq_none (by rw [addL_len]; omega)]

/-- The signal of a user (a record with the code, the data, the gain and the delay, which is 0 here), and of users. -/
def usrL (u : Stn) : List Int := scaleL u.g (spreadL (codes u.ph) (codes u.nm))
def sgnlL (us : List Stn) : List Int := us.foldl (fun acc u => addL acc (usrL u)) []
theorem sgnlL_snoc (us : List Stn) (u : Stn) : sgnlL (us ++ [u]) = addL (sgnlL us) (usrL u) := by unfold sgnlL; rw [List.foldl_append]; rfl
theorem sgnlL_take {us : List Stn} {k : Nat} (hk : k < us.length) : sgnlL (us.take (k + 1)) = addL (sgnlL (us.take k)) (usrL us[k]) := by
  rw [List.take_succ_eq_append_getElem hk, sgnlL_snoc]
def usrOk (u : Stn) : Bool := seqB u.nm && bitsB u.ph && inB u.g 0 1000 && inB u.l 0 1000 && decide ((u.ph.size : Int) * u.nm.size + u.l ≤ 3000)
def usersB (us : List Stn) : Bool := decide (us.length ≤ 8) && us.all usrOk
def sndR (us : List Stn) : Option (List Int) := if usersB us = true then some (sgnlL us) else none
theorem usrOk_parts {u : Stn} (h : usrOk u = true) : seqB u.nm = true ∧ bitsB u.ph = true ∧ (0 ≤ u.g ∧ u.g ≤ 1000) ∧ (0 ≤ u.l ∧ u.l ≤ 1000) ∧ (u.ph.size : Int) * u.nm.size + u.l ≤ 3000 := by
  unfold usrOk at h
  simp only [Bool.and_eq_true] at h
  exact ⟨h.1.1.1.1, h.1.1.1.2, inB_iff.1 h.1.1.2, inB_iff.1 h.1.2, of_decide_eq_true h.2⟩
theorem usrL_len (u : Stn) : (usrL u).length = u.ph.size * u.nm.size := by unfold usrL; rw [scaleL_len, spreadL_len, codes_length, codes_length]
theorem usrOk_len {u : Stn} (h : usrOk u = true) : (usrL u).length ≤ 3000 := by
  obtain ⟨_, _, _, h4, h5⟩ := usrOk_parts h
  rw [usrL_len]
  have e : (u.ph.size : Int) * u.nm.size = ((u.ph.size * u.nm.size : Nat) : Int) := by simp
  omega
theorem usrOk_bd {u : Stn} (h : usrOk u = true) : bdL 1000 (usrL u) := scaleL_bd (usrOk_parts h).2.2.1 (spreadL_bd _ _)
theorem sgnlL_good {us : List Stn} (h : us.all usrOk = true) : ∀ k, k ≤ us.length → (sgnlL (us.take k)).length ≤ 3000 ∧ bdL (1000 * (k : Int)) (sgnlL (us.take k)) := by
  intro k
  induction k with
  | zero => intro _; exact ⟨by simp [sgnlL], fun x hx => by simp [sgnlL] at hx⟩
  | succ k ih =>
    intro hk
    obtain ⟨h1, h2⟩ := ih (by omega)
    have hu : usrOk us[k] = true := (List.all_eq_true.1 h) _ (List.getElem_mem _)
    rw [sgnlL_take (by omega)]
    refine ⟨by rw [addL_len]; have := usrOk_len hu; omega, ?_⟩
    have := addL_bd h2 (usrOk_bd hu) (by omega) (by omega)
    exact bdL_mono this (by omega)
theorem sgnlL_sig {us : List Stn} (h : usersB us = true) {k : Nat} (hk : k ≤ us.length) : sigB (sgnlL (us.take k)) = true := by
  unfold usersB at h
  rw [Bool.and_eq_true] at h
  have h8 := of_decide_eq_true h.1
  obtain ⟨h1, h2⟩ := sgnlL_good h.2 k hk
  exact sigB_mk h1 (bdL_mono h2 (by omega))
theorem usersB_at {us : List Stn} (h : usersB us = true) {k : Nat} (hk : k < us.length) : usrOk us[k] = true := by
  unfold usersB at h
  rw [Bool.and_eq_true] at h
  exact (List.all_eq_true.1 h.2) _ (List.getElem_mem _)
theorem sndR_yes {us : List Stn} (h : usersB us = true) : sndR us = some (sgnlL us) := by unfold sndR; rw [if_pos h]
theorem sndR_no {us : List Stn} (h : usersB us = false) : sndR us = none := by unfold sndR; rw [h]; rfl
theorem usersB_long {us : List Stn} (h : 8 < us.length) : usersB us = false := by unfold usersB; rw [decide_eq_false (by omega)]; rfl
theorem usersB_bad {us : List Stn} {k : Nat} (hk : k < us.length) (h : usrOk us[k] = false) : usersB us = false := by
  unfold usersB
  have : us.all usrOk = false := by
    rw [List.all_eq_false]
    exact ⟨us[k], List.getElem_mem _, by rw [h]; simp⟩
  rw [this, Bool.and_false]

end Go.Proofs.Ytadcckjlcmnhbaa
