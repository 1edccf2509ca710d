/- CellValid of the program and of the reference. No condition beyond lengths. -/
import Derived.Test.YtbgabjdgbibohaaCl
namespace Go.Proofs.Ytbgabjdgbibohaa
open Go.RowKit

def prefB (s t : ByteArray) : Bool := decide (t.size ≤ s.size) && ((s.extract 0 t.size).toList == t.toList)
def confB (p q : ByteArray) : Bool := (p.extract 0 (min p.size q.size)).toList == (q.extract 0 (min p.size q.size)).toList
theorem extract_all (p : ByteArray) : p.extract 0 p.size = p := by
  apply ByteArray.ext; simp
theorem confB_pref (p q : ByteArray) : confB p q = (prefB p q || prefB q p) := by
  unfold confB prefB
  rcases Nat.lt_trichotomy p.size q.size with h | h | h
  · rw [Nat.min_eq_left (by omega), extract_all, decide_eq_false (by omega), decide_eq_true (by omega)]
    simp only [Bool.false_and, Bool.false_or, Bool.true_and]
    exact Bool.beq_comm ..
  · rw [h, Nat.min_self, extract_all, ← h, extract_all, decide_eq_true (Nat.le_refl _)]
    simp only [Bool.true_and]
    rw [Bool.beq_comm (a := q.toList), Bool.or_self]
  · rw [Nat.min_eq_right (by omega), extract_all, decide_eq_true (by omega), decide_eq_false (by omega)]
    simp

set_option maxHeartbeats 800000 in
theorem HasPrefix_c (s t : ByteArray) (w : World) : Calls Try.prog 60 #[.string s, .string t] w fun e w' => e = .returned (.bool (prefB s t)) ∧ w = w' := by
  by_cases h : t.size ≤ s.size
  · have hr := Lib.hid (show prefB s t = ((s.extract 0 t.size).toList == t.toList) by unfold prefB; rw [decide_eq_true h]; rfl)
    go_enter Try.func60, Try.ntmps60
    go_wp2
    go_ret
    exact ⟨ret_b hr.out.symm, rfl⟩
  · have hr := Lib.hid (show prefB s t = false by unfold prefB; rw [decide_eq_false h]; rfl)
    go_enter Try.func60, Try.ntmps60
    go_wp2
    go_ret
    exact ⟨ret_b hr.out.symm, rfl⟩



/-- The first of the stations that bears the name: its place, or -1. -/
def idxS (l : List Stn) (nm : ByteArray) : Int := match l.findIdx? (fun s => s.nm.toList == nm.toList) with | some i => (i : Int) | none => -1
theorem idxS_at {l : List Stn} {nm : ByteArray} {k : Nat} (hk : k < l.length) (h : ∀ j (_ : j < k), (l[j].nm.toList == nm.toList) = false) (h1 : (l[k].nm.toList == nm.toList) = true) : idxS l nm = k := by
  unfold idxS
  have : l.findIdx? (fun s => s.nm.toList == nm.toList) = some k := by
    rw [List.findIdx?_eq_some_iff_getElem]
    exact ⟨hk, h1, fun j hj => by simpa using h j hj⟩
  rw [this]
theorem idxS_no {l : List Stn} {nm : ByteArray} (h : ∀ j (_ : j < l.length), (l[j].nm.toList == nm.toList) = false) : idxS l nm = -1 := by
  unfold idxS
  have : l.findIdx? (fun s => s.nm.toList == nm.toList) = none := by
    rw [List.findIdx?_eq_none_iff]
    intro x hx
    obtain ⟨j, hj, rfl⟩ := List.getElem_of_mem hx
    exact h j hj
  rw [this]


def apart (l : List Stn) (i k : Nat) : Bool := !((l.getD k zstn).nm.toList == (l.getD i zstn).nm.toList) && !confB (l.getD k zstn).ph (l.getD i zstn).ph
def apT (l : List Stn) (i k : Nat) : Bool := (List.range k).all (apart l i)
def goodAt (l : List Stn) (i : Nat) : Bool := stB (l.getD i zstn).nm (l.getD i zstn).ph (l.getD i zstn).g (l.getD i zstn).l && apT l i i
def okT (l : List Stn) (i : Nat) : Bool := (List.range i).all (goodAt l)
def cellB (l : List Stn) : Bool := decide (l.length ≤ 8) && okT l l.length
theorem confB_comm (p q : ByteArray) : confB p q = confB q p := by rw [confB_pref, confB_pref, Bool.or_comm]
theorem range_all_succ (f : Nat → Bool) (k : Nat) : (List.range (k + 1)).all f = ((List.range k).all f && f k) := by rw [List.range_succ, List.all_append]; simp
theorem range_all_false {f : Nat → Bool} {k n : Nat} (h : k < n) (h1 : f k = false) : (List.range n).all f = false := by
  rw [List.all_eq_false]; exact ⟨k, List.mem_range.2 h, by simp [h1]⟩
theorem apT_succ {l : List Stn} {i k : Nat} (h : apT l i k = true) (h1 : apart l i k = true) : apT l i (k + 1) = true := by unfold apT at *; rw [range_all_succ, h, h1]; rfl
theorem okT_succ {l : List Stn} {i : Nat} (h : okT l i = true) (h1 : goodAt l i = true) : okT l (i + 1) = true := by unfold okT at *; rw [range_all_succ, h, h1]; rfl
theorem cellB_bad {l : List Stn} {i : Nat} (hi : i < l.length) (h : goodAt l i = false) : cellB l = false := by unfold cellB okT; rw [range_all_false hi h, Bool.and_false]
theorem cellB_long {l : List Stn} (h : 8 < l.length) : cellB l = false := by unfold cellB; rw [decide_eq_false (by omega)]; rfl
theorem cellB_good {l : List Stn} {k : Nat} (h : okT l k = true) (hk : k = l.length) (h8 : l.length ≤ 8) : cellB l = true := by subst hk; unfold cellB; rw [decide_eq_true h8, h]; rfl
theorem goodAt_inv {l : List Stn} {i : Nat} (h1 : stB (l.getD i zstn).nm (l.getD i zstn).ph (l.getD i zstn).g (l.getD i zstn).l = false) : goodAt l i = false := by unfold goodAt; rw [h1]; rfl
theorem goodAt_clash {l : List Stn} {i k : Nat} (hk : k < i) (h1 : apart l i k = false) : goodAt l i = false := by unfold goodAt apT; rw [range_all_false hk h1, Bool.and_false]
theorem goodAt_yes {l : List Stn} {i : Nat} (h1 : stB (l.getD i zstn).nm (l.getD i zstn).ph (l.getD i zstn).g (l.getD i zstn).l = true) (h2 : apT l i i = true) : goodAt l i = true := by unfold goodAt; rw [h1, h2]; rfl
theorem getD_stn {l : List Stn} {i : Nat} (h : i < l.length) : l.getD i zstn = l[i] := by simp [List.getD, h]

end Go.Proofs.Ytbgabjdgbibohaa
