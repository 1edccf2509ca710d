/- CellValid of the program and of the reference. No condition beyond lengths. -/
import Derived.Test.YtdedcablhahbnaaDoorCl
namespace Go.Proofs.YtdedcablhahbnaaDoor
open Go.RowKit

def prefB (s t : ByteArray) : Bool := decide (t.size ≤ s.size) && ((s.extract 0 t.size).toList == t.toList)
def confB (p q : ByteArray) : Bool := (p.extract 0 (min p.size q.size)).toList == (q.extract 0 (min p.size q.size)).toList
theorem extract_all (p : ByteArray) : p.extract 0 p.size = p := by
  apply ByteArray.ext; simp
theorem confB_pref (p q : ByteArray) : confB p q = (prefB p q || prefB q p) := by
  unfold confB prefB
  rcases Nat.lt_trichotomy p.size q.size with h | h | h
  · rw [Nat.min_eq_left (by omega), extract_all, decide_eq_false (by omega), decide_eq_true (by omega)]
    simp only [Bool.false_and, Bool.false_or, Bool.true_and]
    exact Bool.beq_comm ..
  · rw [h, Nat.min_self, extract_all, ← h, extract_all, decide_eq_true (Nat.le_refl _)]
    simp only [Bool.true_and]
    rw [Bool.beq_comm (a := q.toList), Bool.or_self]
  · rw [Nat.min_eq_right (by omega), extract_all, decide_eq_true (by omega), decide_eq_false (by omega)]
    simp

set_option maxHeartbeats 800000 in
theorem HasPrefix_c (s t : ByteArray) (w : World) : Calls Tryd.prog 41 #[.string s, .string t] w fun e w' => e = .returned (.bool (prefB s t)) ∧ w = w' := by
  by_cases h : t.size ≤ s.size
  · have hr := Lib.hid (show prefB s t = ((s.extract 0 t.size).toList == t.toList) by unfold prefB; rw [decide_eq_true h]; rfl)
    go_enter Tryd.func41, Tryd.ntmps41
    go_wp2
    go_ret
    exact ⟨ret_b hr.out.symm, rfl⟩
  · have hr := Lib.hid (show prefB s t = false by unfold prefB; rw [decide_eq_false h]; rfl)
    go_enter Tryd.func41, Tryd.ntmps41
    go_wp2
    go_ret
    exact ⟨ret_b hr.out.symm, rfl⟩

set_option maxHeartbeats 800000 in
theorem l3Conflict_c (s t : ByteArray) (w : World) (hs : s.size ≤ 1099511627776) (ht : t.size ≤ 1099511627776) : Calls Tryd.prog 37 #[.string s, .string t] w fun e w' => e = .returned (.bool (confB s t)) ∧ Qw w w' := by
  by_cases h : t.size < s.size
  · have hr := Lib.hid (show confB s t = ((s.extract 0 t.size).toList == t.toList) by unfold confB; rw [Nat.min_eq_right (by omega), extract_all t])
    go_enter Tryd.func37, Tryd.ntmps37
    go_wp2
    go_quiet (fail)
    go_wp2
    go_ret
    exact ⟨ret_b hr.out.symm, Qw.drewN _ _⟩
  · have hr := Lib.hid (show confB s t = (s.toList == (t.extract 0 s.size).toList) by unfold confB; rw [Nat.min_eq_left (by omega), extract_all s])
    go_enter Tryd.func37, Tryd.ntmps37
    go_wp2
    go_quiet (fail)
    go_wp2
    go_ret
    exact ⟨ret_b hr.out.symm, Qw.drewN _ _⟩

set_option maxHeartbeats 800000 in
theorem TreeConflict_c (s t : ByteArray) (w : World) (h1 : pathB s = true) (h2 : pathB t = true) : Calls Tryd.prog 22 #[.string s, .string t] w fun e w' => e = .returned (.bool (confB s t)) ∧ w = w' := by
  by_cases h : prefB s t = true
  · have hr := Lib.hid (show confB s t = true by rw [confB_pref, h]; rfl)
    go_enter Tryd.func22, Tryd.ntmps22
    go_wp2_with fail
    refine (pathValid_c _ _).mono ?_; rintro e w' ⟨rfl, rfl⟩
    go_wp2_with fail
    refine (pathValid_c _ _).mono ?_; rintro e w' ⟨rfl, rfl⟩
    go_wp2_with fail
    refine (HasPrefix_c _ _ _).mono ?_; rintro e w' ⟨rfl, rfl⟩
    go_wp2_with fail
    go_ret
    exact ⟨ret_b hr.out.symm, rfl⟩
  · have h' : prefB s t = false := by simpa using h
    have hr := Lib.hid (show confB s t = prefB t s by rw [confB_pref, h']; rfl)
    clear h
    go_enter Tryd.func22, Tryd.ntmps22
    go_wp2_with fail
    refine (pathValid_c _ _).mono ?_; rintro e w' ⟨rfl, rfl⟩
    go_wp2_with fail
    refine (pathValid_c _ _).mono ?_; rintro e w' ⟨rfl, rfl⟩
    go_wp2_with fail
    refine (HasPrefix_c _ _ _).mono ?_; rintro e w' ⟨rfl, rfl⟩
    go_wp2_with fail
    refine (HasPrefix_c _ _ _).mono ?_; rintro e w' ⟨rfl, rfl⟩
    go_wp2_with fail
    go_ret
    exact ⟨ret_b hr.out.symm, rfl⟩

/-- The first of the stations that bears the name: its place, or -1. -/
def idxS (l : List Stn) (nm : ByteArray) : Int := match l.findIdx? (fun s => s.nm.toList == nm.toList) with | some i => (i : Int) | none => -1
theorem idxS_at {l : List Stn} {nm : ByteArray} {k : Nat} (hk : k < l.length) (h : ∀ j (_ : j < k), (l[j].nm.toList == nm.toList) = false) (h1 : (l[k].nm.toList == nm.toList) = true) : idxS l nm = k := by
  unfold idxS
  have : l.findIdx? (fun s => s.nm.toList == nm.toList) = some k := by
    rw [List.findIdx?_eq_some_iff_getElem]
    exact ⟨hk, h1, fun j hj => by simpa using h j hj⟩
  rw [this]
theorem idxS_no {l : List Stn} {nm : ByteArray} (h : ∀ j (_ : j < l.length), (l[j].nm.toList == nm.toList) = false) : idxS l nm = -1 := by
  unfold idxS
  have : l.findIdx? (fun s => s.nm.toList == nm.toList) = none := by
    rw [List.findIdx?_eq_none_iff]
    intro x hx
    obtain ⟨j, hj, rfl⟩ := List.getElem_of_mem hx
    exact h j hj
  rw [this]

set_option maxHeartbeats 1600000 in
theorem stationIndex_c {ao : Option Addr} {n c : Nat} {l : List Stn} {w : World} (nm : ByteArray) (h : RdS w ao n l) :
    Calls Tryd.prog 21 #[.slice ao n c, .string nm] w fun e w' => e = .returned (.int .i64 (idxS l nm)) ∧ Below w.heap.size w w' := by
  have hs := h.2.1
  have HN := Lib.hid h.1
  go_enter Tryd.func21, Tryd.ntmps21
  go_wp2
  go_loopw [9] (fun i wr => ∃ k : Nat, k ≤ n ∧ i = .int .i64 k ∧ (∀ j (_ : j < k) (hj : j < l.length), (l[j].nm.toList == nm.toList) = false) ∧ Below w.heap.size w wr) (fun i _ => n - (intOf i).toNat)
  case atStart => exact ⟨0, Nat.zero_le _, rfl, fun j hj => absurd hj (by omega), Below.refl _ _⟩
  case round =>
    obtain ⟨k, hk, rfl, hno, hb⟩ := hrel
    have HO := Lib.hid hno; clear hno
    by_cases hlt : k < n
    · obtain ⟨bk, off, rfl, hl, hc0, hc1, hc2, hc3⟩ := (h.below hb).at hlt
      have hb2 : Below w.heap.size w (wr.alloc (.cells #[.string l[k].nm, .string l[k].ph, .int .i64 l[k].g, .int .i64 l[k].l] 37)) := hb.alloc hb.size _
      clear h
      by_cases h3 : (l[k].nm.toList == nm.toList) = true
      · have hr := Lib.hid (idxS_at hl (fun j hj => HO.out j hj (by omega)) h3)
        go_wp2_with fail
        go_ret
        exact ⟨ret_i hr.out.symm, hb2⟩
      · have h3' : (l[k].nm.toList == nm.toList) = false := by simpa using h3
        clear h3
        go_wp2_with fail
        go_roundw
        case rel =>
          refine ⟨k + 1, by omega, by go_num, fun j hj hj2 => ?_, ?_⟩
          · rcases Nat.lt_succ_iff_lt_or_eq.1 hj with hj | rfl
            · exact HO.out j hj hj2
            · exact h3'
          · exact hb2
        case measure => simp [intOf]; omega
    · have hr := Lib.hid (idxS_no (l := l) (nm := nm) fun j hj => HO.out j (by have := HN.out; omega) hj)
      go_wp2
      go_ret
      exact ⟨ret_i hr.out.symm, hb⟩

def apart (l : List Stn) (i k : Nat) : Bool := !((l.getD k zstn).nm.toList == (l.getD i zstn).nm.toList) && !confB (l.getD k zstn).ph (l.getD i zstn).ph
def apT (l : List Stn) (i k : Nat) : Bool := (List.range k).all (apart l i)
def goodAt (l : List Stn) (i : Nat) : Bool := stB (l.getD i zstn).nm (l.getD i zstn).ph (l.getD i zstn).g (l.getD i zstn).l && apT l i i
def okT (l : List Stn) (i : Nat) : Bool := (List.range i).all (goodAt l)
def cellB (l : List Stn) : Bool := decide (l.length ≤ 8) && okT l l.length
theorem confB_comm (p q : ByteArray) : confB p q = confB q p := by rw [confB_pref, confB_pref, Bool.or_comm]
theorem range_all_succ (f : Nat → Bool) (k : Nat) : (List.range (k + 1)).all f = ((List.range k).all f && f k) := by rw [List.range_succ, List.all_append]; simp
theorem range_all_false {f : Nat → Bool} {k n : Nat} (h : k < n) (h1 : f k = false) : (List.range n).all f = false := by
  rw [List.all_eq_false]; exact ⟨k, List.mem_range.2 h, by simp [h1]⟩
theorem apT_succ {l : List Stn} {i k : Nat} (h : apT l i k = true) (h1 : apart l i k = true) : apT l i (k + 1) = true := by unfold apT at *; rw [range_all_succ, h, h1]; rfl
theorem okT_succ {l : List Stn} {i : Nat} (h : okT l i = true) (h1 : goodAt l i = true) : okT l (i + 1) = true := by unfold okT at *; rw [range_all_succ, h, h1]; rfl
theorem cellB_bad {l : List Stn} {i : Nat} (hi : i < l.length) (h : goodAt l i = false) : cellB l = false := by unfold cellB okT; rw [range_all_false hi h, Bool.and_false]
theorem cellB_long {l : List Stn} (h : 8 < l.length) : cellB l = false := by unfold cellB; rw [decide_eq_false (by omega)]; rfl
theorem cellB_good {l : List Stn} {k : Nat} (h : okT l k = true) (hk : k = l.length) (h8 : l.length ≤ 8) : cellB l = true := by subst hk; unfold cellB; rw [decide_eq_true h8, h]; rfl
theorem goodAt_inv {l : List Stn} {i : Nat} (h1 : stB (l.getD i zstn).nm (l.getD i zstn).ph (l.getD i zstn).g (l.getD i zstn).l = false) : goodAt l i = false := by unfold goodAt; rw [h1]; rfl
theorem goodAt_clash {l : List Stn} {i k : Nat} (hk : k < i) (h1 : apart l i k = false) : goodAt l i = false := by unfold goodAt apT; rw [range_all_false hk h1, Bool.and_false]
theorem goodAt_yes {l : List Stn} {i : Nat} (h1 : stB (l.getD i zstn).nm (l.getD i zstn).ph (l.getD i zstn).g (l.getD i zstn).l = true) (h2 : apT l i i = true) : goodAt l i = true := by unfold goodAt; rw [h1, h2]; rfl
theorem getD_stn {l : List Stn} {i : Nat} (h : i < l.length) : l.getD i zstn = l[i] := by simp [List.getD, h]

end Go.Proofs.YtdedcablhahbnaaDoor
