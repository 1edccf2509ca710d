/- Membership in a list of numbers (l2Has, slices.Contains), jammed channels, JammedHops of the program and of the reference. No condition. -/
import Derived.Test.YtaoahgngpjoekaaDoorHm
namespace Go.Proofs.YtaoahgngpjoekaaDoor
open Go.RowKit

def hasB (l : List Int) (x : Int) : Bool := decide (x ∈ l)
theorem hasB_hit {l : List Int} {k : Nat} {x : Int} (hk : k < l.length) (h : l[k] = x) : hasB l x = true := by
  unfold hasB; exact decide_eq_true (h ▸ List.getElem_mem hk)
theorem hasB_snoc {l : List Int} {k : Nat} {x : Int} (hk : k < l.length) (h : hasB (l.take k) x = false) (h1 : l[k] ≠ x) : hasB (l.take (k + 1)) x = false := by
  unfold hasB at *
  rw [decide_eq_false_iff_not] at *
  rw [List.take_succ_eq_append_getElem hk, List.mem_append]
  rintro (h2 | h2)
  · exact h h2
  · simp at h2; exact h1 h2.symm

set_option maxHeartbeats 400000 in
theorem l2Has_c {ao : Option Addr} {n c : Nat} {l : List Int} (x : Int) {w : World} (h : Rd w ao n l) :
    Calls Tryd.prog 38 #[.slice ao n c, .int .i64 x] w fun e w' => e = .returned (.bool (hasB l x)) ∧ w = w' := by
  have hs := h.2.1
  have hn := h.1
  subst hn
  go_enter Tryd.func38, Tryd.ntmps38
  go_wp2
  go_loop [5] (fun i => ∃ k : Nat, k ≤ l.length ∧ i = .int .i64 k ∧ hasB (l.take k) x = false) (fun i => l.length - (intOf i).toNat)
  case atStart => exact ⟨0, Nat.zero_le _, rfl, rfl⟩
  case round =>
    obtain ⟨k, hk, rfl, hall⟩ := hrel
    have HA := Lib.hid hall; clear hall
    by_cases hlt : k < l.length
    · obtain ⟨bk, off, rfl, hl, hc⟩ := h.at hlt
      clear h
      by_cases h1 : l[k] = x
      · have h2 : (l[k] == x) = true := by simp [h1]
        have H1 := Lib.hid h1; clear h1
        go_wp2
        go_ret
        exact ⟨ret_b (hasB_hit hl H1.out).symm, rfl⟩
      · have h2 : (l[k] == x) = false := by simpa using h1
        go_wp2
        go_round
        case rel => exact ⟨k + 1, by omega, by go_num, hasB_snoc hl HA.out h1⟩
        case measure => simp [intOf]; omega
    · go_wp2
      go_ret
      exact ⟨ret_b (by rw [← HA.out, List.take_of_length_le (by omega)]), rfl⟩

/-- The index that slices.Index hands back: -1 exactly if there is none. -/
def IdxOk (l : List Int) (x i : Int) : Prop := (hasB l x = true ∧ 0 ≤ i) ∨ (hasB l x = false ∧ i = -1)
set_option maxHeartbeats 400000 in
theorem Index_c {ao : Option Addr} {n c : Nat} {l : List Int} (x : Int) {w : World} (h : Rd w ao n l) :
    Calls Tryd.prog 52 #[.slice ao n c, .int .i64 x] w fun e w' => ∃ i : Int, e = .returned (.int .i64 i) ∧ IdxOk l x i ∧ w = w' := by
  have hs := h.2.1
  have hn := h.1
  subst hn
  go_enter Tryd.func52, Tryd.ntmps52
  go_wp2
  go_loop [8] (fun i => ∃ k : Nat, k ≤ l.length ∧ i = .int .i64 k ∧ hasB (l.take k) x = false) (fun i => l.length - (intOf i).toNat)
  case atStart => exact ⟨0, Nat.zero_le _, rfl, rfl⟩
  case round =>
    obtain ⟨k, hk, rfl, hall⟩ := hrel
    have HA := Lib.hid hall; clear hall
    by_cases hlt : k < l.length
    · obtain ⟨bk, off, rfl, hl, hc⟩ := h.at hlt
      clear h
      by_cases h1 : l[k] = x
      · have h2 : (x == l[k]) = true := by simp [h1]
        have H1 := Lib.hid h1; clear h1
        go_wp2
        go_ret
        exact ⟨_, rfl, .inl ⟨hasB_hit hl H1.out, by omega⟩, rfl⟩
      · have h2 : (x == l[k]) = false := by simp; exact fun e => h1 e.symm
        go_wp2
        go_round
        case rel => exact ⟨k + 1, by omega, by go_num, hasB_snoc hl HA.out h1⟩
        case measure => simp [intOf]; omega
    · go_wp2
      go_ret
      exact ⟨_, rfl, .inr ⟨by rw [← HA.out, List.take_of_length_le (by omega)], rfl⟩, rfl⟩

set_option maxHeartbeats 400000 in
theorem Contains_c {ao : Option Addr} {n c : Nat} {l : List Int} (x : Int) {w : World} (h : Rd w ao n l) :
    Calls Tryd.prog 34 #[.slice ao n c, .int .i64 x] w fun e w' => e = .returned (.bool (hasB l x)) ∧ w = w' := by
  go_enter Tryd.func34, Tryd.ntmps34
  go_wp2_with fail
  refine (Index_c x h).mono ?_; rintro e w' ⟨i, rfl, hi, rfl⟩
  rcases hi with ⟨h1, h2⟩ | ⟨h1, h2⟩
  · go_wp2
    go_ret
    exact ⟨ret_b h1.symm, rfl⟩
  · subst h2
    go_wp2
    go_ret
    exact ⟨ret_b h1.symm, rfl⟩

set_option maxHeartbeats 400000 in
theorem isHops_c {ao : Option Addr} {n c : Nat} {l : List Int} {w : World} (h : Rd w ao n l) :
    Calls Tryd.prog 23 #[.slice ao n c] w fun e w' => e = .returned (.bool (hopsB l 16)) ∧ w = w' := by
  go_enter Tryd.func23, Tryd.ntmps23
  go_wp2_with fail
  refine (HopsValid_c _ h).mono ?_; rintro e w' ⟨rfl, rfl⟩
  go_wp2_with fail
  go_ret
  exact ⟨rfl, rfl⟩

theorem jamB_all {l : List Int} : jamB l = (hopsB l 16 && decide (l.length ≤ 16)) := by
  rw [hopsB16]
  unfold jamB
  by_cases h : l.length ≤ 16
  · rw [decide_eq_true h, decide_eq_true (show l.length ≤ 300 by omega)]; simp
  · rw [decide_eq_false h]; simp

set_option maxHeartbeats 400000 in
theorem jammedValid_c {ao : Option Addr} {n c : Nat} {l : List Int} {w : World} (h : Rd w ao n l) :
    Calls Tryd.prog 24 #[.slice ao n c] w fun e w' => e = .returned (.bool (jamB l)) ∧ w = w' := by
  have hn := h.1
  by_cases h1 : n ≤ 16
  · have hr : jamB l = allB 0 15 l := by unfold jamB; rw [decide_eq_true (by omega)]; rfl
    have HR := Lib.hid hr; have HN := Lib.hid hn; clear hr hn
    go_enter Tryd.func24, Tryd.ntmps24
    go_wp2_with fail
    refine (numbersWithin_c _ _ h).mono ?_; rintro e w' ⟨rfl, rfl⟩
    go_wp2_with fail
    go_ret
    exact ⟨ret_b HR.out.symm, rfl⟩
  · have hr : jamB l = false := by unfold jamB; rw [decide_eq_false (by omega)]; rfl
    have HR := Lib.hid hr; have HN := Lib.hid hn; clear hr hn
    go_enter Tryd.func24, Tryd.ntmps24
    go_wp2_with fail
    go_ret
    exact ⟨ret_b HR.out.symm, rfl⟩

set_option maxHeartbeats 400000 in
theorem l7Jam_c {ao : Option Addr} {n c : Nat} {l : List Int} {w : World} (h : Rd w ao n l) :
    Calls Tryd.prog 37 #[.slice ao n c] w fun e w' => e = .returned (.bool (jamB l)) ∧ w = w' := by
  have hn := h.1
  have HJ := Lib.hid (@jamB_all l)
  by_cases h0 : hopsB l 16 = true
  · by_cases h1 : n ≤ 16
    · have hr : jamB l = true := by rw [jamB_all, h0, decide_eq_true (by omega)]; rfl
      have HR := Lib.hid hr; have HN := Lib.hid hn; clear hr hn
      go_enter Tryd.func37, Tryd.ntmps37
      go_wp2_with fail
      refine (l7Hops_c h).mono ?_; rintro e w' ⟨rfl, rfl⟩
      go_wp2_with fail
      go_ret
      exact ⟨ret_b (by rw [HR.out]; simp; omega), rfl⟩
    · have hr : jamB l = false := by rw [jamB_all, decide_eq_false (by omega)]; simp
      have HR := Lib.hid hr; have HN := Lib.hid hn; clear hr hn
      go_enter Tryd.func37, Tryd.ntmps37
      go_wp2_with fail
      refine (l7Hops_c h).mono ?_; rintro e w' ⟨rfl, rfl⟩
      go_wp2_with fail
      go_ret
      exact ⟨ret_b (by rw [HR.out]; simp; omega), rfl⟩
  · have h0' : hopsB l 16 = false := by simpa using h0
    have hr : jamB l = false := by rw [jamB_all, h0']; rfl
    have HR := Lib.hid hr; have HN := Lib.hid hn; clear hr hn h0
    go_enter Tryd.func37, Tryd.ntmps37
    go_wp2_with fail
    refine (l7Hops_c h).mono ?_; rintro e w' ⟨rfl, rfl⟩
    go_wp2_with fail
    go_ret
    exact ⟨ret_b HR.out.symm, rfl⟩

def cntB (p : Int → Bool) (l : List Int) : Nat := (l.filter p).length
theorem cntB_succ {p : Int → Bool} {l : List Int} {k : Nat} (hk : k < l.length) : cntB p (l.take (k + 1)) = cntB p (l.take k) + if p l[k] = true then 1 else 0 := by
  unfold cntB
  rw [List.take_succ_eq_append_getElem hk, List.filter_append, List.length_append]
  by_cases h : p l[k] = true
  · simp [h]
  · simp [h]
theorem cntB_le {p : Int → Bool} {l : List Int} : cntB p l ≤ l.length := List.length_filter_le _ _
theorem cntB_take_le {p : Int → Bool} {l : List Int} {k : Nat} : cntB p (l.take k) ≤ k := Nat.le_trans cntB_le (List.length_take_le _ _)

def jamHops (l j : List Int) : Int := if (hopsB l 16 && jamB j) = true then cntB (hasB j) l else -1




/-- How often each of ch channels is among the numbers. -/
def loadL (m : Nat) (l : List Int) : List Int := (List.range m).map fun c : Nat => (cntB (fun x => x == (c : Int)) l : Int)
theorem loadL_length {m : Nat} {l : List Int} : (loadL m l).length = m := by simp [loadL]
theorem loadL_get {m : Nat} {l : List Int} {c : Nat} (h : c < m) : (loadL m l).getD c 0 = cntB (fun x => x == (c : Int)) l := by simp [loadL, List.getD, h]
theorem loadL_nil {m : Nat} : loadL m [] = List.replicate m 0 := by
  unfold loadL
  apply List.ext_getElem
  · simp
  · intro i h1 h2; simp [cntB]
theorem loadL_step {m : Nat} {l : List Int} {k x : Nat} (hk : k < l.length) (hx : l[k] = (x : Int)) : loadL m (l.take (k + 1)) = (loadL m (l.take k)).set x (cntB (fun y => y == (x : Int)) (l.take k) + 1) := by
  apply List.ext_getElem
  · simp [loadL]
  · intro i h1 h2
    have hi : i < m := by simpa [loadL] using h1
    rw [List.getElem_set]
    by_cases h : x = i
    · subst h
      rw [if_pos rfl]
      simp only [loadL, List.getElem_map, List.getElem_range]
      rw [cntB_succ hk, hx]
      simp
    · rw [if_neg h]
      simp only [loadL, List.getElem_map, List.getElem_range]
      rw [cntB_succ hk, hx]
      have : ((x : Int) == (i : Int)) = false := by simp; omega
      rw [this]; simp

theorem Own.cell {w : World} {lo g n c j : Nat} {l : List Int} (h : Own w lo (some ⟨g, 0, none⟩) n c l) (hj : j < n) : w.cell? ⟨g, j, none⟩ = some (.int .i64 (l.getD j 0)) := by
  rw [h.2.2.cellAt j (by omega)]
  exact getD_map_int (by have := h.1; omega)
theorem Own.free {w : World} {lo g n c : Nat} {l : List Int} (h : Own w lo (some ⟨g, 0, none⟩) n c l) (j : Nat) : w.frozen? ⟨g, j, none⟩ = false := h.2.2.frozenAt j
theorem Own.set {w : World} {lo g n c : Nat} {l : List Int} (h : Own w lo (some ⟨g, 0, none⟩) n c l) (j : Nat) (y : Int) : Own (w.setCell ⟨g, j, none⟩ (.int .i64 y)) lo (some ⟨g, 0, none⟩) n c (l.set j y) :=
  ⟨by rw [List.length_set]; exact h.1, h.2.1, by have := (h.2.2.stored j (.int .i64 y)).1; rwa [← List.map_set] at this⟩
theorem Own.lo {w : World} {lo g n c : Nat} {l : List Int} (h : Own w lo (some ⟨g, 0, none⟩) n c l) : lo ≤ g := (h.lt _ rfl).1
theorem Own.of_row {w : World} {lo g n c : Nat} {l : List Int} (h : w.ownsRow lo 3 1 (.slice (some ⟨g, 0, none⟩) n c) n (l.map (Value.int .i64))) (hn : n = l.length) (hs : n ≤ 1099511627776) : Own w lo (some ⟨g, 0, none⟩) n c l := ⟨hn, hs, h⟩

def loadOf (l : List Int) (ch : Int) : List Int := if hopsB l ch = true then loadL ch.toNat l else []

end Go.Proofs.YtaoahgngpjoekaaDoor
