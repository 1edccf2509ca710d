/- Which numbers are hops of how many channels: the program's and the reference's tests come to one Lean function, hopsB. No condition beyond a length of at most 2 to the 40. -/
import Derived.Test.YtdedcablhahbnaaDoorInts
namespace Go.Proofs.YtdedcablhahbnaaDoor
open Go.RowKit

def inB (n a b : Int) : Bool := decide (a ≤ n) && decide (n ≤ b)
def allB (a b : Int) (l : List Int) : Bool := l.all fun n => inB n a b
def chB (c : Int) : Bool := inB c 1 16
def hopsB (l : List Int) (ch : Int) : Bool := chB ch && decide (l.length ≤ 300) && allB 0 (ch - 1) l
def jamB (l : List Int) : Bool := decide (l.length ≤ 16) && allB 0 15 l

theorem inB_true {n a b : Int} (h : a ≤ n) (h' : n ≤ b) : inB n a b = true := by simp [inB, h, h']
theorem inB_lo {n a b : Int} (h : n < a) : inB n a b = false := by simp [inB]; omega
theorem inB_hi {n a b : Int} (h : b < n) : inB n a b = false := by simp [inB]; omega
theorem inB_iff {n a b : Int} : inB n a b = true ↔ a ≤ n ∧ n ≤ b := by simp [inB]
theorem chB_iff {ch : Int} : chB ch = true ↔ 1 ≤ ch ∧ ch ≤ 16 := inB_iff
theorem hopsB_ch {l : List Int} {ch : Int} (h : hopsB l ch = true) : (1 ≤ ch ∧ ch ≤ 16) ∧ l.length ≤ 300 ∧ allB 0 (ch - 1) l = true := by
  unfold hopsB at h
  simp only [Bool.and_eq_true, decide_eq_true_eq] at h
  exact ⟨inB_iff.1 h.1.1, h.1.2, h.2⟩
theorem allB_take_succ {a b : Int} {l : List Int} {k : Nat} (hk : k < l.length) (h : allB a b (l.take k) = true) (h1 : inB l[k] a b = true) : allB a b (l.take (k + 1)) = true := by
  unfold allB at *
  rw [List.take_succ_eq_append_getElem hk, List.all_append, h]
  simp [h1]
theorem allB_false {a b : Int} {l : List Int} {k : Nat} (hk : k < l.length) (h1 : inB l[k] a b = false) : allB a b l = false := by
  unfold allB
  rw [List.all_eq_false]; exact ⟨l[k], List.getElem_mem hk, by simp [h1]⟩
theorem allB_whole {a b : Int} {l : List Int} {k : Nat} (hk : l.length ≤ k) (h : allB a b (l.take k) = true) : allB a b l = true := by
  rwa [List.take_of_length_le hk] at h
theorem allB_get {a b : Int} {l : List Int} (h : allB a b l = true) {k : Nat} (hk : k < l.length) : a ≤ l[k] ∧ l[k] ≤ b := by
  unfold allB at h
  rw [List.all_eq_true] at h
  exact inB_iff.1 (h _ (List.getElem_mem hk))
theorem allB_mono {a b b' : Int} {l : List Int} (h : allB a b l = true) (hb : b ≤ b') : allB a b' l = true := by
  unfold allB at *
  rw [List.all_eq_true] at *
  intro x hx
  have := inB_iff.1 (h x hx)
  exact inB_true this.1 (by omega)

set_option maxHeartbeats 400000 in
theorem l1In_c (n a b : Int) (w : World) : Calls Tryd.prog 52 #[.int .i64 n, .int .i64 a, .int .i64 b] w fun e w' => e = .returned (.bool (inB n a b)) ∧ w = w' := by
  by_cases h1 : a ≤ n <;> by_cases h2 : n ≤ b <;> (
  go_enter Tryd.func52, Tryd.ntmps52
  go_wp2
  go_ret
  simp [h1, h2, inB])





theorem hopsB16 {l : List Int} : hopsB l 16 = (decide (l.length ≤ 300) && allB 0 15 l) := by
  unfold hopsB
  rw [show chB 16 = true from rfl]
  simp


theorem hops_all {l : List Int} {ch : Int} : hopsB l ch = ((l.all fun x => decide (x < ch)) && (chB ch && hopsB l 16)) := by
  rw [hopsB16]
  unfold hopsB allB
  by_cases hc : chB ch = true
  · have hc' := inB_iff.1 hc
    rw [hc]
    by_cases hl : l.length ≤ 300
    · rw [decide_eq_true hl]
      simp only [Bool.true_and]
      rw [Bool.eq_iff_iff, Bool.and_eq_true, List.all_eq_true, List.all_eq_true, List.all_eq_true]
      constructor
      · intro h
        exact ⟨fun x hx => by have := inB_iff.1 (h x hx); simp; omega, fun x hx => by have := inB_iff.1 (h x hx); exact inB_true this.1 (by omega)⟩
      · rintro ⟨h, h'⟩ x hx
        have a := h x hx
        have b := inB_iff.1 (h' x hx)
        simp at a
        exact inB_true b.1 (by omega)
    · rw [decide_eq_false hl]; simp
  · have : chB ch = false := by simpa using hc
    rw [this]; simp

end Go.Proofs.YtdedcablhahbnaaDoor
