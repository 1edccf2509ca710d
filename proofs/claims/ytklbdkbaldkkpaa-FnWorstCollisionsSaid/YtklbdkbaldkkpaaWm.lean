/- Meetings turned round: who is shifted against whom. Plain mathematics. -/
import Derived.Test.YtklbdkbaldkkpaaWc
namespace Go.Proofs.Ytklbdkbaldkkpaa
open Go.RowKit

def Sg (n : Nat) (f : Nat → Nat) : Nat := ((List.range n).map f).sum
theorem Sg_zero (f : Nat → Nat) : Sg 0 f = 0 := rfl
theorem Sg_succ (n : Nat) (f : Nat → Nat) : Sg (n + 1) f = Sg n f + f n := by unfold Sg; rw [List.range_succ, List.map_append, List.sum_append]; simp
theorem Sg_congr {n : Nat} {f g : Nat → Nat} (h : ∀ i, i < n → f i = g i) : Sg n f = Sg n g := by
  unfold Sg; congr 1; exact List.map_congr_left fun i hi => h i (List.mem_range.1 hi)
theorem Sg_shift (n : Nat) (g : Nat → Nat) : Sg n (fun s => g (s + 1)) + g 0 = Sg n g + g n := by
  induction n with
  | zero => rfl
  | succ n ih => rw [Sg_succ, Sg_succ]; omega
theorem Sg_rot {n : Nat} (f : Nat → Nat) (i : Nat) (_h0 : 0 < n) : Sg n (fun s => f ((i + s) % n)) = Sg n f := by
  induction i with
  | zero => exact Sg_congr fun s hs => by rw [Nat.zero_add, Nat.mod_eq_of_lt hs]
  | succ i ih =>
    have h : Sg n (fun s => f ((i + (s + 1)) % n)) + f ((i + 0) % n) = Sg n (fun s => f ((i + s) % n)) + f ((i + n) % n) := Sg_shift n (fun s => f ((i + s) % n))
    have e0 : f ((i + 0) % n) = f ((i + n) % n) := by rw [Nat.add_zero, Nat.add_mod_right]
    have e1 : Sg n (fun s => f ((i + (s + 1)) % n)) = Sg n (fun s => f ((i + 1 + s) % n)) := Sg_congr fun s _ => by rw [show i + (s + 1) = i + 1 + s by omega]
    rw [← e1]
    omega
theorem cntR_Sg (p : Nat → Bool) (n : Nat) : cntR p n = Sg n (fun i => if p i = true then 1 else 0) := by
  induction n with
  | zero => rfl
  | succ n ih => rw [cntR_succ, Sg_succ, ih]
theorem meet_Sg (a b : List Int) (k : Int) : meet a b k = Sg a.length (fun i => if a.getD i 0 = b.getD ((i + (k % b.length).toNat) % b.length) 0 then 1 else 0) := by
  unfold meet
  rw [cntR_Sg]
  refine Sg_congr fun i _ => ?_
  unfold meetB
  by_cases h : a.getD i 0 = b.getD ((i + (k % b.length).toNat) % b.length) 0
  · rw [if_pos h, if_pos (by simpa using h)]
  · rw [if_neg h, if_neg (by simpa using h)]
theorem meet_turn {a b : List Int} (k : Int) (hn : a.length = b.length) (h0 : 0 < a.length) : meet b a (-(k.tmod b.length)) = meet a b k := by
  rw [meet_Sg, meet_Sg, hn]
  have hn0 : (b.length : Int) ≠ 0 := by omega
  obtain ⟨r, hr⟩ : ∃ r, r = (k % (b.length : Int)).toNat := ⟨_, rfl⟩
  obtain ⟨r', hr'⟩ : ∃ r', r' = (-(k.tmod (b.length : Int)) % (b.length : Int)).toNat := ⟨_, rfl⟩
  have h1 := Int.emod_nonneg k hn0
  have h2 := Int.emod_nonneg (-(k.tmod (b.length : Int))) hn0
  have hsum : (r + r') % b.length = 0 := by
    have e : (((r + r') % b.length : Nat) : Int) = 0 := by
      rw [Int.natCast_emod, Int.natCast_add, hr, hr', Int.toNat_of_nonneg h1, Int.toNat_of_nonneg h2, ← Int.add_emod]
      have := Int.mul_tdiv_add_tmod k b.length
      rw [show k + -(k.tmod (b.length : Int)) = b.length * k.tdiv b.length by omega, Int.mul_emod_right]
    omega
  rw [← hr, ← hr']
  rw [← Sg_rot (fun i => if b.getD i 0 = a.getD ((i + r') % b.length) 0 then 1 else 0) r (by omega)]
  refine Sg_congr fun j hj => ?_
  have e1 : ((r + j) % b.length + r') % b.length = j := by
    rw [Nat.mod_add_mod, show r + j + r' = (r + r') + j by omega, Nat.add_mod, hsum, Nat.zero_add, Nat.mod_mod, Nat.mod_eq_of_lt hj]
  rw [e1, Nat.add_comm r j]
  by_cases e : a.getD j 0 = b.getD ((j + r) % b.length) 0
  · rw [if_pos e, if_pos e.symm]
  · rw [if_neg e, if_neg (fun h => e h.symm)]

theorem meet_mod {a b : List Int} {k k' : Int} (h : k % (b.length : Int) = k' % (b.length : Int)) : meet a b k = meet a b k' := by unfold meet; rw [h]
/-- The shift that undoes another. -/
def undo (D k : Nat) : Nat := (D - k) % D
theorem undo_lt {D k : Nat} (h : k < D) : undo D k < D := Nat.mod_lt _ (by omega)
theorem mt_turn {L : List (List Int)} {i j k : Nat} (hi : (L.getD i []).length = (hd L).length) (hj : (L.getD j []).length = (hd L).length) (hk : k < (hd L).length) : mt L i j k = mt L j i (undo (hd L).length k) := by
  unfold mt
  generalize (hd L).length = D at *
  have h := meet_turn (a := L.getD i []) (b := L.getD j []) (k : Int) (by omega) (by omega)
  rw [← h]
  congr 1
  refine meet_mod ?_
  rw [hi, hj]
  have h1 : ((k : Int)).tmod (D : Int) = (k : Int) := Int.tmod_eq_of_lt (by omega) (by omega)
  rw [h1]
  unfold undo
  rw [Int.natCast_emod, Int.emod_emod_of_dvd _ (Int.dvd_refl _), Int.natCast_sub (by omega), show (D : Int) - (k : Int) = -(k : Int) + D by omega, Int.add_emod_right]
theorem best_turn {L : List (List Int)} {v : Int} (hok : allOk L = true) (h : Best (mt L) (fun i j k => i < j ∧ j < L.length ∧ k < (hd L).length) v) : WPost L v := by
  unfold WPost
  rw [if_pos hok]
  have hr : ∀ i, i < L.length → (L.getD i []).length = (hd L).length := by
    intro i hi
    unfold allOk at hok
    rw [Bool.and_eq_true, List.all_eq_true] at hok
    have := (rowB_parts (hok.2 L[i] (List.getElem_mem hi))).2.2
    simpa [List.getD, hi] using this
  refine ⟨fun i j k hp => ?_, h.2.1, ?_⟩
  · rw [mt_turn (hr i (by omega)) (hr j (by omega)) hp.2.2]
    exact h.1 j i _ ⟨hp.1, hp.2.1, undo_lt hp.2.2⟩
  · rcases h.2.2 with h1 | ⟨i, j, k, h1, h2⟩
    · exact .inl h1
    · exact .inr ⟨j, i, undo (hd L).length k, ⟨h1.1, h1.2.1, undo_lt h1.2.2⟩, by rw [h2]; exact mt_turn (hr i (by omega)) (hr j h1.2.1) h1.2.2⟩

end Go.Proofs.Ytklbdkbaldkkpaa
