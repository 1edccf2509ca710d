/- FnCopies' plain law: what k copies together tell. -/
import Derived.Test.YtaoahgngpjoekaaDoorEc
import Derived.Test.YtaoahgngpjoekaaDoorEf
import Derived.Test.YtaoahgngpjoekaaDoorHc
namespace Go.Proofs.YtaoahgngpjoekaaDoor
open Go.RowKit

theorem codes_rng {s : ByteArray} {x : Int} (h : x ∈ codes s) : 0 ≤ x ∧ x < 256 := by
  unfold codes at h
  obtain ⟨b, _, rfl⟩ := List.mem_map.1 h
  have := b.toNat_lt
  omega
theorem bitsB_cd {s : ByteArray} (h : bitsB s = true) {i : Nat} (hi : i < s.size) : cd s i = 48 ∨ cd s i = 49 := by
  unfold bitsB allS at h
  rw [Bool.and_eq_true, List.all_eq_true] at h
  have := h.2 s[i] (by rw [← Array.mem_def]; exact ByteArray.getElem_eq_getElem_data (h := hi) ▸ Array.getElem_mem _)
  rw [cd_eq hi]
  simp [bitC] at this
  omega
/-- A text whose places hold 63 where g says so, else what s holds. -/
def holeT (s : ByteArray) (g : Nat → Bool) : ByteArray := text ((List.range s.size).map fun i => if g i = true then 63 else (codes s).getD i 0)
theorem sendT_hole (s : ByteArray) (l j : List Int) (f : Nat) : sendT s l j f = holeT s (gone l j f) := rfl
theorem hole_size (s : ByteArray) (g : Nat → Bool) : (holeT s g).size = s.size := by unfold holeT; rw [text_size, List.length_map, List.length_range]
theorem cd_hole {s : ByteArray} {g : Nat → Bool} {i : Nat} (h : i < s.size) : cd (holeT s g) i = if g i = true then 63 else cd s i := by
  unfold cd holeT
  rw [codes_textR]
  · have hl : i < ((List.range s.size).map fun i => if g i = true then (63 : Int) else (codes s).getD i 0).length := by rw [List.length_map, List.length_range]; exact h
    rw [List.getD_eq_getElem?_getD, List.getElem?_eq_getElem hl, Option.getD_some, List.getElem_map, List.getElem_range]
  · intro x hx
    obtain ⟨k, hk, rfl⟩ := List.mem_map.1 hx
    have hk := List.mem_range.1 hk
    split
    · omega
    · rw [List.getD_eq_getElem?_getD, List.getElem?_eq_getElem (by rw [codes_length]; exact hk), Option.getD_some]
      exact codes_rng (List.getElem_mem _)
theorem hole_copy {s : ByteArray} (g : Nat → Bool) (h : bitsB s = true) : copyB (holeT s g) = true := by
  rw [copyB_iff, hole_size]
  refine ⟨bitsB_600 h, fun i hi => ?_⟩
  rw [cd_hole hi]
  split
  · omega
  · rcases bitsB_cd h hi with e | e <;> omega
/-- Is bit i lost in each of the first k copies? -/
def goneA (l j : List Int) (z k i : Nat) : Bool := (List.range k).all fun q => gone l j (q * z) i
theorem cp_comb {s : ByteArray} {l j : List Int} {k : Nat} (h : bitsB s = true) (h1 : 1 ≤ k) (h2 : k ≤ 16) : IsComb (cpL s l j k) (holeT s (goneA l j s.size k)) := by
  have hm : ∀ u ∈ cpL s l j k, ∃ q, q < k ∧ u = holeT s (gone l j (q * s.size)) := by
    intro u hu
    obtain ⟨q, hq, rfl⟩ := List.mem_map.1 hu
    exact ⟨q, List.mem_range.1 hq, rfl⟩
  refine ⟨by rw [cpL_length]; exact h1, by rw [cpL_length]; exact h2, fun u hu => ?_, fun i hi u hu => ?_, fun i hi => ?_⟩
  · obtain ⟨q, _, rfl⟩ := hm u hu
    exact ⟨hole_copy _ h, by rw [hole_size, hole_size]⟩
  · obtain ⟨q, hq, rfl⟩ := hm u hu
    rw [hole_size] at hi
    rw [cd_hole hi, cd_hole hi]
    by_cases h3 : gone l j (q * s.size) i = true
    · rw [if_pos h3]; exact .inl rfl
    · rw [if_neg h3, if_neg]
      · exact .inr rfl
      · intro h4
        exact h3 (List.all_eq_true.1 h4 q (List.mem_range.2 hq))
  · rw [hole_size] at hi
    rw [cd_hole hi]
    by_cases h4 : goneA l j s.size k i = true
    · rw [if_pos h4]
      have h5 := List.all_eq_true.1 h4 0 (List.mem_range.2 h1)
      exact ⟨sendT s l j (0 * s.size), List.mem_map.2 ⟨0, List.mem_range.2 h1, rfl⟩, by rw [sendT_hole, cd_hole hi, if_pos h5]⟩
    · rw [if_neg h4]
      have : ∃ q, q < k ∧ gone l j (q * s.size) i = false := by
        have h4' : goneA l j s.size k i = false := by simpa using h4
        obtain ⟨q, hq, h5⟩ := List.all_eq_false.1 h4'
        exact ⟨q, List.mem_range.1 hq, by simpa using h5⟩
      obtain ⟨q, hq, h5⟩ := this
      exact ⟨sendT s l j (q * s.size), List.mem_map.2 ⟨q, List.mem_range.2 hq, rfl⟩, by rw [sendT_hole, cd_hole hi, h5]; rfl⟩
theorem cp_some {s : ByteArray} {l j : List Int} {k : Nat} (h : bitsB s = true) (h1 : 1 ≤ k) (h2 : k ≤ 16) : combR (cpL s l j k) = some (cpAll s l j k) := by
  unfold cpAll; rw [combR_if (cp_comb h h1 h2)]; rfl
theorem cp_hole {s : ByteArray} {l j : List Int} {k : Nat} (h : bitsB s = true) (h1 : 1 ≤ k) (h2 : k ≤ 16) : cpAll s l j k = holeT s (goneA l j s.size k) := by
  unfold cpAll; rw [combR_if (cp_comb h h1 h2)]; rfl
/-- How many bits are lost in k copies. -/
def cpN (s : ByteArray) (l j : List Int) (k : Nat) : Nat := lostN (cpAll s l j k)
theorem cp_lost {s : ByteArray} {l j : List Int} {k : Nat} (h : bitsB s = true) (h1 : 1 ≤ k) (h2 : k ≤ 16) : lostR (cpAll s l j k) = (cpN s l j k : Int) :=
  lostR_yes (by rw [cp_hole h h1 h2]; exact hole_copy _ h)
theorem cp_mono {s : ByteArray} {l j : List Int} {k : Nat} (h : bitsB s = true) (h1 : 1 ≤ k) (h2 : k + 1 ≤ 16) : cpN s l j (k + 1) ≤ cpN s l j k := by
  unfold cpN
  rw [cp_hole h h1 (by omega), cp_hole h (by omega) h2]
  have := lostK_mono (s := holeT s (goneA l j s.size k)) (t := holeT s (goneA l j s.size (k + 1))) (by rw [hole_size, hole_size]) (fun i hi hq => by
    rw [hole_size] at hi
    rw [cd_hole hi] at hq
    rw [cd_hole hi]
    by_cases h3 : goneA l j s.size (k + 1) i = true
    · rw [if_pos]
      unfold goneA at h3 ⊢
      rw [List.all_eq_true] at h3 ⊢
      intro q hq
      have := List.mem_range.1 hq
      exact h3 q (List.mem_range.2 (by omega))
    · rw [if_neg h3] at hq
      rcases bitsB_cd h hi with e | e <;> omega) s.size (by rw [hole_size]; exact Nat.le_refl _)
  have e1 := lostK_all (holeT s (goneA l j s.size k))
  have e2 := lostK_all (holeT s (goneA l j s.size (k + 1)))
  rw [hole_size] at e1 e2
  omega
/-- What CopiesNeeded answers, over the numbers of lost bits. -/
theorem cpn_is {s : ByteArray} {l j : List Int} (h : bitsB s = true) : ∀ f k : Nat, k + f ≤ 16 →
    (cpnF s l j f k = -1 ∧ ∀ q, k < q → q ≤ k + f → cpN s l j q ≠ 0) ∨ (∃ v : Nat, cpnF s l j f k = v ∧ k < v ∧ v ≤ k + f ∧ cpN s l j v = 0 ∧ ∀ q, k < q → q < v → cpN s l j q ≠ 0)
  | 0, k, _ => .inl ⟨rfl, fun q h1 h2 => by omega⟩
  | f + 1, k, hk => by
    rw [cpnF, cp_lost h (by omega) (by omega)]
    by_cases h0 : cpN s l j (k + 1) = 0
    · rw [if_pos (by rw [h0]; rfl)]
      exact .inr ⟨k + 1, rfl, by omega, by omega, h0, fun q h1 h2 => by omega⟩
    · rw [if_neg (by rw [beq_iff_eq]; omega)]
      rcases cpn_is h f (k + 1) (by omega) with ⟨h1, h2⟩ | ⟨v, h1, h2, h3, h4, h5⟩
      · refine .inl ⟨h1, fun q h3 h4 => ?_⟩
        by_cases hq : q = k + 1
        · rw [hq]; exact h0
        · exact h2 q (by omega) (by omega)
      · refine .inr ⟨v, h1, by omega, by omega, h4, fun q h6 h7 => ?_⟩
        by_cases hq : q = k + 1
        · rw [hq]; exact h0
        · exact h5 q (by omega) h7
theorem cp_down {s : ByteArray} {l j : List Int} (h : bitsB s = true) {v : Nat} (hv : 1 ≤ v) (h0 : cpN s l j v = 0) : ∀ d, v + d ≤ 16 → cpN s l j (v + d) = 0
  | 0, _ => h0
  | d + 1, hd => by
    have := cp_mono (s := s) (l := l) (j := j) (k := v + d) h (by omega) (by omega)
    rw [cp_down h hv h0 d (by omega)] at this
    show cpN s l j (v + d + 1) = 0
    omega
/-- THE PLAIN LAW: k+1 copies tell all bits exactly if as many are needed at most. -/
theorem copies_law {s : ByteArray} {l j : List Int} {M k : Nat} (h : bitsB s = true) (hM : M ≤ 16) (hk : k < M) :
    (lostR (cpAll s l j (k + 1)) == 0) = (decide (0 < cpnF s l j M 0) && decide (cpnF s l j M 0 ≤ (k : Int) + 1)) := by
  rw [cp_lost h (by omega) (by omega)]
  rcases cpn_is (s := s) (l := l) (j := j) h M 0 (by omega) with ⟨h1, h2⟩ | ⟨v, h1, h2, h3, h4, h5⟩
  · have := h2 (k + 1) (by omega) (by omega)
    rw [h1, show decide ((0 : Int) < -1) = false from rfl, Bool.false_and, beq_eq_false_iff_ne]
    omega
  · rw [h1, decide_eq_true (show (0 : Int) < (v : Int) by omega), Bool.true_and]
    by_cases hq : v ≤ k + 1
    · have := cp_down h (by omega) h4 (k + 1 - v) (by omega)
      rw [show v + (k + 1 - v) = k + 1 by omega] at this
      rw [this, decide_eq_true (by omega)]; rfl
    · have := h5 (k + 1) (by omega) (by omega)
      rw [decide_eq_false (by omega), beq_eq_false_iff_ne]; omega
/-- Sending with shifted hops. -/
theorem send_rot {s : ByteArray} {l j : List Int} (f : Nat) (h0 : 0 < l.length) : sendT s (rotL (f % l.length) l) j 0 = sendT s l j f := by
  have hm : f % l.length < l.length := Nat.mod_lt _ h0
  have hl : (rotL (f % l.length) l).length = l.length := by
    unfold rotL; rw [List.length_append, List.length_drop, List.length_take]; omega
  rw [sendT_hole, sendT_hole]
  congr 1
  funext i
  unfold gone
  rw [hl, Nat.zero_add, rot_get hm (Nat.mod_lt _ h0), Nat.mod_add_mod, Nat.add_mod_mod, Nat.add_comm i f]

end Go.Proofs.YtaoahgngpjoekaaDoor
