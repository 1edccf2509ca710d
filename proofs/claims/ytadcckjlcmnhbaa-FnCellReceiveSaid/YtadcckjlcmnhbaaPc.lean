/- Codes of paths none of which begins with the other are orthogonal, and what a station's code tells of a cell's signal. No condition beyond lengths. -/
import Derived.Test.YtadcckjlcmnhbaaNf
import Derived.Test.YtadcckjlcmnhbaaLc
import Derived.Test.YtadcckjlcmnhbaaQc
namespace Go.Proofs.Ytadcckjlcmnhbaa
open Go.RowKit

/-- Sums of a function's first values. -/
def sm (f : Nat → Int) : Nat → Int
  | 0 => 0
  | k + 1 => sm f k + f k
theorem sm_congr {f g : Nat → Int} : ∀ {k : Nat}, (∀ i, i < k → f i = g i) → sm f k = sm g k
  | 0, _ => rfl
  | k + 1, h => by unfold sm; rw [sm_congr fun i hi => h i (by omega), h k (by omega)]
theorem sm_zero {f : Nat → Int} {k : Nat} (h : ∀ i, i < k → f i = 0) : sm f k = 0 := by
  rw [sm_congr h]
  induction k with
  | zero => rfl
  | succ k ih => unfold sm; rw [ih (fun i hi => h i (by omega))]; rfl
theorem sm_mul (c : Int) (f : Nat → Int) : ∀ k, sm (fun i => c * f i) k = c * sm f k
  | 0 => by simp [sm]
  | k + 1 => by simp only [sm]; rw [sm_mul c f k, Int.mul_add]
theorem sm_plus (f g : Nat → Int) : ∀ k, sm (fun i => f i + g i) k = sm f k + sm g k
  | 0 => rfl
  | k + 1 => by simp only [sm]; rw [sm_plus f g k]; omega
theorem sm_add (f : Nat → Int) (a : Nat) : ∀ b, sm f (a + b) = sm f a + sm (fun i => f (a + i)) b
  | 0 => by simp [sm]
  | b + 1 => by rw [← Nat.add_assoc]; simp only [sm]; rw [sm_add f a b]; omega
theorem sm_blocks {f : Nat → Int} {K : Nat} : ∀ {N : Nat}, (∀ j, j < N → sm (fun i => f (j * K + i)) K = 0) → sm f (N * K) = 0
  | 0, _ => by rw [Nat.zero_mul]; rfl
  | N + 1, h => by
    rw [Nat.succ_mul, sm_add, sm_blocks (fun j hj => h j (by omega)), h N (by omega)]; rfl
theorem sm_const (c : Int) : ∀ k : Nat, sm (fun _ => c) k = c * k
  | 0 => by simp [sm]
  | k + 1 => by simp only [sm]; rw [sm_const c k, Int.natCast_add, Int.mul_add]; simp
theorem dotN_sm (l s : List Int) (f k : Nat) : dotN l s f k = sm (fun i => chipC (s.getD i 0) * l.getD (f + i) 0) k := by
  induction k with
  | zero => rfl
  | succ k ih => simp only [dotN, sm]; rw [ih]

/-- The chip number i of the code of a path's first n bits. -/
def tw (p : ByteArray) (n i : Nat) : Int := chipC ((treeL p n).getD i 0)
def sgp (p : ByteArray) (b : Nat) : Int := chipC ((codes p).getD b 0)
theorem chipC_sq (x : Int) : chipC x * chipC x = 1 := by rcases chipC_or x with h | h <;> rw [h] <;> rfl
theorem chipC_inv {x : Int} (h : isBit x) : chipC (97 - x) = -chipC x := by rcases h with rfl | rfl <;> decide
theorem tw_low (p : ByteArray) (n : Nat) {i : Nat} (h : i < 2 ^ n) : tw p (n + 1) i = tw p n i := by
  unfold tw
  conv => lhs; unfold treeL
  rw [List.getD_eq_getElem?_getD, List.getElem?_append_left (by rw [treeL_len]; exact h), ← List.getD_eq_getElem?_getD]
theorem tw_high (p : ByteArray) (n : Nat) {i : Nat} (h : i < 2 ^ n) : tw p (n + 1) (2 ^ n + i) = sgp p n * tw p n i := by
  unfold tw sgp
  conv => lhs; unfold treeL
  rw [List.getD_eq_getElem?_getD, List.getElem?_append_right (by rw [treeL_len]; omega), treeL_len, show 2 ^ n + i - 2 ^ n = i by omega, ← List.getD_eq_getElem?_getD]
  by_cases e : (codes p).getD n 0 = 48
  · rw [if_pos e, e, show chipC 48 = 1 from rfl, Int.one_mul]
  · rw [if_neg e, show chipC ((codes p).getD n 0) = -1 by unfold chipC; rw [if_neg e]]
    have hl : i < (treeL p n).length := by rw [treeL_len]; exact h
    rw [getD_ints (by rw [invL_len]; exact hl), invL_get, getD_ints hl, chipC_inv (treeL_bit p n _ (List.getElem_mem hl))]
    omega
theorem tw_block (p : ByteArray) (m : Nat) : ∀ d, ∃ c : Nat → Int, ∀ i, i < 2 ^ (m + d) → tw p (m + d) i = c (i / 2 ^ m) * tw p m (i % 2 ^ m)
  | 0 => ⟨fun _ => 1, fun i hi => by rw [Nat.add_zero] at *; rw [Nat.mod_eq_of_lt hi, Int.one_mul]⟩
  | d + 1 => by
    obtain ⟨c, hc⟩ := tw_block p m d
    refine ⟨fun j => if j < 2 ^ d then c j else sgp p (m + d) * c (j - 2 ^ d), fun i hi => ?_⟩
    have hp : 0 < 2 ^ m := Nat.two_pow_pos m
    have e : 2 ^ (m + d) = 2 ^ m * 2 ^ d := Nat.pow_add _ _ _
    show tw p (m + d + 1) i = _
    by_cases h : i < 2 ^ (m + d)
    · have : i / 2 ^ m < 2 ^ d := by rw [Nat.div_lt_iff_lt_mul hp, Nat.mul_comm]; omega
      rw [tw_low _ _ h, hc i h]
      simp only [if_pos this]
    · obtain ⟨j, rfl⟩ : ∃ j, i = 2 ^ (m + d) + j := ⟨i - 2 ^ (m + d), by omega⟩
      have hi' : 2 ^ (m + d) + j < 2 ^ (m + d) + 2 ^ (m + d) := by
        rw [← Nat.add_assoc, Nat.pow_succ, Nat.mul_two] at hi
        exact hi
      have hj : j < 2 ^ (m + d) := Nat.lt_of_add_lt_add_left hi'
      rw [tw_high _ _ hj, hc j hj]
      have e1 : (2 ^ (m + d) + j) / 2 ^ m = 2 ^ d + j / 2 ^ m := by rw [e, Nat.mul_add_div hp]
      have e2 : (2 ^ (m + d) + j) % 2 ^ m = j % 2 ^ m := by rw [e, Nat.mul_add_mod]
      have h3 : ¬ (2 ^ d + j / 2 ^ m) < 2 ^ d := Nat.not_lt.2 (Nat.le_add_right _ _)
      rw [e1, e2]
      simp only [if_neg h3]
      rw [Nat.add_sub_cancel_left, Int.mul_assoc]
theorem tw_orth (p q : ByteArray) : ∀ m, (∃ b, b < m ∧ sgp p b = -sgp q b) → sm (fun i => tw p m i * tw q m i) (2 ^ m) = 0
  | 0, ⟨b, hb, _⟩ => absurd hb (by omega)
  | m + 1, h => by
    have e : sm (fun i => tw p (m + 1) i * tw q (m + 1) i) (2 ^ (m + 1)) = sm (fun i => tw p m i * tw q m i) (2 ^ m) + (sgp p m * sgp q m) * sm (fun i => tw p m i * tw q m i) (2 ^ m) := by
      rw [Nat.pow_succ, Nat.mul_two, sm_add]
      congr 1
      · exact sm_congr fun i hi => by rw [tw_low _ _ hi, tw_low _ _ hi]
      · rw [← sm_mul]
        refine sm_congr fun i hi => ?_
        rw [tw_high _ _ hi, tw_high _ _ hi]
        rw [Int.mul_assoc, Int.mul_assoc, Int.mul_left_comm (tw p m i)]
    rw [e]
    by_cases hb : ∃ b, b < m ∧ sgp p b = -sgp q b
    · rw [tw_orth p q m hb]; simp
    · obtain ⟨b, h1, h2⟩ := h
      have : b = m := by
        rcases Nat.lt_or_ge b m with h | h
        · exact absurd ⟨b, h, h2⟩ hb
        · omega
      subst this
      have h3 : sgp p b * sgp q b = -1 := by
        rw [h2, Int.neg_mul]; unfold sgp; rw [chipC_sq]
      rw [h3]; omega
theorem tw_self (p : ByteArray) (m : Nat) : sm (fun i => tw p m i * tw p m i) (2 ^ m) = ((2 ^ m : Nat) : Int) := by
  rw [sm_congr (g := fun _ => 1) fun i _ => (by unfold tw; exact chipC_sq _), sm_const]; omega

/-- Two rows of scaled copies of orthogonal parts. -/
theorem dot_blocks {u v c d : Nat → Int} {A B : Nat → Int} {K N : Nat} (h : sm (fun i => u i * v i) K = 0)
    (hA : ∀ i, i < N * K → A i = c (i / K) * u (i % K)) (hB : ∀ i, i < N * K → B i = d (i / K) * v (i % K)) : sm (fun i => A i * B i) (N * K) = 0 := by
  refine sm_blocks fun j hj => ?_
  have hK : ∀ i, i < K → j * K + i < N * K := fun i hi => by
    have : (j + 1) * K ≤ N * K := Nat.mul_le_mul_right K hj
    rw [Nat.succ_mul] at this; omega
  have e : ∀ i, i < K → A (j * K + i) * B (j * K + i) = (c j * d j) * (u i * v i) := fun i hi => by
    have h0 : 0 < K := by omega
    have e1 : (j * K + i) / K = j := by rw [Nat.mul_comm, Nat.mul_add_div h0, Nat.div_eq_of_lt hi, Nat.add_zero]
    have e2 : (j * K + i) % K = i := by rw [Nat.mul_comm, Nat.mul_add_mod, Nat.mod_eq_of_lt hi]
    rw [hA _ (hK i hi), hB _ (hK i hi), e1, e2, Int.mul_assoc, Int.mul_assoc, Int.mul_left_comm (u i)]
  rw [sm_congr (g := fun i => (c j * d j) * (u i * v i)) e, sm_mul, h, Int.mul_zero]

theorem codes_treeT (p : ByteArray) : codes (treeT p) = treeL p p.size := codes_text (treeL_bit p p.size)
theorem treeT_sz (p : ByteArray) : (treeT p).size = 2 ^ p.size := by unfold treeT; rw [text_size, treeL_len]
/-- The samples of a station's signal. -/
theorem usr_get (p d : ByteArray) (g : Int) (i : Nat) : (usrL ⟨treeT p, d, g, 0⟩).getD i 0 = (if i / 2 ^ p.size < d.size then g * chipC ((codes d).getD (i / 2 ^ p.size) 0) else 0) * tw p p.size (i % 2 ^ p.size) := by
  have hp : 0 < 2 ^ p.size := Nat.two_pow_pos _
  unfold usrL
  simp only []
  rw [codes_treeT]
  by_cases h : i < d.size * 2 ^ p.size
  · have h1 : i / 2 ^ p.size < d.size := by rwa [Nat.div_lt_iff_lt_mul hp]
    have hl : i < (spreadL (codes d) (treeL p p.size)).length := by rw [spreadL_len, codes_length, treeL_len]; exact h
    rw [if_pos h1, scaleL_get g hl, ← getD_ints hl, spreadL_get _ _ (by rw [codes_length, treeL_len]; exact h), treeL_len]
    unfold tw
    rw [Int.mul_assoc]
  · have h1 : ¬ i / 2 ^ p.size < d.size := by rw [Nat.div_lt_iff_lt_mul hp]; exact h
    rw [if_neg h1, getD_past (by rw [scaleL_len, spreadL_len, codes_length, treeL_len]; omega), Int.zero_mul]
/-- They are copies of the beginning of the code. -/
theorem usr_blocks (p d : ByteArray) (g : Int) {m : Nat} (hm : m ≤ p.size) : ∃ D : Nat → Int, ∀ i, (usrL ⟨treeT p, d, g, 0⟩).getD i 0 = D (i / 2 ^ m) * tw p m (i % 2 ^ m) := by
  obtain ⟨e, he⟩ : ∃ e, p.size = m + e := ⟨p.size - m, by omega⟩
  obtain ⟨c, hc⟩ := tw_block p m e
  have hp : 0 < 2 ^ p.size := Nat.two_pow_pos _
  have hpe : 2 ^ p.size = 2 ^ m * 2 ^ e := by rw [he, Nat.pow_add]
  refine ⟨fun j => (if j / 2 ^ e < d.size then g * chipC ((codes d).getD (j / 2 ^ e) 0) else 0) * c (j % 2 ^ e), fun i => ?_⟩
  rw [usr_get]
  have h1 := hc (i % 2 ^ p.size) (by rw [← he]; exact Nat.mod_lt _ hp)
  rw [← he] at h1
  have e1 : i / 2 ^ p.size = i / 2 ^ m / 2 ^ e := by rw [hpe, Nat.div_div_eq_div_mul]
  have e2 : i % 2 ^ p.size % 2 ^ m = i % 2 ^ m := by rw [hpe, Nat.mod_mul_right_mod]
  have e3 : i % 2 ^ p.size / 2 ^ m = i / 2 ^ m % 2 ^ e := by rw [hpe, Nat.mod_mul_right_div_self]
  rw [h1, e1, e2, e3, Int.mul_assoc]
/-- Paths that go side by side differ in a bit that both have. -/
theorem conf_bit {p q : ByteArray} (hp : pathB p = true) (hq : pathB q = true) (h : confB p q = false) : ∃ b, b < min p.size q.size ∧ sgp p b = -sgp q b := by
  refine Classical.byContradiction fun hn => ?_
  have hn' : ∀ b, b < min p.size q.size → (codes p).getD b 0 = (codes q).getD b 0 := by
    intro b hb
    have h1 : b < p.size := by omega
    have h2 : b < q.size := by omega
    have hl1 : b < (codes p).length := by rw [codes_length]; exact h1
    have hl2 : b < (codes q).length := by rw [codes_length]; exact h2
    have b1 := bits_isBit (show bitsB p = true by unfold pathB at hp; rw [Bool.and_eq_true] at hp; unfold bitsB; rw [hp.2, decide_eq_true (by have := of_decide_eq_true hp.1; omega)]; rfl) _ (List.getElem_mem hl1)
    have b2 := bits_isBit (show bitsB q = true by unfold pathB at hq; rw [Bool.and_eq_true] at hq; unfold bitsB; rw [hq.2, decide_eq_true (by have := of_decide_eq_true hq.1; omega)]; rfl) _ (List.getElem_mem hl2)
    refine Classical.byContradiction fun e => hn ⟨b, hb, ?_⟩
    unfold sgp
    rw [getD_ints hl1, getD_ints hl2] at e ⊢
    rcases b1 with b1 | b1 <;> rcases b2 with b2 | b2 <;> rw [b1, b2] at e ⊢ <;> first | exact absurd rfl e | decide
  unfold confB at h
  rw [beq_eq_false_iff_ne] at h
  apply h
  congr 1
  apply ByteArray.ext_getElem
  · rw [ByteArray.size_extract, ByteArray.size_extract]; omega
  · intro i h1 h2
    rw [ByteArray.size_extract] at h1
    have e := hn' i (by omega)
    rw [codes_getD (by omega), codes_getD (by omega)] at e
    rw [ByteArray.getElem_extract, ByteArray.getElem_extract]
    simp only [Nat.zero_add]
    exact UInt8.toNat_inj.1 (by omega)

/-- The correlation with the code of a path of a station that goes beside. -/
theorem dot_other {p q d : ByteArray} (g : Int) (hp : pathB p = true) (hq : pathB q = true) (h : confB p q = false) (j : Nat) : dotN (usrL ⟨treeT q, d, g, 0⟩) (codes (treeT p)) (j * 2 ^ p.size) (2 ^ p.size) = 0 := by
  obtain ⟨m, hm⟩ : ∃ m, m = min p.size q.size := ⟨_, rfl⟩
  have hb := conf_bit hp hq h
  rw [← hm] at hb
  have ho := tw_orth p q m hb
  obtain ⟨e, he⟩ : ∃ e, p.size = m + e := ⟨p.size - m, by omega⟩
  obtain ⟨c, hc⟩ := tw_block p m e
  obtain ⟨D, hD⟩ := usr_blocks q d g (m := m) (by omega)
  have hpe : 2 ^ p.size = 2 ^ e * 2 ^ m := by rw [he, Nat.pow_add, Nat.mul_comm]
  rw [dotN_sm, codes_treeT, hpe]
  refine dot_blocks (c := c) (d := fun k => D (j * 2 ^ e + k)) ho (fun i hi => ?_) (fun i hi => ?_)
  · have := hc i (by rw [← he, hpe]; exact hi)
    rw [← he] at this
    exact this
  · rw [hD]
    have h0 : 0 < 2 ^ m := Nat.two_pow_pos _
    have e1 : (j * (2 ^ e * 2 ^ m) + i) / 2 ^ m = j * 2 ^ e + i / 2 ^ m := by rw [← Nat.mul_assoc, Nat.mul_comm _ (2 ^ m), Nat.mul_add_div h0]
    have e2 : (j * (2 ^ e * 2 ^ m) + i) % 2 ^ m = i % 2 ^ m := by rw [← Nat.mul_assoc, Nat.mul_comm _ (2 ^ m), Nat.mul_add_mod]
    rw [e1, e2]
/-- The correlation with the code of the station itself. -/
theorem dot_own (p d : ByteArray) (g : Int) (j : Nat) : dotN (usrL ⟨treeT p, d, g, 0⟩) (codes (treeT p)) (j * 2 ^ p.size) (2 ^ p.size) = (if j < d.size then g * chipC ((codes d).getD j 0) else 0) * ((2 ^ p.size : Nat) : Int) := by
  rw [dotN_sm, codes_treeT]
  have h0 : 0 < 2 ^ p.size := Nat.two_pow_pos _
  rw [sm_congr (g := fun i => (if j < d.size then g * chipC ((codes d).getD j 0) else 0) * (tw p p.size i * tw p p.size i)) fun i hi => ?_, sm_mul, tw_self]
  have e1 : (j * 2 ^ p.size + i) / 2 ^ p.size = j := by rw [Nat.mul_comm, Nat.mul_add_div h0, Nat.div_eq_of_lt hi, Nat.add_zero]
  have e2 : (j * 2 ^ p.size + i) % 2 ^ p.size = i := by rw [Nat.mul_comm, Nat.mul_add_mod, Nat.mod_eq_of_lt hi]
  rw [usr_get, e1, e2]
  show tw p p.size i * _ = _
  rw [Int.mul_left_comm]
theorem dot_add (a b s : List Int) (f k : Nat) : dotN (addL a b) s f k = dotN a s f k + dotN b s f k := by
  rw [dotN_sm, dotN_sm, dotN_sm, ← sm_plus]
  exact sm_congr fun i _ => by rw [addL_get, Int.mul_add]
theorem dot_nil (s : List Int) (f k : Nat) : dotN [] s f k = 0 := by
  rw [dotN_sm]; exact sm_zero fun i _ => by simp [List.getD]
theorem dot_fold (s : List Int) (f k : Nat) : ∀ (us : List Stn) (a : List Int), dotN (us.foldl (fun acc u => addL acc (usrL u)) a) s f k = dotN a s f k + (us.map fun u => dotN (usrL u) s f k).sum
  | [], a => by simp
  | u :: us, a => by rw [List.foldl_cons, dot_fold s f k us, dot_add, List.map_cons, List.sum_cons]; omega
theorem dot_send (us : List Stn) (s : List Int) (f k : Nat) : dotN (sgnlL us) s f k = (us.map fun u => dotN (usrL u) s f k).sum := by
  unfold sgnlL; rw [dot_fold, dot_nil]; omega
theorem sum_one {α : Type} (F : α → Int) : ∀ (l : List α) (k : Nat) (hk : k < l.length), (∀ i (h : i < l.length), i ≠ k → F (l[i]'h) = 0) → (l.map F).sum = F l[k]
  | x :: l, 0, _, h => by
    rw [List.map_cons, List.sum_cons]
    have : (l.map F).sum = 0 := by
      have hz : ∀ y ∈ l, F y = 0 := fun y hy => by
        obtain ⟨i, hi, rfl⟩ := List.getElem_of_mem hy
        exact h (i + 1) (by simpa using hi) (by omega)
      clear h
      induction l with
      | nil => rfl
      | cons y l ih => rw [List.map_cons, List.sum_cons, hz y (by simp), ih (by simp) (fun z hz' => hz z (by simp [hz']))]; rfl
    rw [this]; simp
  | x :: l, k + 1, hk, h => by
    rw [List.map_cons, List.sum_cons, sum_one F l k (by simpa using hk) (fun i hi hne => h (i + 1) (by simpa using hi) (by omega))]
    have := h 0 (by simp) (by omega)
    simp only [List.getElem_cons_zero] at this
    rw [this]; simp
/-- What the code of a station of a cell tells of the signal of all. -/
theorem dot_cell {l : List Stn} {ds : List ByteArray} (h : cellB l = true) (hd : ds.length = l.length) {k : Nat} (hk : k < l.length) (j : Nat) :
    dotN (sgnlL (usersOf l ds)) (codes (treeT l[k].ph)) (j * 2 ^ l[k].ph.size) (2 ^ l[k].ph.size) = (if j < (ds[k]'(by omega)).size then l[k].g / l[k].l * chipC ((codes (ds[k]'(by omega))).getD j 0) else 0) * ((2 ^ l[k].ph.size : Nat) : Int) := by
  have hdk : k < ds.length := by omega
  have hkl : k < (usersOf l ds).length := by rw [usersOf_len hd]; exact hk
  rw [dot_send, sum_one _ _ k hkl]
  · rw [usersOf_get hk hdk]; exact dot_own _ _ _ _
  · intro i hi hne
    have hil : i < l.length := by rw [usersOf_len hd] at hi; exact hi
    rw [usersOf_get hil (by omega)]
    obtain ⟨_, hst, hpw⟩ := cellB_iff.1 h
    have pk := stB_path (hst _ (List.getElem_mem hk))
    have pi := stB_path (hst _ (List.getElem_mem hil))
    rw [List.pairwise_iff_getElem] at hpw
    have hc : confB l[k].ph l[i].ph = false := by
      rcases Nat.lt_or_gt_of_ne hne with h1 | h1
      · rw [confB_comm]; exact (hpw i k hil hk h1).2
      · exact (hpw k i hk hil h1).2
    exact dot_other _ pk pi hc j

theorem idx_own {l : List Stn} (h : cellB l = true) {k : Nat} (hk : k < l.length) : idxS l l[k].nm = k := by
  refine idxS_at hk (fun j hj => ?_) (by simp)
  have := (cellB_iff.1 h).2.2
  rw [List.pairwise_iff_getElem] at this
  exact (this j k (by omega) hk hj).1
theorem bitsB_bit {s : ByteArray} (h : bitsB s = true) {j : Nat} (hj : j < s.size) : isBit ((codes s).getD j 0) := by
  have hl : j < (codes s).length := by rw [codes_length]; exact hj
  rw [getD_ints hl]; exact bits_isBit h _ (List.getElem_mem hl)
theorem sign_of {v : Int} {b : Int} (hv : 0 < v) (hb : isBit b) : signC (v * chipC b) = b := by
  rcases hb with rfl | rfl
  · have : chipC 48 = 1 := rfl
    rw [this, Int.mul_one]; unfold signC; rw [if_neg (by omega)]
  · have : chipC 49 = -1 := rfl
    rw [this]; unfold signC; rw [if_pos (by omega)]
theorem pow_pos6 (p : ByteArray) : (0 : Int) < ((2 ^ p.size : Nat) : Int) := by have := Nat.two_pow_pos p.size; omega
/-- The signal of a cell, as the reception sees it. -/
theorem csg_parts {l : List Stn} {ds : List ByteArray} {L : List Int} (h : csgR l ds = some L) : cellB l = true ∧ ds.length = l.length ∧ usersB (usersOf l ds) = true ∧ L = sgnlL (usersOf l ds) ∧ sigB L = true := by
  unfold csgR at h
  split at h
  · next hc =>
    rw [Bool.and_eq_true, decide_eq_true_eq] at hc
    unfold sndR at h
    split at h
    · next hu =>
      obtain rfl := Option.some.inj h
      have := sgnlL_sig hu (Nat.le_refl _)
      rw [List.take_length] at this
      exact ⟨hc.1, hc.2, hu, rfl, this⟩
    · cases h
  · cases h
theorem csg_bits {l : List Stn} {ds : List ByteArray} {L : List Int} (h : csgR l ds = some L) {k : Nat} (hk : k < ds.length) : bitsB ds[k] = true := by
  obtain ⟨hc, hd, hu, _, _⟩ := csg_parts h
  have hk' : k < l.length := by omega
  have := usersB_at hu (k := k) (by rw [usersOf_len hd]; exact hk')
  rw [usersOf_get hk' hk] at this
  exact (usrOk_parts this).2.1
theorem crc_some {l : List Stn} {s : List Int} {k : Nat} {m : Nat} (h : cellB l = true) (hs : sigB s = true) (hk : k < l.length) (hm : m ≤ 600) : crcR l s l[k].nm m = some (text (signL (despL s (codes (treeT l[k].ph)) 0 m))) := by
  rw [crcR_yes h hk (idx_own h hk)]
  exact rcvR_yes (d := 0) (m := m) (by unfold recB; rw [hs, treeT_seq (stB_path (cellB_st h hk)), inB_true (by omega) (by omega), inB_true (by omega) (by omega)]; rfl)
theorem desp_at (l s : List Int) (n j : Nat) (h : j < n) : (despL l s 0 n)[j]'(by rw [despL_len]; exact h) = dotN l s (j * s.length) s.length := by rw [despL_get h, Nat.zero_add]
theorem codes_len2 (p : ByteArray) : (codes (treeT p)).length = 2 ^ p.size := by rw [codes_length, treeT_sz]
/-- The correlations of a station. -/
theorem corr_at {l : List Stn} {ds : List ByteArray} {L : List Int} (h : csgR l ds = some L) {k : Nat} (hk : k < l.length) (j : Nat) :
    dotN L (codes (treeT l[k].ph)) (j * (codes (treeT l[k].ph)).length) (codes (treeT l[k].ph)).length = (if j < (ds[k]'(by have := (csg_parts h).2.1; omega)).size then l[k].g / l[k].l * chipC ((codes (ds[k]'(by have := (csg_parts h).2.1; omega))).getD j 0) else 0) * ((2 ^ l[k].ph.size : Nat) : Int) := by
  obtain ⟨hc, hd, _, rfl, _⟩ := csg_parts h
  rw [codes_len2]
  exact dot_cell hc hd hk j
/-- A station with some strength is heard. -/
theorem hear_own {l : List Stn} {ds : List ByteArray} {L : List Int} (h : csgR l ds = some L) {k : Nat} (hk : k < l.length) (hkd : k < ds.length) (hg : 0 < l[k].g / l[k].l) : text (signL (despL L (codes (treeT l[k].ph)) 0 ds[k].size)) = ds[k] := by
  have hb := csg_bits h hkd
  conv => rhs; rw [← text_codes ds[k]]
  congr 1
  apply List.ext_getElem
  · rw [signL_len, despL_len, codes_length]
  · intro j h1 h2
    rw [signL_len, despL_len] at h1
    rw [signL_get, desp_at _ _ _ _ h1, corr_at h hk, if_pos h1, Int.mul_assoc, Int.mul_comm (chipC _), ← Int.mul_assoc, sign_of (Int.mul_pos hg (pow_pos6 _)) (bitsB_bit hb h1)]
    exact getD_ints _
/-- A station that sends nothing is not heard. -/
theorem hear_none {l : List Stn} {ds : List ByteArray} {L : List Int} (h : csgR l ds = some L) {k : Nat} (hk : k < l.length) (hkd : k < ds.length) (h0 : ds[k].size = 0) (m : Nat) : signL (despL L (codes (treeT l[k].ph)) 0 m) = List.replicate m 48 := by
  apply List.ext_getElem
  · rw [signL_len, despL_len, List.length_replicate]
  · intro j h1 h2
    rw [signL_len, despL_len] at h1
    rw [signL_get, desp_at _ _ _ _ h1, corr_at h hk, if_neg (by omega), List.getElem_replicate, Int.zero_mul]; rfl
/-- The margins of a station. -/
theorem margin_own {l : List Stn} {ds : List ByteArray} {L : List Int} (h : csgR l ds = some L) {k : Nat} (hk : k < l.length) (hkd : k < ds.length) {j : Nat} (hj : j < ds[k].size) :
    dotN L (codes (treeT l[k].ph)) (j * (codes (treeT l[k].ph)).length) (codes (treeT l[k].ph)).length * chipC ((codes ds[k]).getD j 0) = l[k].g / l[k].l * ((2 ^ l[k].ph.size : Nat) : Int) := by
  rw [corr_at h hk, if_pos hj, Int.mul_right_comm, Int.mul_assoc (l[k].g / l[k].l), chipC_sq, Int.mul_one]

set_option maxHeartbeats 800000 in
theorem MarginOf_none {ao : Option Addr} {n c : Nat} {l : List Int} {w : World} (s : ByteArray) (h : Rd w ao n l) (h1 : recB l s 0 = true) : Calls Try.prog 12 #[.slice ao n c, .string s, .int .i64 0, .string ⟨#[]⟩] w fun e w' => e = .returned (.tuple #[.int .i64 0, .bool false]) ∧ w = w' := by
  have hb : bitsB ⟨#[]⟩ = true := by decide
  go_enter Try.func12, Try.ntmps12
  go_wp2_with fail
  refine (receptionValid_c s 0 h).mono ?_; rintro e w' ⟨rfl, rfl⟩
  rw [h1]
  go_wp2_with fail
  refine (isBits_c _ _).mono ?_; rintro e w' ⟨rfl, rfl⟩
  rw [hb]
  go_wp2_with fail
  go_ret2
  exact ⟨rfl, rfl⟩

set_option maxRecDepth 100000 in
set_option maxHeartbeats 1600000 in
theorem MarginOf_all {ao : Option Addr} {n c : Nat} {l : List Int} {w : World} (s d : ByteArray) (V : Int) (h : Rd w ao n l) (h1 : recB l s 0 = true) (h2 : bitsB d = true) (h3 : 0 < d.size) (hV : ∀ j, j < d.size → dotN l (codes s) (j * (codes s).length) (codes s).length * chipC ((codes d).getD j 0) = V) :
    Calls Try.prog 12 #[.slice ao n c, .string s, .int .i64 0, .string d] w fun e w' => e = .returned (.tuple #[.int .i64 V, .bool true]) ∧ Below w.heap.size w w' := by
  obtain ⟨hsg, hsq, _, _⟩ := recB_parts h1
  obtain ⟨hz0, hz1⟩ := seqB_size hsq
  have hd6 := bitsB_sz600 h2
  have HV := Lib.hid (fun j (hj : j < d.size) => (show (despL l (codes s) 0 d.size).getD j 0 * chipC (d[j].toNat : Int) = V by
    rw [getD_ints (by rw [despL_len]; exact hj), desp_at _ _ _ _ hj, ← codes_getD hj]; exact hV j hj))
  have HB := Lib.hid (fun j (hj : j < d.size) => (show -255000000 ≤ (despL l (codes s) 0 d.size).getD j 0 ∧ (despL l (codes s) 0 d.size).getD j 0 ≤ 255000000 by
    rw [getD_ints (by rw [despL_len]; exact hj), desp_at _ _ _ _ hj]
    have := dotN_bd hsg (codes s) (j * (codes s).length) (codes s).length
    rw [codes_length] at this ⊢
    omega))
  have HSG := Lib.hid hsg
  have hds : d.toList.isEmpty = false := by
    rw [List.isEmpty_eq_false_iff]; intro e
    have := congrArg List.length e
    rw [ByteArray.toList_eq] at this
    simp at this
    have : d.size = 0 := by rw [← ByteArray.size_data]; simp [this]
    omega
  have hds2 : (d.toList == []) = false := by
    rw [beq_eq_false_iff_ne]; intro e; rw [e] at hds; cases hds
  clear hV hsg hsq
  go_enter Try.func12, Try.ntmps12
  go_wp2_with fail
  refine (receptionValid_c s 0 h).mono ?_; rintro e w' ⟨rfl, rfl⟩
  rw [h1]
  go_wp2_with fail
  refine (isBits_c _ _).mono ?_; rintro e w' ⟨rfl, rfl⟩
  rw [h2]
  clear h1 h2
  go_wp2_with fail
  refine (correlationsFrom_c s 0 d.size h HSG.out (by omega) (by omega) (by omega)).mono ?_; rintro e w1 ⟨a1, n1, c1, rfl, ho, hb⟩
  have HLN := Lib.hid (show n1 = d.size by have := ho.1; rwa [despL_len] at this)
  have hn6 : n1 ≤ 600 := by have := HLN.out; omega
  have HVB := Lib.hid (show -255000000 ≤ V ∧ V ≤ 255000000 by
    have a := HV.out 0 h3
    have b := HB.out 0 h3
    rcases chipC_or (d[0].toNat : Int) with e | e <;> rw [e] at a <;> omega)
  have hR := ho.rd
  have hds3 : ∀ j : Nat, j < n1 → j < d.size := fun j hj => by have := HLN.out; omega
  have hdp : 0 < d.size := h3
  clear hds hds2 h3 ho hd6
  go_wp2_with fail
  go_loop [10, 34] (fun m i => ∃ (k : Nat) (v : Int), k ≤ n1 ∧ i = .int .i64 k ∧ m = .int .i64 v ∧ Hid (k = 0 ∨ v = V)) (fun _ i => n1 - (intOf i).toNat)
  case atStart => exact ⟨0, 0, Nat.zero_le _, rfl, rfl, Lib.hid (.inl rfl)⟩
  case round =>
    obtain ⟨k, v, hk, rfl, rfl, HK⟩ := hrel
    by_cases hlt : k < n1
    · have hkd := hds3 k hlt
      obtain ⟨b, off, rfl, hc⟩ := hR.2.2 k hlt
      have HX := Lib.hid (show IntKind.i64.wrap ((despL l (codes s) 0 d.size).getD k 0 * chipC (d[k].toNat : Int)) = V by rw [HV.out k hkd]; have := HVB.out; exact IntWalk.i64_in _ (by omega))
      have hx := HX.out
      by_cases hk0 : k = 0
      · have hk1 : ((k : Int) == 0) = true := by simp [hk0]
        clear hk0
        generalize (despL l (codes s) 0 d.size).getD k 0 = D at *
        go_wp2_with fail
        refine (chipOf_c _ _).mono ?_; rintro e w' ⟨rfl, rfl⟩
        go_wp2_with fail
        clear hx
        go_round
        case rel => exact ⟨k + 1, V, by omega, by go_num, rfl, Lib.hid (.inr rfl)⟩
        case measure => simp [intOf]; omega
      · have hk1 : ((k : Int) == 0) = false := by rw [beq_eq_false_iff_ne]; omega
        have hv : v = V := HK.out.resolve_left hk0
        have hVV : ¬ V < V := by omega
        have hVV2 : decide (V < V) = false := by simp
        clear hk0 HK
        subst hv
        generalize (despL l (codes s) 0 d.size).getD k 0 = D at *
        go_wp2_with fail
        refine (chipOf_c _ _).mono ?_; rintro e w' ⟨rfl, rfl⟩
        go_wp2_with fail
        clear hx
        go_round
        case rel => exact ⟨k + 1, v, by omega, by go_num, rfl, Lib.hid (.inr rfl)⟩
        case measure => simp [intOf]; omega
    · obtain rfl : k = n1 := by omega
      have hv : v = V := by
        rcases HK.out with h | h
        · exact absurd h (by have := HLN.out; omega)
        · exact h
      clear HK
      subst hv
      go_wp2_with fail
      go_ret2
      exact ⟨rfl, hb⟩

end Go.Proofs.Ytadcckjlcmnhbaa
