/- Repeated bits and majorities: plain laws. No program in sight. -/
import Derived.Test.YtadcckjlcmnhbaaKb
namespace Go.Proofs.Ytadcckjlcmnhbaa
open Go.RowKit

/-- The ones among k bits from a on. -/
def cntO (s : ByteArray) (a k : Nat) : Nat := ((s.data.toList.drop a).take k).count 49
theorem cntO_zero (s : ByteArray) (a : Nat) : cntO s a 0 = 0 := by unfold cntO; simp
theorem cntO_snoc {s : ByteArray} {a k : Nat} (h : a + k < s.size) : (s.data.toList.drop a).take (k + 1) = (s.data.toList.drop a).take k ++ [s[a + k]] := by
  have hl : k < (s.data.toList.drop a).length := by rw [List.length_drop, sz_list]; omega
  rw [List.take_succ_eq_append_getElem hl, List.getElem_drop]; rfl
theorem cntO_yes {s : ByteArray} {a k : Nat} (h : a + k < s.size) (h1 : s[a + k].toNat = 49) : cntO s a (k + 1) = cntO s a k + 1 := by
  have e : s[a + k] = 49 := by apply UInt8.toNat_inj.1; show s[a + k].toNat = 49; exact h1
  unfold cntO; rw [cntO_snoc h, List.count_append, e]; rfl
theorem cntO_no {s : ByteArray} {a k : Nat} (h : a + k < s.size) (h1 : ¬ s[a + k].toNat = 49) : cntO s a (k + 1) = cntO s a k := by
  have e : ¬ s[a + k] = 49 := by intro e; exact h1 (by rw [e]; rfl)
  unfold cntO; rw [cntO_snoc h, List.count_append, List.count_cons_of_ne (by simpa using e)]; rfl
theorem cntO_le (s : ByteArray) (a k : Nat) : cntO s a k ≤ k := by
  unfold cntO; exact Nat.le_trans List.count_le_length (by rw [List.length_take]; omega)
theorem cntO_ex (s : ByteArray) (a k : Nat) : (s.extract a (a + k)).data.toList.count 49 = cntO s a k := by
  unfold cntO; rw [ex_list, Nat.add_sub_cancel_left]

def majB (s : ByteArray) (n i : Nat) : Bool := decide (n < 2 * cntO s (i * n) n)
def majL (s : ByteArray) (n : Nat) : List Int := (List.range (s.size / n)).map fun i => if majB s n i = true then 49 else 48
def majT (s : ByteArray) (n : Nat) : ByteArray := text (majL s n)
theorem majL_len (s : ByteArray) (n : Nat) : (majL s n).length = s.size / n := by simp [majL]
theorem majL_get {s : ByteArray} {n i : Nat} (h : i < (majL s n).length) : (majL s n)[i] = if majB s n i = true then 49 else 48 := by simp [majL]
theorem majT_size (s : ByteArray) (n : Nat) : (majT s n).size = s.size / n := by unfold majT; rw [text_size, majL_len]
theorem majL_bit (s : ByteArray) (n : Nat) : ∀ x ∈ majL s n, isBit x := by
  intro x hx
  unfold majL at hx
  obtain ⟨i, _, rfl⟩ := List.mem_map.1 hx
  split
  · exact .inr rfl
  · exact .inl rfl
theorem majT_codes (s : ByteArray) (n : Nat) : codes (majT s n) = majL s n := codes_text (majL_bit s n)
theorem majT_get {s : ByteArray} {n i : Nat} (h : i < (majT s n).size) : ((majT s n)[i].toNat : Int) = if majB s n i = true then 49 else 48 := by
  have hl : i < (majL s n).length := by rw [majL_len, ← majT_size]; exact h
  have h2 := codes_get (majT s n) h
  rw [← h2]
  simp only [majT_codes]
  exact majL_get hl
theorem allS_bitL {l : List Int} (h : ∀ x ∈ l, isBit x) : allS bitC (text l) = true := by
  unfold allS text
  rw [List.all_eq_true]
  intro c hc
  simp only [List.mem_map] at hc
  obtain ⟨x, hx, rfl⟩ := hc
  rcases h x hx with rfl | rfl <;> rfl
def oddB (n : Int) : Bool := inB n 1 9 && (n % 2 == 1)
theorem oddB_is {n : Int} (h : oddB n = true) : ∃ N : Nat, n = N ∧ 1 ≤ N ∧ N ≤ 9 ∧ N % 2 = 1 := by
  unfold oddB inB at h
  simp only [Bool.and_eq_true, decide_eq_true_eq, beq_iff_eq] at h
  exact ⟨n.toNat, by omega, by omega, by omega, by omega⟩
def majR (s : ByteArray) (n : Int) : Option ByteArray := if (bitsB s && oddB n && (s.size % n.toNat == 0)) = true then some (majT s n.toNat) else none
theorem majR_no1 {s : ByteArray} {n : Int} (h : bitsB s = false) : majR s n = none := by unfold majR; rw [h]; rfl
theorem majR_no2 {s : ByteArray} {n : Int} (h : oddB n = false) : majR s n = none := by unfold majR; rw [h, Bool.and_false]; rfl
theorem majR_no3 {s : ByteArray} {N : Nat} (h : ¬ s.size % N = 0) : majR s N = none := by
  unfold majR; rw [show (s.size % (N : Int).toNat == 0) = false by rw [beq_eq_false_iff_ne]; exact h, Bool.and_false]; rfl
theorem majR_yes {s : ByteArray} {N : Nat} (h1 : bitsB s = true) (h2 : oddB N = true) (h3 : s.size % N = 0) : majR s N = some (majT s N) := by
  unfold majR; rw [h1, h2, show (s.size % (N : Int).toNat == 0) = true by rw [beq_iff_eq]; exact h3]; rfl

def repL (s : ByteArray) (n : Nat) : List Int := (List.range (s.size * n)).map fun i => (codes s).getD (i / n) 0
def repT (s : ByteArray) (n : Nat) : ByteArray := text (repL s n)
theorem repL_len (s : ByteArray) (n : Nat) : (repL s n).length = s.size * n := by simp [repL]
theorem repL_get {s : ByteArray} {n i : Nat} (h : i < (repL s n).length) : (repL s n)[i] = (codes s).getD (i / n) 0 := by simp [repL]
theorem repT_size (s : ByteArray) (n : Nat) : (repT s n).size = s.size * n := by unfold repT; rw [text_size, repL_len]
theorem repL_bit {s : ByteArray} (n : Nat) (h : allS bitC s = true) : ∀ x ∈ repL s n, isBit x := by
  intro x hx
  unfold repL at hx
  obtain ⟨i, hi, rfl⟩ := List.mem_map.1 hx
  have hi := List.mem_range.1 hi
  have hlt : i / n < s.size := by
    rcases Nat.eq_zero_or_pos n with h0 | h0
    · subst h0; simp at hi
    · exact Nat.div_lt_of_lt_mul (by rw [Nat.mul_comm]; exact hi)
  rw [List.getD_eq_getElem?_getD, List.getElem?_eq_getElem (by rw [codes_length]; exact hlt), Option.getD_some]
  exact codes_bits h _ (List.getElem_mem _)
theorem repL_snoc {s : ByteArray} {n k : Nat} (hk : k < s.size) : (repL s n).take ((k + 1) * n) = (repL s n).take (k * n) ++ List.replicate n ((codes s).getD k 0) := by
  have hkn : k * n + n ≤ s.size * n := by rw [← Nat.succ_mul]; exact Nat.mul_le_mul_right n hk
  apply List.ext_getElem
  · rw [List.length_append, List.length_take, List.length_take, List.length_replicate, repL_len, Nat.succ_mul]; omega
  · intro i h1 h2
    have hin : i < (k + 1) * n := by rw [List.length_take] at h1; omega
    have hir : i < (repL s n).length := by rw [List.length_take] at h1; omega
    rw [List.getElem_take, repL_get hir, List.getElem_append]
    rw [Nat.succ_mul] at hin
    by_cases hi : i < k * n
    · rw [dif_pos (by rw [List.length_take, repL_len]; omega), List.getElem_take, repL_get hir]
    · rw [dif_neg (by rw [List.length_take, repL_len]; omega), List.getElem_replicate]
      congr 1
      have hn : 0 < n := by omega
      exact Nat.div_eq_of_lt_le (by omega) (by rw [Nat.succ_mul]; omega)
def repR (s : ByteArray) (n : Int) : Option ByteArray := if (bitsB s && oddB n && decide (s.size * n.toNat ≤ 600)) = true then some (repT s n.toNat) else none
theorem repR_no1 {s : ByteArray} {n : Int} (h : bitsB s = false) : repR s n = none := by unfold repR; rw [h]; rfl
theorem repR_no2 {s : ByteArray} {n : Int} (h : oddB n = false) : repR s n = none := by unfold repR; rw [h, Bool.and_false]; rfl
theorem repR_no3 {s : ByteArray} {N : Nat} (h : ¬ s.size * N ≤ 600) : repR s N = none := by
  unfold repR; rw [show decide (s.size * (N : Int).toNat ≤ 600) = false from decide_eq_false h, Bool.and_false]; rfl
theorem repR_yes {s : ByteArray} {N : Nat} (h1 : bitsB s = true) (h2 : oddB N = true) (h3 : s.size * N ≤ 600) : repR s N = some (repT s N) := by
  unfold repR; rw [h1, h2, show decide (s.size * (N : Int).toNat ≤ 600) = true from decide_eq_true h3]; rfl
theorem repT_get {s : ByteArray} {n i : Nat} (hb : allS bitC s = true) (h : i < (repT s n).size) : ((repT s n)[i].toNat : Int) = (codes s).getD (i / n) 0 := by
  have hl : i < (repL s n).length := by rw [repL_len, ← repT_size]; exact h
  have h2 := codes_get (repT s n) h
  rw [← h2]
  have hc : codes (repT s n) = repL s n := codes_text (repL_bit n hb)
  simp only [hc]
  exact repL_get hl
/-- All bits of a block of repeated bits are alike. -/
theorem cntO_rep {s : ByteArray} {n i : Nat} (hb : allS bitC s = true) (hi : i < s.size) : ∀ k, k ≤ n → cntO (repT s n) (i * n) k = if s[i].toNat = 49 then k else 0
  | 0, _ => by rw [cntO_zero]; split <;> rfl
  | k + 1, hk => by
    have hin : i * n + n ≤ s.size * n := by rw [← Nat.succ_mul]; exact Nat.mul_le_mul_right n hi
    have hlt : i * n + k < (repT s n).size := by rw [repT_size]; omega
    have hg := repT_get hb hlt
    have hd : (i * n + k) / n = i := Nat.div_eq_of_lt_le (show i * n ≤ i * n + k by omega) (show i * n + k < (i + 1) * n by rw [Nat.succ_mul]; omega)
    rw [hd, List.getD_eq_getElem?_getD, List.getElem?_eq_getElem (by rw [codes_length]; exact hi), Option.getD_some, codes_get s hi] at hg
    have ih := cntO_rep (n := n) hb hi k (by omega)
    by_cases h49 : s[i].toNat = 49
    · rw [cntO_yes hlt (by omega), ih, if_pos h49, if_pos h49]
    · rw [cntO_no hlt (by omega), ih, if_neg h49, if_neg h49]
/-- Repeated majorities have these majorities. -/
theorem maj_rep {s : ByteArray} {n : Nat} (hn : 0 < n) (hb : allS bitC s = true) : majT (repT s n) n = s := by
  have hL : majL (repT s n) n = codes s := by
    apply List.ext_getElem
    · rw [majL_len, repT_size, codes_length, Nat.mul_div_cancel _ hn]
    · intro i h1 h2
      have hi : i < s.size := by rw [codes_length] at h2; exact h2
      rw [majL_get h1, codes_get s hi]
      have h3 := cntO_rep hb hi n (Nat.le_refl _)
      have h4 := bit_at hb hi
      unfold majB
      rw [h3]
      by_cases h49 : s[i].toNat = 49
      · rw [if_pos h49, decide_eq_true (by omega), if_pos rfl]; omega
      · rw [if_neg h49, decide_eq_false (by omega), if_neg (by decide)]; omega
  unfold majT
  rw [hL, text_codes]
/-- How many of the first k bits of block i are not the majority. -/
def wrongK (s : ByteArray) (n i k : Nat) : Nat := if majB s n i = true then k - cntO s (i * n) k else cntO s (i * n) k
theorem wrong_zero (s : ByteArray) (n i : Nat) : wrongK s n i 0 = 0 := by unfold wrongK; rw [cntO_zero]; split <;> rfl
theorem wrong_all (s : ByteArray) (n i : Nat) : 2 * wrongK s n i n ≤ n := by
  unfold wrongK
  have := cntO_le s (i * n) n
  by_cases h : majB s n i = true
  · rw [if_pos h]
    have := of_decide_eq_true h
    omega
  · rw [if_neg h]
    unfold majB at h
    rw [decide_eq_true_eq] at h
    omega
theorem wrong_yes {s : ByteArray} {n i k : Nat} (h : i * n + k < s.size) (hb : allS bitC s = true) (h1 : ¬ (s[i * n + k].toNat : Int) = if majB s n i = true then 49 else 48) : wrongK s n i (k + 1) = wrongK s n i k + 1 := by
  have hbt := bit_at hb h
  have hle := cntO_le s (i * n) k
  unfold wrongK
  by_cases hm : majB s n i = true
  · rw [if_pos hm] at h1
    rw [if_pos hm, if_pos hm, cntO_no h (by omega)]; omega
  · rw [if_neg hm] at h1
    rw [if_neg hm, if_neg hm, cntO_yes h (by omega)]
theorem wrong_no {s : ByteArray} {n i k : Nat} (h : i * n + k < s.size) (h1 : (s[i * n + k].toNat : Int) = if majB s n i = true then 49 else 48) : wrongK s n i (k + 1) = wrongK s n i k := by
  unfold wrongK
  by_cases hm : majB s n i = true
  · rw [if_pos hm] at h1
    rw [if_pos hm, if_pos hm, cntO_yes h (by omega)]; omega
  · rw [if_neg hm] at h1
    rw [if_neg hm, if_neg hm, cntO_no h (by omega)]
theorem wrong_le (s : ByteArray) (n i k : Nat) : wrongK s n i k ≤ k := by
  have := cntO_le s (i * n) k
  unfold wrongK; split <;> omega

/-- n times one byte. -/
def manyT (c : Int) (n : Nat) : ByteArray := text (List.replicate n c)
theorem manyT_size (c : Int) (n : Nat) : (manyT c n).size = n := by unfold manyT; rw [text_size, List.length_replicate]
theorem manyT_add (c : Int) (a b : Nat) : manyT c a ++ manyT c b = manyT c (a + b) := by unfold manyT; rw [text_add, List.replicate_append_replicate]
theorem manyT_zero (c : Int) : manyT c 0 = ⟨#[]⟩ := rfl
theorem manyT_one {s : ByteArray} {i : Nat} (h : i < s.size) : s.extract i (i + 1) = manyT ((codes s).getD i 0) 1 := by
  apply b_ext
  have hl : i < s.data.toList.length := by rw [sz_list]; exact h
  rw [ex_list, Nat.add_sub_cancel_left, List.drop_eq_getElem_cons hl]
  rw [List.getD_eq_getElem?_getD, List.getElem?_eq_getElem (by rw [codes_length]; exact h), Option.getD_some, codes_get s h]
  show [s[i]] = [UInt8.ofNat (s[i].toNat : Int).toNat]
  simp

end Go.Proofs.Ytadcckjlcmnhbaa
