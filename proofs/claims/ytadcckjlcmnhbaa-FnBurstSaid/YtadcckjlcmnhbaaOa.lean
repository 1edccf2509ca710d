/- Plain: encoded blocks, woven bits, padding, protected payloads. -/
import Derived.Test.YtadcckjlcmnhbaaKx
import Derived.Test.YtadcckjlcmnhbaaKw
import Derived.Test.YtadcckjlcmnhbaaKo
namespace Go.Proofs.Ytadcckjlcmnhbaa
open Go.RowKit

def parN (a b c : Int) : Nat := ((a + b + c) % 2).toNat
def parB (a b c : Int) : Int := ((48 + parN a b c : Nat) : Int)
/-- The block of four bits. -/
def encL (a b c d : Int) : List Int := [parB a b d, parB a c d, a, parB b c d, b, c, d]
def encK (L : List Int) : Nat → List Int
  | 0 => []
  | k + 1 => encK L k ++ encL (L.getD (k * 4) 0) (L.getD (k * 4 + 1) 0) (L.getD (k * 4 + 2) 0) (L.getD (k * 4 + 3) 0)
def encT (s : ByteArray) : ByteArray := text (encK (codes s) (s.size / 4))
def encR (s : ByteArray) : Option ByteArray := if (bitsB s && (s.size % 4 == 0) && decide (s.size / 4 * 7 ≤ 600)) = true then some (encT s) else none
theorem parN_lt (a b c : Int) : parN a b c ≤ 1 := by unfold parN; omega
theorem parB_bit (a b c : Int) : isBit (parB a b c) := by
  have := parN_lt a b c
  unfold parB isBit; omega
theorem encK_len (L : List Int) : ∀ k, (encK L k).length = 7 * k
  | 0 => rfl
  | k + 1 => by rw [encK, List.length_append, encK_len L k]; simp [encL]; omega
theorem getD_bit {L : List Int} (h : ∀ x ∈ L, isBit x) {i : Nat} (hi : i < L.length) : isBit (L.getD i 0) := by
  rw [List.getD_eq_getElem?_getD, List.getElem?_eq_getElem hi, Option.getD_some]
  exact h _ (List.getElem_mem hi)
theorem encL_bit {a b c d : Int} (ha : isBit a) (hb : isBit b) (hc : isBit c) (hd : isBit d) : ∀ x ∈ encL a b c d, isBit x := by
  intro x hx
  simp only [encL, List.mem_cons, List.not_mem_nil, or_false] at hx
  rcases hx with rfl | rfl | rfl | rfl | rfl | rfl | rfl
  · exact parB_bit _ _ _
  · exact parB_bit _ _ _
  · exact ha
  · exact parB_bit _ _ _
  · exact hb
  · exact hc
  · exact hd
theorem encK_bit {L : List Int} (h : ∀ x ∈ L, isBit x) : ∀ k, k * 4 ≤ L.length → ∀ x ∈ encK L k, isBit x
  | 0, _ => by intro x hx; cases hx
  | k + 1, hk => by
    intro x hx
    rw [encK] at hx
    rcases List.mem_append.1 hx with h2 | h2
    · exact encK_bit h k (by omega) x h2
    · exact encL_bit (getD_bit h (by omega)) (getD_bit h (by omega)) (getD_bit h (by omega)) (getD_bit h (by omega)) x h2
theorem enc_size (s : ByteArray) : (encT s).size = 7 * (s.size / 4) := by unfold encT; rw [text_size, encK_len]
theorem enc_all {s : ByteArray} (h : allS bitC s = true) : allS bitC (encT s) = true := by
  unfold encT
  exact allS_text fun x hx => encK_bit (codes_bits h) _ (by rw [codes_length]; omega) x hx
theorem encR_no1 {s : ByteArray} (h : bitsB s = false) : encR s = none := by unfold encR; rw [h]; rfl
theorem encR_no2 {s : ByteArray} (h : ¬ s.size % 4 = 0) : encR s = none := by
  unfold encR; rw [show (s.size % 4 == 0) = false by rw [beq_eq_false_iff_ne]; exact h, Bool.and_false]; rfl
theorem encR_no3 {s : ByteArray} (h : ¬ s.size / 4 * 7 ≤ 600) : encR s = none := by
  unfold encR; rw [decide_eq_false h, Bool.and_false]; rfl
theorem encR_yes {s : ByteArray} (h1 : bitsB s = true) (h2 : s.size % 4 = 0) (h3 : s.size / 4 * 7 ≤ 600) : encR s = some (encT s) := by
  unfold encR; rw [h1, show (s.size % 4 == 0) = true by rw [beq_iff_eq]; exact h2, decide_eq_true h3]; rfl
theorem bits_enc {s : ByteArray} (h1 : bitsB s = true) (h2 : s.size % 4 = 0) : bitsR (encT s) = encR s := by
  by_cases h3 : s.size / 4 * 7 ≤ 600
  · rw [encR_yes h1 h2 h3]
    exact if_pos (bits_mk (by rw [enc_size]; omega) (enc_all (bits_all h1)))
  · rw [encR_no3 h3]
    refine if_neg fun h => h3 ?_
    have := bits_le h
    rw [enc_size] at this; omega
/-- A check bit in the machine. -/
theorem par_xor {a b c : Int} (ha : isBit a) (hb : isBit b) (hc : isBit c) : bits .and .i64 (bits .xor .u8 (bits .xor .u8 a b) c) 1 = ((parN a b c : Nat) : Int) := by
  rcases ha with rfl | rfl <;> rcases hb with rfl | rfl <;> rcases hc with rfl | rfl <;> rfl
theorem xor_rng {a b c : Int} (ha : isBit a) (hb : isBit b) (hc : isBit c) : 0 ≤ bits .xor .u8 (bits .xor .u8 a b) c ∧ bits .xor .u8 (bits .xor .u8 a b) c < 256 := by
  rcases ha with rfl | rfl <;> rcases hb with rfl | rfl <;> rcases hc with rfl | rfl <;> decide
/-- The sum of some bits of a block. -/
def xorK (B : List Int) (l : List Nat) : Nat → Nat
  | 0 => 0
  | k + 1 => xorK B l k ^^^ (B.getD (l.getD k 0 - 1) 0 - 48).toNat
theorem xorK_lt {B : List Int} (h : ∀ x ∈ B, isBit x) {l : List Nat} (hl : ∀ x ∈ l, 1 ≤ x ∧ x ≤ B.length) : ∀ k, k ≤ l.length → xorK B l k ≤ 1
  | 0, _ => Nat.zero_le _
  | k + 1, hk => by
    have ih := xorK_lt h hl k (by omega)
    have hm := hl (l.getD k 0) (by rw [List.getD_eq_getElem?_getD, List.getElem?_eq_getElem (by omega), Option.getD_some]; exact List.getElem_mem _)
    have hb := getD_bit h (i := l.getD k 0 - 1) (by omega)
    rw [xorK]
    have h1 : (B.getD (l.getD k 0 - 1) 0 - 48).toNat < 2 := by rcases hb with h | h <;> rw [h] <;> decide
    have := Nat.xor_lt_two_pow (n := 1) (show xorK B l k < 2 ^ 1 by omega) (show _ < 2 ^ 1 from h1)
    omega
theorem chk_1 {a b c d : Int} (ha : isBit a) (hb : isBit b) (hc : isBit c) (hd : isBit d) : xorK [48, 48, a, 48, b, c, d] [3, 5, 7] 3 = parN a b d := by
  rcases ha with rfl | rfl <;> rcases hb with rfl | rfl <;> rcases hc with rfl | rfl <;> rcases hd with rfl | rfl <;> rfl
theorem chk_2 {a b c d : Int} (ha : isBit a) (hb : isBit b) (hc : isBit c) (hd : isBit d) : xorK [48, 48, a, 48, b, c, d] [3, 6, 7] 3 = parN a c d := by
  rcases ha with rfl | rfl <;> rcases hb with rfl | rfl <;> rcases hc with rfl | rfl <;> rcases hd with rfl | rfl <;> rfl
theorem chk_3 {a b c d : Int} (ha : isBit a) (hb : isBit b) (hc : isBit c) (hd : isBit d) : xorK [48, 48, a, 48, b, c, d] [5, 6, 7] 3 = parN b c d := by
  rcases ha with rfl | rfl <;> rcases hb with rfl | rfl <;> rcases hc with rfl | rfl <;> rcases hd with rfl | rfl <;> rfl
theorem list4 {L : List Int} (h : L.length = 4) : ∃ a b c d, L = [a, b, c, d] := by
  match L, h with
  | [a, b, c, d], _ => exact ⟨a, b, c, d, rfl⟩
/-- What l6Block builds to check. -/
theorem blk_text {X : ByteArray} {a b c d : Int} (h : codes X = [a, b, c, d]) : (⟨#[48, 48]⟩ : ByteArray) ++ X.extract 0 1 ++ ⟨#[48]⟩ ++ X.extract 1 X.size = text [48, 48, a, 48, b, c, d] := by
  have hz : X.size = 4 := by rw [← codes_length, h]; rfl
  rw [← text_codes (_ ++ _ ++ _ ++ _), codes_ap, codes_ap, codes_ap, codes_ex, codes_ex, h, hz]; rfl
/-- What l6Block answers. -/
theorem blk_out {X : ByteArray} {a b c d : Int} (h : codes X = [a, b, c, d]) : text [parB a b d] ++ text [parB a c d] ++ X.extract 0 1 ++ text [parB b c d] ++ X.extract 1 X.size = text (encL a b c d) := by
  have hz : X.size = 4 := by rw [← codes_length, h]; rfl
  rw [← text_codes (X.extract 0 1), ← text_codes (X.extract 1 X.size), text_add, text_add, text_add, text_add, codes_ex, codes_ex, h, hz]; rfl
theorem codes_four {s : ByteArray} {P Q : Nat} (hQ : Q = P + 4) (h : Q ≤ s.size) : codes (s.extract P Q) = [(codes s).getD P 0, (codes s).getD (P + 1) 0, (codes s).getD (P + 2) 0, (codes s).getD (P + 3) 0] := by
  subst hQ
  have hl : (codes s).length = s.size := codes_length s
  rw [codes_ex, Nat.add_sub_cancel_left]
  apply List.ext_getElem
  · rw [List.length_take, List.length_drop, hl]; simp only [List.length_cons, List.length_nil]; omega
  · intro i h1 h2
    have h4 : i < 4 := h2
    rw [List.getElem_take, List.getElem_drop]
    have e : ∀ j, (h : P + j < s.size) → (codes s).getD (P + j) 0 = (codes s)[P + j]'(by rw [hl]; exact h) := fun j h => by
      rw [List.getD_eq_getElem?_getD, List.getElem?_eq_getElem (by rw [hl]; exact h), Option.getD_some]
    match i, h4 with
    | 0, _ => exact (e 0 (by omega)).symm
    | 1, _ => exact (e 1 (by omega)).symm
    | 2, _ => exact (e 2 (by omega)).symm
    | 3, _ => exact (e 3 (by omega)).symm
/-- Bits written in rows and read in columns. -/
def wvL (s : ByteArray) (R C : Nat) : List Int := (List.range s.size).map fun i => (codes s).getD (deiI R C i) 0
theorem wvL_len (s : ByteArray) (R C : Nat) : (wvL s R C).length = s.size := by simp [wvL]
theorem wvL_get {s : ByteArray} {R C i : Nat} (h : i < (wvL s R C).length) : (wvL s R C)[i] = (codes s).getD (deiI R C i) 0 := by simp [wvL]
def wvT (s : ByteArray) (R : Nat) : ByteArray := text (wvL s R (s.size / R))
theorem wv_size (s : ByteArray) (R : Nat) : (wvT s R).size = s.size := by unfold wvT; rw [text_size, wvL_len]
theorem wvL_rng (s : ByteArray) (R C : Nat) : ∀ x ∈ wvL s R C, 0 ≤ x ∧ x < 256 := by
  intro x hx
  obtain ⟨i, _, rfl⟩ := List.mem_map.1 hx
  rw [List.getD_eq_getElem?_getD]
  cases h : (codes s)[deiI R C i]? with
  | none => simp
  | some v =>
    have hm := List.mem_of_getElem? h
    unfold codes at hm
    obtain ⟨b, _, rfl⟩ := List.mem_map.1 hm
    have := b.toNat_lt
    exact ⟨by simp, by simp; omega⟩
def wvR (s : ByteArray) (n : Int) : Option ByteArray := if rowsB s n = true then some (wvT s n.toNat) else none
/-- Zeros up to a multiple. -/
def padN (L n : Nat) : Nat := (n - L % n) % n
def padT (s : ByteArray) (n : Nat) : ByteArray := s ++ manyT 48 (padN s.size n)
theorem padN_lt {L n : Nat} (h : 0 < n) : padN L n < n := Nat.mod_lt _ h
theorem pad_dvd {L n : Nat} (h : 0 < n) : (L + padN L n) % n = 0 := by
  unfold padN
  have h1 := Nat.mod_lt L h
  rw [Nat.add_mod, Nat.mod_mod, ← Nat.add_mod]
  conv => lhs; rw [← Nat.mod_add_div L n]
  rw [show L % n + n * (L / n) + (n - (L % n + n * (L / n)) % n) = n * (L / n) + (L % n + (n - (L % n + n * (L / n)) % n)) by omega, Nat.add_mul_mod_self_left, Nat.mod_mod, Nat.add_sub_cancel' (Nat.le_of_lt h1), Nat.mul_add_mod, Nat.mod_self]
theorem pad_size (s : ByteArray) (n : Nat) : (padT s n).size = s.size + padN s.size n := by unfold padT; rw [ap_size, manyT_size]
/-- What ProtectPayload answers. -/
def prR (p : ByteArray) (n s t x : Int) : Option ByteArray := if (payB p && inB n 1 40 && regB s t x) = true then (encR (padT (frameT p) (4 * n.toNat))).bind fun b => scrR (wvT b n.toNat) s t x else none
theorem prR_no1 {p : ByteArray} {n s t x : Int} (h : payB p = false) : prR p n s t x = none := by unfold prR; rw [h]; rfl
theorem prR_no2 {p : ByteArray} {n s t x : Int} (h : inB n 1 40 = false) : prR p n s t x = none := by unfold prR; rw [h, Bool.and_false]; rfl
theorem prR_no3 {p : ByteArray} {n s t x : Int} (h : regB s t x = false) : prR p n s t x = none := by unfold prR; rw [h, Bool.and_false]; rfl
theorem prR_yes {p : ByteArray} {n s t x : Int} (h1 : payB p = true) (h2 : inB n 1 40 = true) (h3 : regB s t x = true) : prR p n s t x = (encR (padT (frameT p) (4 * n.toNat))).bind fun b => scrR (wvT b n.toNat) s t x := by
  unfold prR; rw [h1, h2, h3]; rfl
/-- Both sides' remainders. -/
theorem pad_emod {L n : Nat} (h : 0 < n) : (-(L : Int)) % (n : Int) = ((padN L n : Nat) : Int) := by
  have h1 := Nat.mod_lt L h
  have h2 := Nat.mod_add_div L n
  have e : -(L : Int) = ((n - L % n : Nat) : Int) + (n : Int) * (-((L / n : Nat) : Int) - 1) := by
    have h3 : (L : Int) = ((L % n : Nat) : Int) + (n : Int) * ((L / n : Nat) : Int) := by
      rw [← Int.natCast_mul, ← Int.natCast_add, h2]
    rw [Int.mul_sub, Int.mul_neg, Int.mul_one]
    omega
  rw [e, Int.add_mul_emod_self_left]; rfl

theorem allS_many (n : Nat) : allS bitC (manyT 48 n) = true := allS_text fun _ hx => Or.inl (List.eq_of_mem_replicate hx)
theorem repeat_one : ∀ c, Lib.repeatL [48] c = List.replicate c (48 : UInt8)
  | 0 => rfl
  | c + 1 => by rw [Lib.repeatL, repeat_one c]; rfl
theorem rep_many (c : Nat) : (⟨(Lib.repeatL (⟨#[48]⟩ : ByteArray).data.toList c).toArray⟩ : ByteArray) = manyT 48 c := by
  apply b_ext
  show (Lib.repeatL [48] c).toArray.toList = _
  rw [repeat_one, manyT, text]
  simp
structure Prot (p : ByteArray) (N : Nat) : Prop where
  bits : bitsB (padT (frameT p) (4 * N)) = true
  le : (padT (frameT p) (4 * N)).size ≤ 283
  enc : encR (padT (frameT p) (4 * N)) = some (encT (padT (frameT p) (4 * N)))
  out : bitsB (encT (padT (frameT p) (4 * N))) = true
  rows : (encT (padT (frameT p) (4 * N))).size % (7 * N) = 0
  pos : 0 < (encT (padT (frameT p) (4 * N))).size
  top : (encT (padT (frameT p) (4 * N))).size ≤ 600
  mod : (padT (frameT p) (4 * N)).size % 4 = 0
theorem prot_all {p : ByteArray} {N : Nat} (h1 : payB p = true) (hN1 : 1 ≤ N) (hN4 : N ≤ 40) : Prot p N := by
  have hz := frame_size p
  have hp := (payB_is h1).1
  have h0 : 0 < 4 * N := by omega
  have hpz := pad_size (frameT p) (4 * N)
  have hlt := padN_lt (L := (frameT p).size) h0
  have hdv : (padT (frameT p) (4 * N)).size % (4 * N) = 0 := by rw [hpz]; exact pad_dvd h0
  have hA : allS bitC (padT (frameT p) (4 * N)) = true := by unfold padT; rw [allS_ap, frame_bits h1, allS_many]; rfl
  generalize hZ : padT (frameT p) (4 * N) = Z at *
  obtain ⟨q, hq⟩ := Nat.dvd_of_mod_eq_zero hdv
  have hle : Z.size ≤ 283 := by omega
  have hB := bits_mk (show Z.size ≤ 600 by omega) hA
  have hq4 : Z.size = 4 * (N * q) := by rw [hq, Nat.mul_assoc]
  have hs := enc_size Z
  have hd : Z.size / 4 = N * q := by omega
  have h4 : Z.size % 4 = 0 := by omega
  have h3 : Z.size / 4 * 7 ≤ 600 := by omega
  refine ⟨by rw [hZ]; exact hB, by rw [hZ]; exact hle, by rw [hZ]; exact encR_yes hB h4 h3, by rw [hZ]; exact bits_mk (by omega) (enc_all hA), ?_, by rw [hZ]; omega, by rw [hZ]; omega, by rw [hZ]; exact h4⟩
  rw [hZ, hs, hd, ← Nat.mul_assoc, Nat.mul_mod_right]
theorem mod_of {a b c : Nat} (h : a % (b * c) = 0) : a % c = 0 := by
  obtain ⟨q, rfl⟩ := Nat.dvd_of_mod_eq_zero h
  rw [Nat.mul_assoc, Nat.mul_left_comm, Nat.mul_mod_right]
theorem prR_some {p : ByteArray} {N : Nat} {s t x : Int} (h1 : payB p = true) (h2 : inB N 1 40 = true) (h3 : regB s t x = true) (h : Prot p N) : scrR (wvT (encT (padT (frameT p) (4 * N))) N) s t x = prR p N s t x := by
  rw [prR_yes h1 h2 h3, show (N : Int).toNat = N from rfl, h.enc]; rfl

end Go.Proofs.Ytadcckjlcmnhbaa
