/- Plain: a protected payload is opened, also with bits changed within as many places as there are rows. No condition. -/
import Derived.Test.YtadcckjlcmnhbaaOa
import Derived.Test.YtadcckjlcmnhbaaKz
namespace Go.Proofs.Ytadcckjlcmnhbaa
open Go.RowKit

theorem codes_rngT {l : List Int} (h : ∀ x ∈ l, 0 ≤ x ∧ x < 256) : codes (text l) = l := by
  unfold codes text
  show ((l.map fun n => UInt8.ofNat n.toNat).toArray.toList).map (fun b => (b.toNat : Int)) = l
  rw [List.map_map]
  conv => rhs; rw [← List.map_id l]
  apply List.map_congr_left
  intro x hx
  have := h x hx
  show ((UInt8.ofNat x.toNat).toNat : Int) = x
  have e : (UInt8.ofNat x.toNat).toNat = x.toNat := by simp; omega
  omega
theorem codes_rngS (s : ByteArray) : ∀ x ∈ codes s, 0 ≤ x ∧ x < 256 := by
  intro x hx
  unfold codes at hx
  obtain ⟨b, _, rfl⟩ := List.mem_map.1 hx
  have := b.toNat_lt
  omega
theorem codes_inj {a b : ByteArray} (h : codes a = codes b) : a = b := by rw [← text_codes a, h, text_codes]
def cg (s : ByteArray) (i : Nat) : Int := (codes s).getD i 0
theorem cg_bit {s : ByteArray} (h : allS bitC s = true) {i : Nat} (hi : i < s.size) : isBit (cg s i) := getD_bit (codes_bits h) (by rw [codes_length]; exact hi)
theorem bits_cg {s : ByteArray} (h : ∀ i, i < s.size → isBit (cg s i)) : allS bitC s = true := by
  rw [← text_codes s]
  apply allS_text
  intro x hx
  obtain ⟨i, hi, rfl⟩ := List.getElem_of_mem hx
  have := h i (by rw [← codes_length]; exact hi)
  unfold cg at this
  rw [List.getD_eq_getElem?_getD, List.getElem?_eq_getElem hi, Option.getD_some] at this
  exact this
/-- y is s with the bits changed that F tells. -/
def Fl (s y : ByteArray) (F : Nat → Bool) : Prop := y.size = s.size ∧ ∀ i, i < s.size → cg y i = if F i = true then 97 - cg s i else cg s i
theorem Fl.bit {s y : ByteArray} {F : Nat → Bool} (h : Fl s y F) (hs : allS bitC s = true) : allS bitC y = true := by
  refine bits_cg fun i hi => ?_
  rw [h.1] at hi
  have hb := cg_bit hs hi
  rw [h.2 i hi]
  split
  · rcases hb with e | e <;> rw [e]
    · exact .inr rfl
    · exact .inl rfl
  · exact hb
theorem Fl.none (s : ByteArray) : Fl s s fun _ => false := ⟨rfl, fun i _ => by simp⟩

/-- Scrambling twice. -/
theorem cg_scr (b : ByteArray) (S T X : Nat) {i : Nat} (hi : i < b.size) : cg (scrT b S T X) i = if cg b i = (runL S T X b.size).getD i 0 then 48 else 49 := by
  unfold cg scrT sumT
  have e1 : codes (text (sumL b (text (runL S T X b.size)))) = sumL b (text (runL S T X b.size)) := codes_text (sumL_bit _ _)
  have e2 : codes (text (runL S T X b.size)) = runL S T X b.size := codes_text (runL_bit _ _ _ _)
  have hl : i < (sumL b (text (runL S T X b.size))).length := by rw [sumL_len]; exact hi
  rw [e1, List.getD_eq_getElem?_getD, List.getElem?_eq_getElem hl, Option.getD_some, sumL_get hl, e2]
theorem Fl.scr {W y : ByteArray} {F : Nat → Bool} {S T X : Nat} (hW : allS bitC W = true) (h : Fl (scrT W S T X) y F) : Fl W (scrT y S T X) F := by
  have hz : y.size = W.size := by rw [h.1, scr_size]
  refine ⟨by rw [scr_size, hz], fun i hi => ?_⟩
  have hr : isBit ((runL S T X W.size).getD i 0) := getD_bit (runL_bit _ _ _ _) (by rw [runL_len]; exact hi)
  have hb := cg_bit hW hi
  rw [cg_scr y S T X (by rw [hz]; exact hi), h.2 i (by rw [scr_size]; exact hi), cg_scr W S T X hi, hz]
  rcases hb with e | e <;> rcases hr with f | f <;> rw [e, f] <;> by_cases hF : F i = true <;> simp [hF]

/-- The places of the bits in rows and columns. -/
theorem dei_parts {R C j : Nat} (hR : 0 < R) (h : j < C * R) : j / C < R ∧ j % C < C ∧ deiI C R j < C * R ∧ deiI C R j % R = j / C ∧ deiI C R j / R = j % C := by
  have hC : 0 < C := by rcases Nat.eq_zero_or_pos C with h0 | h0
                        · rw [h0, Nat.zero_mul] at h; omega
                        · exact h0
  have h1 : j / C < R := Nat.div_lt_of_lt_mul h
  have h2 : j % C < C := Nat.mod_lt _ hC
  have h3 : deiI C R j < R * C := deiI_lt hC (by rw [Nat.mul_comm]; exact h)
  refine ⟨h1, h2, by rw [Nat.mul_comm]; exact h3, ?_, ?_⟩
  · unfold deiI; rw [Nat.mul_comm, Nat.mul_add_mod]; exact Nat.mod_eq_of_lt h1
  · unfold deiI; rw [Nat.mul_comm, Nat.mul_add_div hR, Nat.div_eq_of_lt h1, Nat.add_zero]
theorem dei_back {R C j : Nat} (hR : 0 < R) (h : j < C * R) : deiI R C (deiI C R j) = j := by
  obtain ⟨_, _, _, h4, h5⟩ := dei_parts hR h
  unfold deiI at h4 h5 ⊢
  rw [h4, h5, Nat.mul_comm]; exact Nat.div_add_mod j C
theorem dei_inj {R C i k : Nat} (hi : i < C * R) (hk : k < C * R) (h : deiI R C i = deiI R C k) : i = k := by
  have hC : 0 < C := by rcases Nat.eq_zero_or_pos C with h0 | h0
                        · rw [h0, Nat.zero_mul] at hi; omega
                        · exact h0
  have e1 := dei_back (R := C) (C := R) hC (j := i) (by rw [Nat.mul_comm]; exact hi)
  have e2 := dei_back (R := C) (C := R) hC (j := k) (by rw [Nat.mul_comm]; exact hk)
  rw [← e1, ← e2, h]
theorem deiF_get (s : ByteArray) {R C : Nat} (hR : 0 < R) (hs : C * R = s.size) : ∀ k, k ≤ s.size → ∀ i, i < k → (deiF s R C k).getD (deiI R C i) 0 = cg s i
  | 0, _, i, hi => absurd hi (by omega)
  | k + 1, hk, i, hi => by
    have hlt : deiI R C i < (deiF s R C k).length := by rw [deiF_len, ← hs]; exact deiI_lt hR (by omega)
    rw [deiF, List.getD_eq_getElem?_getD, List.getElem?_set]
    by_cases e : deiI R C k = deiI R C i
    · have := dei_inj (by omega) (by omega) e
      subst this
      rw [if_pos rfl, if_pos hlt]; rfl
    · rw [if_neg e, ← List.getD_eq_getElem?_getD]
      have hik : i ≠ k := fun h => e (by rw [h])
      exact deiF_get s hR hs k (by omega) i (by omega)
theorem deiF_rng (s : ByteArray) (R C : Nat) : ∀ k, ∀ x ∈ deiF s R C k, 0 ≤ x ∧ x < 256
  | 0, x, hx => by rw [deiF] at hx; have := List.eq_of_mem_replicate hx; omega
  | k + 1, x, hx => by
    rw [deiF] at hx
    rcases List.mem_or_eq_of_mem_set hx with h | h
    · exact deiF_rng s R C k x h
    · rw [h, List.getD_eq_getElem?_getD]
      cases hg : (codes s)[k]? with
      | none => simp
      | some v => exact codes_rngS s v (List.mem_of_getElem? hg)
theorem cg_dei (s : ByteArray) {R : Nat} (hR : 0 < R) (hs : s.size / R * R = s.size) {j : Nat} (hj : j < s.size) : cg (deiT s R) j = cg s (deiI (s.size / R) R j) := by
  unfold deiT
  rw [show cg (text (deiF s R (s.size / R) s.size)) j = (deiF s R (s.size / R) s.size).getD j 0 by unfold cg; rw [codes_rngT (deiF_rng _ _ _ _)]]
  have hj2 : j < s.size / R * R := by rw [hs]; exact hj
  have h3 := (dei_parts hR hj2).2.2.1
  have := deiF_get s hR hs s.size (Nat.le_refl _) (deiI (s.size / R) R j) (by rw [hs] at h3; exact h3)
  rw [dei_back hR hj2] at this
  exact this
theorem dei_sizeT (s : ByteArray) (R : Nat) : (deiT s R).size = s.size := by unfold deiT; rw [text_size, deiF_len]
theorem cg_wv (B : ByteArray) (R : Nat) {i : Nat} (hi : i < B.size) : cg (wvT B R) i = cg B (deiI R (B.size / R) i) := by
  unfold wvT
  rw [show cg (text (wvL B R (B.size / R))) i = (wvL B R (B.size / R)).getD i 0 by unfold cg; rw [codes_rngT (wvL_rng _ _ _)]]
  have hl : i < (wvL B R (B.size / R)).length := by rw [wvL_len]; exact hi
  rw [List.getD_eq_getElem?_getD, List.getElem?_eq_getElem hl, Option.getD_some, wvL_get hl]; rfl
theorem wv_bits {B : ByteArray} {R : Nat} (hR : 0 < R) (hs : B.size / R * R = B.size) (hB : allS bitC B = true) : allS bitC (wvT B R) = true := by
  refine bits_cg fun i hi => ?_
  rw [wv_size] at hi
  rw [cg_wv B R hi]
  exact cg_bit hB (by have := deiI_lt (C := B.size / R) hR (k := i) (by rw [hs]; exact hi); rw [hs] at this; exact this)
theorem Fl.dei {B Y : ByteArray} {F : Nat → Bool} {R : Nat} (hR : 0 < R) (hs : B.size / R * R = B.size) (h : Fl (wvT B R) Y F) : Fl B (deiT Y R) fun j => F (deiI (B.size / R) R j) := by
  have hz : Y.size = B.size := by rw [h.1, wv_size]
  refine ⟨by rw [dei_sizeT, hz], fun j hj => ?_⟩
  have hj2 : j < B.size / R * R := by rw [hs]; exact hj
  have h3 := (dei_parts hR hj2).2.2.1
  rw [hs] at h3
  rw [cg_dei Y hR (by rw [hz]; exact hs) (by rw [hz]; exact hj), hz, h.2 _ (by rw [wv_size]; exact h3), cg_wv B R h3, dei_back hR hj2]

/-- Changes within R places fall into different blocks. -/
theorem one_block {R m a j j' : Nat} {F : Nat → Bool} (hw : ∀ i, F i = true → a ≤ i ∧ i < a + R) (hb : j / 7 = j' / 7)
    (h1 : F (deiI (7 * m) R j) = true) (h2 : F (deiI (7 * m) R j') = true) : j = j' := by
  have e : j / (7 * m) = j' / (7 * m) := by rw [← Nat.div_div_eq_div_mul, hb, Nat.div_div_eq_div_mul]
  have w1 := hw _ h1
  have w2 := hw _ h2
  unfold deiI at w1 w2
  have d1 := Nat.div_add_mod j (7 * m)
  have d2 := Nat.div_add_mod j' (7 * m)
  rw [e] at w1 d1
  have hq : j % (7 * m) = j' % (7 * m) := by
    rcases Nat.lt_trichotomy (j % (7 * m)) (j' % (7 * m)) with h | h | h
    · have := Nat.mul_le_mul_right R (show j % (7 * m) + 1 ≤ j' % (7 * m) by omega)
      rw [Nat.add_mul, Nat.one_mul] at this
      omega
    · exact h
    · have := Nat.mul_le_mul_right R (show j' % (7 * m) + 1 ≤ j % (7 * m) by omega)
      rw [Nat.add_mul, Nat.one_mul] at this
      omega
  omega

/-- Decoding of a block, on lists. -/
def synL (L : List Int) : Nat → Nat
  | 0 => 0
  | k + 1 => if L.getD k 0 = 49 then synL L k ^^^ (k + 1) else synL L k
def fixL (L : List Int) : List Int := if 0 < synL L 7 then L.set (synL L 7 - 1) (97 - L.getD (synL L 7 - 1) 0) else L
def decL (L : List Int) : List Int := [(fixL L).getD 2 0, (fixL L).getD 4 0, (fixL L).getD 5 0, (fixL L).getD 6 0]
def mk (n : Fin 2) : Int := if n = 0 then 48 else 49
theorem ham_all : ∀ a b c d : Fin 2, decL (encL (mk a) (mk b) (mk c) (mk d)) = [mk a, mk b, mk c, mk d] ∧
    ∀ q : Fin 7, decL ((encL (mk a) (mk b) (mk c) (mk d)).set q.val (97 - (encL (mk a) (mk b) (mk c) (mk d)).getD q.val 0)) = [mk a, mk b, mk c, mk d] := by decide +kernel
theorem bit_mk {x : Int} (h : isBit x) : ∃ n : Fin 2, x = mk n := by
  rcases h with rfl | rfl
  · exact ⟨0, rfl⟩
  · exact ⟨1, rfl⟩
theorem ham_zero {a b c d : Int} (ha : isBit a) (hb : isBit b) (hc : isBit c) (hd : isBit d) : decL (encL a b c d) = [a, b, c, d] := by
  obtain ⟨_, rfl⟩ := bit_mk ha
  obtain ⟨_, rfl⟩ := bit_mk hb
  obtain ⟨_, rfl⟩ := bit_mk hc
  obtain ⟨_, rfl⟩ := bit_mk hd
  exact (ham_all _ _ _ _).1
theorem ham_one {a b c d : Int} (ha : isBit a) (hb : isBit b) (hc : isBit c) (hd : isBit d) {q : Nat} (hq : q < 7) : decL ((encL a b c d).set q (97 - (encL a b c d).getD q 0)) = [a, b, c, d] := by
  obtain ⟨_, rfl⟩ := bit_mk ha
  obtain ⟨_, rfl⟩ := bit_mk hb
  obtain ⟨_, rfl⟩ := bit_mk hc
  obtain ⟨_, rfl⟩ := bit_mk hd
  exact (ham_all _ _ _ _).2 ⟨q, hq⟩
theorem synK_L (X : ByteArray) : ∀ k, synK X k = synL (codes X) k
  | 0 => rfl
  | k + 1 => by rw [synK, synL, synK_L X k]
theorem synL_lt (L : List Int) : ∀ k, k ≤ 7 → synL L k < 8
  | 0, _ => by unfold synL; omega
  | k + 1, h => by
    have ih := synL_lt L k (by omega)
    unfold synL
    split
    · exact Nat.xor_lt_two_pow (n := 3) ih (by omega)
    · exact ih
theorem fix_codes {X : ByteArray} (hz : X.size = 7) (hb : allS bitC X = true) : codes (fixB X) = fixL (codes X) := by
  have hs := synL_lt (codes X) 7 (Nat.le_refl _)
  unfold fixB fixL
  rw [synK_L]
  split
  · have hq : synL (codes X) 7 - 1 < X.size := by omega
    rw [codes_flip hq hb, List.getD_eq_getElem?_getD, List.getElem?_eq_getElem (by rw [codes_length]; exact hq), Option.getD_some]
  · rfl
theorem dec_codes {X : ByteArray} (hz : X.size = 7) (hb : allS bitC X = true) : codes (decB X) = decL (codes X) := by
  have hf := fix_size hz
  have hl : (codes (fixB X)).length = 7 := by rw [codes_length, hf]
  unfold decB
  rw [codes_dec (Y := fixB X) hf (by omega) (by omega) (by omega) (by omega)]
  unfold decL
  rw [← fix_codes hz hb]
  simp only [List.getD_eq_getElem?_getD, List.getElem?_eq_getElem (show 2 < (codes (fixB X)).length by omega), List.getElem?_eq_getElem (show 4 < (codes (fixB X)).length by omega), List.getElem?_eq_getElem (show 5 < (codes (fixB X)).length by omega), List.getElem?_eq_getElem (show 6 < (codes (fixB X)).length by omega), Option.getD_some]

/-- The blocks of an encoded text. -/
theorem encK_get (L : List Int) {n k r : Nat} (hk : k < n) (hr : r < 7) : (encK L n).getD (7 * k + r) 0 = (encL (L.getD (k * 4) 0) (L.getD (k * 4 + 1) 0) (L.getD (k * 4 + 2) 0) (L.getD (k * 4 + 3) 0)).getD r 0 := by
  induction n with
  | zero => omega
  | succ n ih =>
    rw [encK]
    have hl := encK_len L n
    by_cases h : k < n
    · have : 7 * k + r < (encK L n).length := by omega
      rw [← ih h]
      simp [List.getD, List.getElem?_append, this]
    · obtain rfl : k = n := by omega
      simp only [List.getD, List.getElem?_append, hl, if_neg (show ¬ 7 * k + r < 7 * k by omega), Nat.add_sub_cancel_left]
theorem cg_enc {Z : ByteArray} (hb : allS bitC Z = true) {k r : Nat} (hk : k < Z.size / 4) (hr : r < 7) : cg (encT Z) (7 * k + r) = (encL (cg Z (k * 4)) (cg Z (k * 4 + 1)) (cg Z (k * 4 + 2)) (cg Z (k * 4 + 3))).getD r 0 := by
  unfold encT
  have e : codes (text (encK (codes Z) (Z.size / 4))) = encK (codes Z) (Z.size / 4) := codes_text (encK_bit (codes_bits hb) _ (by rw [codes_length]; omega))
  unfold cg
  rw [e]
  exact encK_get (codes Z) hk hr
theorem ex_seven {D : ByteArray} {k : Nat} (h : k * 7 + 7 ≤ D.size) : codes (D.extract (k * 7) (k * 7 + 7)) = (List.range 7).map fun r => cg D (7 * k + r) := by
  have hl : (codes D).length = D.size := codes_length D
  rw [codes_ex, Nat.add_sub_cancel_left]
  apply List.ext_getElem
  · simp; omega
  · intro i h1 h2
    have h7 : i < 7 := by simpa using h2
    rw [List.getElem_take, List.getElem_drop]
    simp only [List.getElem_map, List.getElem_range]
    unfold cg
    rw [Nat.mul_comm 7 k, List.getD_eq_getElem?_getD, List.getElem?_eq_getElem (by omega), Option.getD_some]
theorem list_getD7 {L : List Int} (h : L.length = 7) : L = (List.range 7).map fun r => L.getD r 0 := by
  apply List.ext_getElem
  · simp [h]
  · intro i h1 h2
    simp only [List.getElem_map, List.getElem_range]
    rw [List.getD_eq_getElem?_getD, List.getElem?_eq_getElem h1, Option.getD_some]
theorem encL_len (a b c d : Int) : (encL a b c d).length = 7 := rfl
/-- A block with at most one bit changed is decoded. -/
theorem block_dec {Z D : ByteArray} {G : Nat → Bool} (hb : allS bitC Z = true) (hF : Fl (encT Z) D G) {k : Nat} (hk : k < Z.size / 4)
    (h1 : ∀ r r', r < 7 → r' < 7 → G (7 * k + r) = true → G (7 * k + r') = true → r = r') :
    codes (decB (D.extract (k * 7) (k * 7 + 7))) = [cg Z (k * 4), cg Z (k * 4 + 1), cg Z (k * 4 + 2), cg Z (k * 4 + 3)] := by
  have hz := enc_size Z
  have hsz : D.size = 7 * (Z.size / 4) := by rw [hF.1, hz]
  have hkk : k * 7 + 7 ≤ D.size := by omega
  have hDb := hF.bit (enc_all hb)
  have hX : (D.extract (k * 7) (k * 7 + 7)).size = 7 := by rw [ex_size hkk]; omega
  rw [dec_codes hX (allS_ex _ _ hDb), ex_seven hkk]
  have ba := cg_bit hb (i := k * 4) (by omega)
  have bb := cg_bit hb (i := k * 4 + 1) (by omega)
  have bc := cg_bit hb (i := k * 4 + 2) (by omega)
  have bd := cg_bit hb (i := k * 4 + 3) (by omega)
  have hv : ∀ r, r < 7 → cg D (7 * k + r) = if G (7 * k + r) = true then 97 - (encL (cg Z (k * 4)) (cg Z (k * 4 + 1)) (cg Z (k * 4 + 2)) (cg Z (k * 4 + 3))).getD r 0 else (encL (cg Z (k * 4)) (cg Z (k * 4 + 1)) (cg Z (k * 4 + 2)) (cg Z (k * 4 + 3))).getD r 0 := by
    intro r hr
    rw [hF.2 _ (by rw [hz]; omega), cg_enc hb hk hr]
  have hE7 : (encL (cg Z (k * 4)) (cg Z (k * 4 + 1)) (cg Z (k * 4 + 2)) (cg Z (k * 4 + 3))).length = 7 := rfl
  by_cases hq : ∃ q, q < 7 ∧ G (7 * k + q) = true
  · obtain ⟨q, hq7, hqG⟩ := hq
    rw [← ham_one ba bb bc bd hq7]
    congr 1
    rw [list_getD7 (L := (encL (cg Z (k * 4)) (cg Z (k * 4 + 1)) (cg Z (k * 4 + 2)) (cg Z (k * 4 + 3))).set q _) (by rw [List.length_set]; exact hE7)]
    apply List.map_congr_left
    intro r hr
    have hr7 : r < 7 := List.mem_range.1 hr
    rw [hv r hr7]
    by_cases e : r = q
    · subst e
      rw [if_pos hqG]
      simp only [List.getD_eq_getElem?_getD, List.getElem?_set, hE7, if_pos hr7]
      rfl
    · rw [if_neg (fun h => e (h1 r q hr7 hq7 h hqG))]
      simp only [List.getD_eq_getElem?_getD, List.getElem?_set, if_neg (fun h => e (Eq.symm h))]
  · rw [← ham_zero ba bb bc bd]
    congr 1
    rw [list_getD7 hE7]
    apply List.map_congr_left
    intro r hr
    have hr7 : r < 7 := List.mem_range.1 hr
    rw [hv r hr7, if_neg (fun h => hq ⟨r, hr7, h⟩)]
theorem take_four {L : List Int} {k : Nat} (h : k * 4 + 4 ≤ L.length) : L.take (4 * (k + 1)) = L.take (4 * k) ++ [L.getD (k * 4) 0, L.getD (k * 4 + 1) 0, L.getD (k * 4 + 2) 0, L.getD (k * 4 + 3) 0] := by
  have e : 4 * (k + 1) = k * 4 + 1 + 1 + 1 + 1 := by omega
  have g : ∀ i, (hi : i < L.length) → L.getD i 0 = L[i] := fun i hi => by rw [List.getD_eq_getElem?_getD, List.getElem?_eq_getElem hi, Option.getD_some]
  rw [e, List.take_succ_eq_append_getElem (by omega), List.take_succ_eq_append_getElem (by omega), List.take_succ_eq_append_getElem (by omega), List.take_succ_eq_append_getElem (by omega),
    g _ (by omega), g _ (by omega), g _ (by omega), g _ (by omega), Nat.mul_comm 4 k]
  simp only [List.append_assoc, List.cons_append, List.nil_append]
theorem dec_all {Z D : ByteArray} {G : Nat → Bool} (hb : allS bitC Z = true) (hF : Fl (encT Z) D G)
    (h1 : ∀ j j', j / 7 = j' / 7 → G j = true → G j' = true → j = j') : ∀ k, k ≤ Z.size / 4 → codes (decT D k) = (codes Z).take (4 * k)
  | 0, _ => by rw [decT, Nat.mul_zero, List.take_zero]; rfl
  | k + 1, hk => by
    have ih := dec_all hb hF h1 k (by omega)
    have hbl := block_dec hb hF (k := k) (by omega) (fun r r' hr hr' g g' => by have := h1 (7 * k + r) (7 * k + r') (by omega) g g'; omega)
    rw [decT, codes_ap, ih, hbl, take_four (by rw [codes_length]; omega)]
    rfl

/-- The padded frame is parsed. -/
theorem parse_pad {p : ByteArray} {n : Nat} (h : payB p = true) (hb : bitsB (padT (frameT p) n) = true) : parseR (padT (frameT p) n) 0 = some (p, 0 + 23 + p.size) := by
  have hz := frame_size p
  refine parse_frame (a := 0) hb (payB_is h).1 (by rw [pad_size]; omega) ?_
  apply b_ext
  rw [ex_list, padT, ap_list, List.drop_zero, Nat.sub_zero, List.take_append_of_le_length (by rw [sz_list]; omega), List.take_of_length_le (by rw [sz_list]; omega)]

/-- A protected payload, with bits changed within as many places as there are rows, is opened. -/
theorem open_prot {p q y : ByteArray} {n s t x : Int} {F : Nat → Bool} {a : Nat} (hq : prR p n s t x = some q) (hF : Fl q y F) (hw : ∀ i, F i = true → a ≤ i ∧ (i : Int) < (a : Int) + n) : opR y n s t x = some p := by
  have h1 : payB p = true := by
    cases h : payB p with
    | true => rfl
    | false => rw [prR_no1 h] at hq; cases hq
  have h2 : inB n 1 40 = true := by
    cases h : inB n 1 40 with
    | true => rfl
    | false => rw [prR_no2 h] at hq; cases hq
  have h3 : regB s t x = true := by
    cases h : regB s t x with
    | true => rfl
    | false => rw [prR_no3 h] at hq; cases hq
  obtain ⟨R, rfl, hR1, hR4⟩ := inB_40 h2
  obtain ⟨S, T, X, rfl, rfl, rfl, _⟩ := regB_nat h3
  have hP := prot_all h1 hR1 hR4
  have hps := prR_some h1 h2 h3 hP
  rw [hq] at hps
  obtain ⟨Z, hZ⟩ : ∃ Z, Z = padT (frameT p) (4 * R) := ⟨_, rfl⟩
  have hpp := parse_pad h1 hP.bits
  have hB := hP.out
  have hrows := hP.rows
  have hzb := bits_all hP.bits
  have hzs := hP.mod
  rw [← hZ] at hps hpp hB hrows hzb hzs
  have hBR := mod_of hrows
  have hsz := enc_size Z
  generalize hBB : encT Z = B at *
  have hCR : B.size / R * R = B.size := Nat.div_mul_cancel (Nat.dvd_of_mod_eq_zero hBR)
  have hWb := wv_bits (by omega) hCR (bits_all hB)
  have hWB : bitsB (wvT B R) = true := bits_mk (by rw [wv_size]; exact bits_le hB) hWb
  rw [scrR_yes hWB h3] at hps
  have hqq : scrT (wvT B R) S T X = q := Option.some.inj hps
  rw [← hqq] at hF
  have hyb : bitsB y = true := bits_mk (by rw [hF.1, scr_size, wv_size]; exact bits_le hB) (hF.bit (scr_bits _ _ _ _))
  have hG := hF.scr hWb
  have hM : bitsB (scrT y S T X) = true := bits_mk (by rw [hG.1, wv_size]; exact bits_le hB) (scr_bits _ _ _ _)
  have hMz : (scrT y S T X).size = B.size := by rw [hG.1, wv_size]
  have hH := hG.dei (by omega) hCR
  have hKb : bitsB (deiT (scrT y S T X) R) = true := bits_mk (by rw [hH.1]; exact bits_le hB) (hH.bit (bits_all hB))
  obtain ⟨m, hm⟩ : ∃ m, B.size = 7 * m * R := by
    obtain ⟨m, hm⟩ := Nat.dvd_of_mod_eq_zero hrows
    exact ⟨m, by rw [hm, Nat.mul_assoc, Nat.mul_assoc, Nat.mul_comm R m]⟩
  have hC : B.size / R = 7 * m := by rw [hm]; exact Nat.mul_div_cancel _ (by omega)
  rw [hC] at hH
  have hw2 : ∀ i, F i = true → a ≤ i ∧ i < a + R := fun i hi => by have := hw i hi; omega
  have hdec := dec_all (Z := Z) hzb (by rw [hBB]; exact hH) (fun j j' hj g g' => one_block hw2 hj g g') (Z.size / 4) (Nat.le_refl _)
  rw [List.take_of_length_le (by rw [codes_length]; omega)] at hdec
  have hdd := codes_inj hdec
  have hk7 : (deiT (scrT y S T X) R).size / 7 = Z.size / 4 := by rw [hH.1, hsz]; omega
  unfold opR
  rw [scrR_yes hyb h3, Option.bind_some, deiR_yes hM h2 (by rw [hMz]; exact hBR), Option.bind_some, hamR_yes hKb (by rw [hH.1, hsz]; omega), Option.bind_some, hk7, hdd, hpp]
  rfl
/-- What is opened is a payload, and can be protected. -/
theorem open_is {b p : ByteArray} {n s t x : Int} (h : opR b n s t x = some p) : payB p = true ∧ inB n 1 40 = true ∧ regB s t x = true ∧ ∃ D : ByteArray, D.size = 4 * (b.size / 7) ∧ 23 + p.size ≤ D.size ∧ b.size % n.toNat = 0 ∧ b.size % 7 = 0 := by
  unfold opR at h
  cases h1 : scrR b s t x with
  | none => rw [h1] at h; cases h
  | some m =>
    rw [h1, Option.bind_some] at h
    cases h2 : deiR m n with
    | none => rw [h2] at h; cases h
    | some k =>
      rw [h2, Option.bind_some] at h
      cases h3 : hamR k with
      | none => rw [h3] at h; cases h
      | some d =>
        rw [h3, Option.bind_some] at h
        cases h4 : parseR d.1 0 with
        | none => rw [h4] at h; cases h
        | some e =>
          rw [h4] at h
          have hp : e.1 = p := Option.some.inj h
          have hbr : bitsB b = true ∧ regB s t x = true := by
            unfold scrR at h1
            split at h1
            · rename_i hh; rw [Bool.and_eq_true] at hh; exact hh
            · cases h1
          have hm : m.size = b.size := by
            unfold scrR at h1
            rw [if_pos (by rw [hbr.1, hbr.2]; rfl)] at h1
            rw [← Option.some.inj h1, scr_size]
          have hdd : inB n 1 40 = true ∧ m.size % n.toNat = 0 ∧ k.size = m.size := by
            unfold deiR at h2
            split at h2
            · rename_i hh
              rw [Bool.and_eq_true, Bool.and_eq_true, beq_iff_eq] at hh
              exact ⟨hh.1.2, hh.2, by rw [← Option.some.inj h2, dei_sizeT]⟩
            · cases h2
          have hkk : k.size % 7 = 0 ∧ d.1.size = 4 * (k.size / 7) := by
            unfold hamR at h3
            split at h3
            · rename_i hh
              rw [Bool.and_eq_true, beq_iff_eq] at hh
              refine ⟨hh.2, ?_⟩
              rw [← Option.some.inj h3]
              exact decT_size _ (by omega)
            · cases h3
          obtain ⟨pay, r⟩ := e
          subst hp
          obtain ⟨b0, hb0, hn, hle, hpay, _, _⟩ := parse_is h4
          exact ⟨hpay, hdd.1, hbr.2, d.1, by rw [hkk.2, hdd.2.2, hm], (show 23 + pay.size ≤ d.1.size by omega), by rw [← hm]; exact hdd.2.1, by rw [← hm, ← hdd.2.2]; exact hkk.1⟩
/-- How long the protected payload of what was opened is. -/
theorem open_len {b p q : ByteArray} {n s t x : Int} (h : opR b n s t x = some p) (hq : prR p n s t x = some q) (hm : b.size % (7 * n.toNat) = 0) : q.size ≤ b.size := by
  obtain ⟨h1, h2, h3, D, hD, hD2, _, _⟩ := open_is h
  obtain ⟨R, rfl, hR1, hR4⟩ := inB_40 h2
  have hP := prot_all h1 hR1 hR4
  have hps := prR_some h1 h2 h3 hP
  rw [hq] at hps
  have hsz : q.size = (encT (padT (frameT p) (4 * R))).size := by
    obtain ⟨S, T, X, rfl, rfl, rfl, _⟩ := regB_nat h3
    have hCR : (encT (padT (frameT p) (4 * R))).size / R * R = (encT (padT (frameT p) (4 * R))).size := Nat.div_mul_cancel (Nat.dvd_of_mod_eq_zero (mod_of hP.rows))
    have hWB : bitsB (wvT (encT (padT (frameT p) (4 * R))) R) = true := bits_mk (by rw [wv_size]; exact hP.top) (wv_bits (by omega) hCR (bits_all hP.out))
    rw [scrR_yes hWB h3] at hps
    rw [← Option.some.inj hps, scr_size, wv_size]
  have hz := frame_size p
  rw [hsz, enc_size, pad_size]
  obtain ⟨u, hu⟩ := Nat.dvd_of_mod_eq_zero hm
  rw [show (R : Int).toNat = R from rfl, Nat.mul_assoc] at hu
  have hb7 : b.size / 7 = R * u := by omega
  rw [hb7] at hD
  have hlt := padN_lt (L := (frameT p).size) (n := 4 * R) (by omega)
  have hdv := pad_dvd (L := (frameT p).size) (n := 4 * R) (by omega)
  obtain ⟨v, hv⟩ := Nat.dvd_of_mod_eq_zero hdv
  have hvu : v ≤ u := by
    rcases Nat.lt_or_ge u v with g | g
    · have e1 := Nat.mul_le_mul_left (4 * R) (show u + 1 ≤ v from g)
      rw [Nat.mul_add, Nat.mul_one] at e1
      have e2 : 4 * R * u = 4 * (R * u) := Nat.mul_assoc _ _ _
      omega
    · exact g
  have e3 := Nat.mul_le_mul_left (4 * R) hvu
  have e2 : 4 * R * u = 4 * (R * u) := Nat.mul_assoc _ _ _
  omega

theorem Fl.flip {q y : ByteArray} {F : Nat → Bool} {i : Nat} (h : Fl q y F) (hq : allS bitC q = true) (hi : i < q.size) (hF : F i = false) : Fl q (flipT y i) fun j => F j || j == i := by
  have hy := h.bit hq
  have hiy : i < y.size := by rw [h.1]; exact hi
  refine ⟨by rw [flip_size hiy, h.1], fun j hj => ?_⟩
  have hjl : j < (codes y).length := by rw [codes_length, h.1]; exact hj
  have hc := h.2 j hj
  unfold cg at hc ⊢
  rw [codes_flip hiy hy, List.getD_eq_getElem?_getD, List.getElem?_set]
  by_cases e : i = j
  · subst e
    rw [if_pos rfl, if_pos hjl]
    have h2 := h.2 i hi
    unfold cg at h2
    rw [hF] at h2
    rw [List.getD_eq_getElem?_getD, List.getElem?_eq_getElem hjl, Option.getD_some] at h2
    simp only [beq_self_eq_true, Bool.or_true, if_true, Option.getD_some]
    rw [h2]; rfl
  · rw [if_neg e, ← List.getD_eq_getElem?_getD, hc]
    have : (j == i) = false := by rw [beq_eq_false_iff_ne]; exact fun h => e h.symm
    show _ = if (F j || j == i) = true then 97 - (codes q).getD j 0 else (codes q).getD j 0
    rw [this, Bool.or_false]

set_option maxHeartbeats 1600000 in
theorem ssFlip_c (s : ByteArray) (k : Nat) (w : World) (hk : k < s.size) (hs : s.size ≤ 1000) (hb : allS bitC s = true) : Calls Try.prog 18 #[.string s, .int .i64 k] w fun e w' => e = .returned (.string (flipT s k)) ∧ Below w.heap.size w w' := by
  have hl : k < (codes s).length := by rw [codes_length]; exact hk
  have hx : (codes s)[k] = 48 ∨ (codes s)[k] = 49 := codes_bits hb _ (List.getElem_mem hl)
  have HR := Lib.hid (show text ((codes s).set k (97 - (codes s)[k])) = flipT s k by rw [← codes_flip hk hb, text_codes])
  go_enter Try.func18, Try.ntmps18
  go_wp2_with (first | (with_reducible refine wp_bytes 9 22 5 Try.underlying9 Try.underlying22 Try.underlying5 _ rfl (.tmp 6) rfl s rfl ?_; intro w2 cc hrow hb2 hsz2 hcc; have hc := hrow.cell hl; have hf := hrow.free hl; have hrow2 := hrow.set (i := k) (97 - (codes s)[k]); have hb3 := hrow.belowSet hb2 k (.int .u8 (97 - (codes s)[k])); have hrd := hrow2.rd (show s.size = _ by rw [List.length_set, codes_length]) (by omega); generalize (codes s)[k] = v at *; clear hrow hb2 hrow2) | (with_reducible refine wp_text 22 5 9 Try.underlying22 Try.underlying5 Try.underlying9 _ rfl (.tmp 16) rfl rfl hrd ?_; rw [HR.out]))
  go_ret
  exact ⟨rfl, hb3⟩

end Go.Proofs.Ytadcckjlcmnhbaa
