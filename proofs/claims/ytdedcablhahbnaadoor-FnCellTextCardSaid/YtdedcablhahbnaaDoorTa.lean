/- Plain laws over texts: cut at a byte, joined, decimal numerals read and written. No program in sight. -/
import Derived.Test.YtdedcablhahbnaaDoorB
import Derived.Lib.SplitLaws
import Derived.Lib.ItoaNum
import Derived.Lib.ItoaLen
import Derived.Lib.ItoaMem
import Derived.Lib.Join
namespace Go.Proofs.YtdedcablhahbnaaDoor
open Go.RowKit

abbrev Byts := List UInt8
/-- Cut at each byte c; 'cur' is what has been read of the piece under way. -/
def cutF (c : UInt8) : Byts → Byts → List Byts
  | cur, [] => [cur]
  | cur, b :: l => if b = c then cur :: cutF c [] l else cutF c (cur ++ [b]) l
def cutL (c : UInt8) (l : Byts) : List Byts := cutF c [] l
theorem cutF_ne (c : UInt8) : ∀ (l cur : Byts), cutF c cur l ≠ []
  | [], _ => by simp [cutF]
  | b :: l, cur => by unfold cutF; split
                      · simp
                      · exact cutF_ne c l _
theorem cutF_free {c : UInt8} : ∀ {p : Byts} (cur l : Byts), c ∉ p → cutF c cur (p ++ l) = cutF c (cur ++ p) l
  | [], cur, l, _ => by simp
  | b :: p, cur, l, h => by
    have hb : b ≠ c := fun e => h (by simp [e])
    rw [List.cons_append, cutF, if_neg hb, cutF_free (cur ++ [b]) l (fun e => h (by simp [e]))]
    simp
theorem cutF_none {c : UInt8} {p : Byts} (cur : Byts) (h : c ∉ p) : cutF c cur p = [cur ++ p] := by
  have := cutF_free cur [] h
  rwa [List.append_nil] at this
theorem cutF_hit {c : UInt8} {p : Byts} (cur l : Byts) (h : c ∉ p) : cutF c cur (p ++ c :: l) = (cur ++ p) :: cutF c [] l := by
  rw [cutF_free cur _ h, cutF, if_pos rfl]
theorem cutL_none {c : UInt8} {p : Byts} (h : c ∉ p) : cutL c p = [p] := cutF_none [] h
theorem cutL_hit {c : UInt8} {p : Byts} (l : Byts) (h : c ∉ p) : cutL c (p ++ c :: l) = p :: cutL c l := cutF_hit [] l h
theorem cutL_ne (c : UInt8) (l : Byts) : cutL c l ≠ [] := cutF_ne c l []
theorem cutF_len (c : UInt8) : ∀ (l cur : Byts), (cutF c cur l).length = l.count c + 1
  | [], _ => rfl
  | b :: l, cur => by
    unfold cutF
    by_cases h : b = c
    · rw [if_pos h, List.length_cons, cutF_len c l, h, List.count_cons_self]
    · rw [if_neg h, cutF_len c l, List.count_cons_of_ne h]
theorem cutL_len (c : UInt8) (l : Byts) : (cutL c l).length = l.count c + 1 := cutF_len c l []
/-- The pieces hold no c. -/
theorem cutF_mem {c : UInt8} : ∀ (l cur : Byts), c ∉ cur → ∀ p ∈ cutF c cur l, c ∉ p
  | [], cur, h, p, hp => by rw [cutF, List.mem_singleton] at hp; rw [hp]; exact h
  | b :: l, cur, h, p, hp => by
    unfold cutF at hp
    split at hp
    · rcases List.mem_cons.1 hp with e | e
      · rw [e]; exact h
      · exact cutF_mem l [] (by simp) p e
    · next hb => exact cutF_mem l _ (by simp; exact ⟨h, fun e => hb e.symm⟩) p hp
theorem cutL_mem {c : UInt8} {l : Byts} : ∀ p ∈ cutL c l, c ∉ p := cutF_mem l [] (by simp)
theorem join_two (x : Byts) (y : Byts) (r : List Byts) (s : Byts) : Lib.join (x :: y :: r) s = x ++ s ++ Lib.join (y :: r) s := by
  rw [Lib.join_cons, Lib.join_cons]; simp [Lib.joinTail]
theorem join_step (x : Byts) {r : List Byts} (h : r ≠ []) (s : Byts) : Lib.join (x :: r) s = x ++ s ++ Lib.join r s := by
  cases r with
  | nil => exact absurd rfl h
  | cons y r => exact join_two x y r s
/-- Cut and joined again. -/
theorem join_cutF (c : UInt8) : ∀ (l cur : Byts), Lib.join (cutF c cur l) [c] = cur ++ l
  | [], cur => by rw [cutF, Lib.join_one, List.append_nil]
  | b :: l, cur => by
    unfold cutF
    by_cases h : b = c
    · rw [if_pos h, join_step _ (cutF_ne c l []), join_cutF c l [], h]; simp
    · rw [if_neg h, join_cutF c l]; simp
theorem join_cut (c : UInt8) (l : Byts) : Lib.join (cutL c l) [c] = l := join_cutF c l []
/-- Joined and cut again. -/
theorem cut_join {c : UInt8} : ∀ {ps : List Byts}, ps ≠ [] → (∀ p ∈ ps, c ∉ p) → cutL c (Lib.join ps [c]) = ps
  | [], h, _ => absurd rfl h
  | [p], _, h => by rw [Lib.join_one]; exact cutL_none (h p (by simp))
  | p :: q :: r, _, h => by
    rw [join_two, List.append_assoc, List.singleton_append, cutL_hit _ (h p (by simp)), cut_join (by simp) (fun x hx => h x (by simp [hx]))]
theorem cutL_inj {c : UInt8} {l r : Byts} (h : cutL c l = cutL c r) : l = r := by rw [← join_cut c l, h, join_cut]

/-- The library's cut. -/
theorem split_head {c : UInt8} {l : Byts} {p : Nat} (h : Lib.index l [c] = p) : p < l.length ∧ c ∉ l.take p ∧ l = l.take p ++ c :: l.drop (p + 1) := by
  rcases Lib.index_spec l [c] with ⟨h1, _⟩ | ⟨i, h1, h2, h3, h4⟩
  · omega
  · obtain rfl : i = p := by omega
    have hr : i < l.length := by
      rcases Lib.occAt_room h3 with h' | h'
      · have h'' : i + 1 ≤ l.length := by simpa using h'
        omega
      · cases h'
    have hc : l[i] = c := by
      unfold Lib.occAt at h3
      rw [List.drop_eq_getElem_cons hr] at h3
      simp [List.isPrefixOf] at h3
      exact h3.symm
    refine ⟨hr, fun hm => ?_, ?_⟩
    · obtain ⟨j, hj, e⟩ := List.getElem_of_mem hm
      rw [List.length_take] at hj
      rw [List.getElem_take] at e
      have := h4 j (by omega)
      unfold Lib.occAt at this
      rw [List.drop_eq_getElem_cons (by omega)] at this
      simp [List.isPrefixOf, e] at this
    · conv => lhs; rw [← List.take_append_drop i l, List.drop_eq_getElem_cons hr, hc]
theorem split_none {c : UInt8} {l : Byts} (h : Lib.index l [c] = -1) : c ∉ l := by
  rcases Lib.index_spec l [c] with ⟨_, h2⟩ | ⟨i, h1, _⟩
  · intro hm
    obtain ⟨j, hj, e⟩ := List.getElem_of_mem hm
    have := h2 j (by omega)
    unfold Lib.occAt at this
    rw [List.drop_eq_getElem_cons hj] at this
    simp [List.isPrefixOf, e] at this
  · omega
theorem index_cases (l : Byts) (c : UInt8) : Lib.index l [c] = -1 ∨ ∃ p : Nat, Lib.index l [c] = p := by
  rcases Lib.index_spec l [c] with ⟨h1, _⟩ | ⟨i, h1, _⟩
  · exact .inl h1
  · exact .inr ⟨i, h1⟩
theorem splitK_cut (c : UInt8) : ∀ (k : Nat) (l : Byts), l.count c ≤ k → Lib.splitK [c] 0 k l = cutL c l
  | 0, l, h => by
    have : c ∉ l := fun hm => by have := List.count_pos_iff.2 hm; omega
    rw [Lib.splitK, cutL_none this]
  | k + 1, l, h => by
    unfold Lib.splitK
    rcases index_cases l c with e | ⟨p, e⟩
    · rw [e, if_pos (by rfl), cutL_none (split_none e)]
    · obtain ⟨h1, h2, h3⟩ := split_head e
      have hne : ¬ ((p : Int) == -1) = true := by rw [beq_iff_eq]; omega
      rw [e, if_neg hne, Nat.add_zero, Int.toNat_natCast]
      have hc : (l.drop (p + 1)).count c ≤ k := by
        rw [h3, List.count_append, List.count_cons_self] at h; omega
      show l.take p :: Lib.splitK [c] 0 k (l.drop (p + 1)) = _
      rw [splitK_cut c k _ hc]
      conv => rhs; rw [h3]
      rw [cutL_hit _ h2]
def bts (s : ByteArray) : Byts := s.data.toList
def txt (l : Byts) : ByteArray := ⟨l.toArray⟩
theorem bts_txt (l : Byts) : bts (txt l) = l := rfl
theorem txt_bts (s : ByteArray) : txt (bts s) = s := rfl
theorem bts_inj {a b : ByteArray} (h : bts a = bts b) : a = b := by rw [← txt_bts a, h, txt_bts]
theorem bts_len (s : ByteArray) : (bts s).length = s.size := rfl
theorem txt_size (l : Byts) : (txt l).size = l.length := by simp [txt, ByteArray.size]
/-- A text cut at a byte. -/
def cutT (c : UInt8) (s : ByteArray) : List ByteArray := (cutL c (bts s)).map txt
theorem cutT_len (c : UInt8) (s : ByteArray) : (cutT c s).length = (bts s).count c + 1 := by unfold cutT; rw [List.length_map, cutL_len]
theorem cutT_bts (c : UInt8) (s : ByteArray) : (cutT c s).map bts = cutL c (bts s) := by
  unfold cutT; rw [List.map_map]; exact List.map_id _
theorem map_bts_inj {a b : List ByteArray} (h : a.map bts = b.map bts) : a = b := by
  have := congrArg (List.map txt) h
  simpa [List.map_map, Function.comp_def, txt_bts] using this
theorem countB_one (c : UInt8) (s : ByteArray) : Lib.countB s ⟨#[c]⟩ = (bts s).count c := by
  unfold Lib.countB; exact Lib.count_one c _
theorem splitB_cut (c : UInt8) (s : ByteArray) : Lib.splitB ⟨#[c]⟩ 0 (Lib.countB s ⟨#[c]⟩) s = cutT c s := by
  apply map_bts_inj
  rw [cutT_bts]
  have := Lib.splitB_data ⟨#[c]⟩ 0 (Lib.countB s ⟨#[c]⟩) s
  refine Eq.trans this ?_
  exact splitK_cut c _ _ (by rw [countB_one]; exact Nat.le_refl _)
theorem cutT_mem {c : UInt8} {s p : ByteArray} (h : p ∈ cutT c s) : c ∉ bts p := by
  unfold cutT at h
  obtain ⟨x, hx, rfl⟩ := List.mem_map.1 h
  exact cutL_mem x hx
theorem cutF_size (c : UInt8) : ∀ (l cur : Byts), ∀ p ∈ cutF c cur l, p.length ≤ cur.length + l.length
  | [], cur, p, hp => by rw [cutF, List.mem_singleton] at hp; rw [hp]; simp
  | b :: l, cur, p, hp => by
    unfold cutF at hp
    split at hp
    · rcases List.mem_cons.1 hp with e | e
      · rw [e]; simp
      · have := cutF_size c l [] p e; simp at this ⊢; omega
    · have := cutF_size c l _ p hp; simp at this ⊢; omega
theorem cutT_size {c : UInt8} {s p : ByteArray} (h : p ∈ cutT c s) : p.size ≤ s.size := by
  unfold cutT at h
  obtain ⟨x, hx, rfl⟩ := List.mem_map.1 h
  have := cutF_size c _ [] x hx
  rw [txt_size, ← bts_len]; simpa using this
/-- Texts joined with a byte between them. -/
def joinT (c : UInt8) (ps : List ByteArray) : ByteArray := txt (Lib.join (ps.map bts) [c])
theorem joinT_cut (c : UInt8) (s : ByteArray) : joinT c (cutT c s) = s := by unfold joinT; rw [cutT_bts, join_cut, txt_bts]
theorem cutT_join {c : UInt8} {ps : List ByteArray} (h : ps ≠ []) (hp : ∀ p ∈ ps, c ∉ bts p) : cutT c (joinT c ps) = ps := by
  apply map_bts_inj
  rw [cutT_bts]
  unfold joinT
  rw [bts_txt]
  exact cut_join (by simpa using h) (fun p hp' => by obtain ⟨x, hx, rfl⟩ := List.mem_map.1 hp'; exact hp x hx)

/-- The digits' value. -/
def valD (l : Byts) : Nat := l.foldl (fun n b => 10 * n + (b.toNat - 48)) 0
def digC (b : UInt8) : Bool := decide (48 ≤ b.toNat) && decide (b.toNat ≤ 57)
def digsB (l : Byts) : Bool := decide (1 ≤ l.length) && decide (l.length ≤ 17) && l.all digC
theorem valD_snoc (l : Byts) (b : UInt8) : valD (l ++ [b]) = 10 * valD l + (b.toNat - 48) := by unfold valD; rw [List.foldl_append]; rfl
theorem digC_iff {b : UInt8} : digC b = true ↔ 48 ≤ b.toNat ∧ b.toNat ≤ 57 := by unfold digC; simp
theorem snoc_ind {P : Byts → Prop} (h0 : P []) (h1 : ∀ l b, P l → P (l ++ [b])) : ∀ l, P l := by
  intro l
  rw [← List.reverse_reverse l]
  induction l.reverse with
  | nil => exact h0
  | cons b r ih => rw [List.reverse_cons]; exact h1 _ _ ih
theorem valD_lt : ∀ (l : Byts), l.all digC = true → valD l < 10 ^ l.length := by
  refine snoc_ind ?_ ?_
  · intro _; decide
  · intro l b ih h
    rw [List.all_append, Bool.and_eq_true] at h
    have := ih h.1
    have hb : digC b = true := by simpa using h.2
    rw [digC_iff] at hb
    rw [valD_snoc, List.length_append, List.length_singleton, Nat.pow_succ]
    omega
theorem ofNat_dig {d : Nat} (h : d < 10) : (UInt8.ofNat (48 + d)).toNat = 48 + d := by
  rw [UInt8.toNat_ofNat']; omega
theorem dec_digC (u : Nat) : (Lib.decDigits u).all digC = true := by
  induction u using Nat.strongRecOn with
  | _ u ih =>
    rw [Lib.decDigits]
    split
    · next h =>
      have := ofNat_dig h
      rw [List.all_cons, List.all_nil, Bool.and_true, digC_iff, this]; omega
    · next h =>
      rw [List.all_append, ih (u / 10) (by omega)]
      have hm : u % 10 < 10 := Nat.mod_lt _ (by decide)
      have := ofNat_dig hm
      rw [Bool.true_and, List.all_cons, List.all_nil, Bool.and_true, digC_iff, this]; omega
theorem val_dec (u : Nat) : valD (Lib.decDigits u) = u := by
  induction u using Nat.strongRecOn with
  | _ u ih =>
    rw [Lib.decDigits]
    split
    · next h => show 10 * 0 + ((UInt8.ofNat (48 + u)).toNat - 48) = u; rw [ofNat_dig h]; omega
    · next h => rw [valD_snoc, ih (u / 10) (by omega), ofNat_dig (Nat.mod_lt _ (by decide))]; omega
theorem dec_ne (u : Nat) : Lib.decDigits u ≠ [] := by
  intro h
  have := Lib.decDigits_length u
  rw [h] at this
  have := Lib.nDigits_pos u
  simp at *; omega
theorem dec_head {u : Nat} (h : 0 < u) : (Lib.decDigits u).head? ≠ some 48 := by
  induction u using Nat.strongRecOn with
  | _ u ih =>
    rw [Lib.decDigits]
    split
    · next h10 =>
      intro e
      simp only [List.head?_cons, Option.some.injEq] at e
      have := congrArg UInt8.toNat e
      rw [ofNat_dig h10] at this
      have : (48 : UInt8).toNat = 48 := rfl
      omega
    · next h10 =>
      have h1 := ih (u / 10) (by omega) (by omega)
      have h2 := dec_ne (u / 10)
      rw [List.head?_append]
      cases hd : (Lib.decDigits (u / 10)).head? with
      | none => rw [List.head?_eq_none_iff] at hd; exact absurd hd h2
      | some x => rw [hd] at h1; simpa using h1
theorem dec_zero : Lib.decDigits 0 = [48] := by rw [Lib.decDigits]; rfl
/-- Digits without a zero ahead are the numeral of their value. -/
theorem dec_val : ∀ (l : Byts), l ≠ [] → l.all digC = true → (l.head? = some 48 → l = [48]) → Lib.decDigits (valD l) = l := by
  refine snoc_ind ?_ ?_
  · intro h; exact absurd rfl h
  · intro l b ih _ h hz
    rw [List.all_append, Bool.and_eq_true] at h
    have hb : digC b = true := by simpa using h.2
    rw [digC_iff] at hb
    have hbn : UInt8.ofNat (48 + (b.toNat - 48)) = b := by rw [show 48 + (b.toNat - 48) = b.toNat by omega]; exact UInt8.ofNat_toNat
    by_cases hl : l = []
    · subst hl
      rw [valD_snoc]
      show Lib.decDigits (10 * 0 + (b.toNat - 48)) = _
      rw [Lib.decDigits, dif_pos (by omega), show 10 * 0 + (b.toNat - 48) = b.toNat - 48 by omega, hbn]; rfl
    · have hh : l.head? ≠ some 48 := by
        intro e
        have := hz (by rw [List.head?_append, e]; rfl)
        have h2 := congrArg List.length this
        rw [List.length_append] at h2
        have h3 : l.length ≠ 0 := fun e => hl (List.length_eq_zero_iff.1 e)
        simp only [List.length_singleton] at h2; omega
      have hv := ih hl h.1 (fun e => absurd e hh)
      have hp : 0 < valD l := by
        rcases Nat.eq_zero_or_pos (valD l) with e | e
        · rw [e, dec_zero] at hv; rw [← hv] at hh; exact absurd rfl hh
        · exact e
      rw [valD_snoc, Lib.decDigits, dif_neg (by omega)]
      rw [show (10 * valD l + (b.toNat - 48)) / 10 = valD l by omega, show (10 * valD l + (b.toNat - 48)) % 10 = b.toNat - 48 by omega, hv, hbn]

/-- A number in a text: as the program and the reference read it. -/
def numL : Byts → Option Int
  | 45 :: d => if digsB d = true ∧ d.head? ≠ some 48 then some (-(valD d : Int)) else none
  | d => if digsB d = true ∧ (d.head? = some 48 → d = [48]) then some (valD d : Int) else none
def numT (s : ByteArray) : Option Int := numL (bts s)
def decT (n : Int) : ByteArray := txt (Lib.itoa n)
theorem digsB_parts {d : Byts} (h : digsB d = true) : 1 ≤ d.length ∧ d.length ≤ 17 ∧ d.all digC = true := by
  unfold digsB at h; rw [Bool.and_eq_true, Bool.and_eq_true, decide_eq_true_eq, decide_eq_true_eq] at h; exact ⟨h.1.1, h.1.2, h.2⟩
theorem digsB_mk {d : Byts} (h1 : 1 ≤ d.length) (h2 : d.length ≤ 17) (h3 : d.all digC = true) : digsB d = true := by
  unfold digsB; rw [decide_eq_true h1, decide_eq_true h2, h3]; rfl
theorem dig_not_minus {d : Byts} (h : d.all digC = true) (hd : d ≠ []) : d.head? ≠ some 45 := by
  cases d with
  | nil => exact absurd rfl hd
  | cons b d =>
    intro e
    simp only [List.head?_cons, Option.some.injEq] at e
    subst e
    rw [List.all_cons] at h; simp [digC] at h
theorem numL_pos {d : Byts} (h : d.head? ≠ some 45) : numL d = if digsB d = true ∧ (d.head? = some 48 → d = [48]) then some (valD d : Int) else none := by
  unfold numL
  split
  · exact absurd rfl h
  · rfl
/-- A numeral is read as its number. -/
theorem num_dec {n : Int} (h0 : -100000000000000000 < n) (h1 : n < 100000000000000000) : numL (Lib.itoa n) = some n := by
  have hlen : ∀ u : Nat, u < 100000000000000000 → 1 ≤ (Lib.decDigits u).length ∧ (Lib.decDigits u).length ≤ 17 := by
    intro u hu
    rw [Lib.decDigits_length]
    refine ⟨Lib.nDigits_pos u, ?_⟩
    rcases Nat.lt_or_ge 17 (Lib.nDigits u) with h | h
    · exfalso
      have := val_dec u
      obtain ⟨k, hk⟩ : ∃ k, Lib.nDigits u = k + 1 := ⟨Lib.nDigits u - 1, by omega⟩
      have hge : 10 ^ k ≤ u := by
        rcases Nat.lt_or_ge u (10 ^ k) with h' | h'
        · cases k with
          | zero => omega
          | succ k =>
            rcases Nat.eq_zero_or_pos u with e | e
            · subst e; rw [Lib.nDigits_small (by decide)] at hk; omega
            · have : ∃ j, j ≤ k ∧ 10 ^ j ≤ u ∧ u < 10 ^ (j + 1) := by
                clear hk this
                induction k with
                | zero => exact ⟨0, Nat.le_refl _, by omega, by omega⟩
                | succ k ih =>
                  rcases Nat.lt_or_ge u (10 ^ (k + 1)) with h3 | h3
                  · obtain ⟨j, hj, h4⟩ := ih h3
                    exact ⟨j, by omega, h4⟩
                  · exact ⟨k + 1, Nat.le_refl _, h3, h'⟩
              obtain ⟨j, hj, h4, h5⟩ := this
              have := Lib.nDigits_unique j u h4 h5
              omega
        · exact h'
      have : 10 ^ 17 ≤ 10 ^ k := Nat.pow_le_pow_right (by decide) (by omega)
      have : (10 : Nat) ^ 17 = 100000000000000000 := by decide
      omega
    · exact h
  unfold Lib.itoa
  by_cases hn : n < 0
  · rw [if_pos hn]
    obtain ⟨a, b⟩ := hlen n.natAbs (by omega)
    show (if digsB (Lib.decDigits n.natAbs) = true ∧ (Lib.decDigits n.natAbs).head? ≠ some 48 then some (-(valD (Lib.decDigits n.natAbs) : Int)) else none) = _
    rw [if_pos ⟨digsB_mk a b (dec_digC _), dec_head (by omega)⟩, val_dec]
    congr 1; omega
  · rw [if_neg hn]
    obtain ⟨a, b⟩ := hlen n.toNat (by omega)
    have hz : (Lib.decDigits n.toNat).head? = some 48 → Lib.decDigits n.toNat = [48] := fun e => by
      rcases Nat.eq_zero_or_pos n.toNat with h | h
      · rw [h, dec_zero]
      · exact absurd e (dec_head h)
    rw [numL_pos (dig_not_minus (dec_digC _) (dec_ne _)), if_pos ⟨digsB_mk a b (dec_digC _), hz⟩, val_dec, Int.toNat_of_nonneg (by omega)]
/-- What is read is the numeral of its number. -/
theorem dec_num {l : Byts} {n : Int} (h : numL l = some n) : Lib.itoa n = l := by
  unfold numL at h
  split at h
  · next d =>
    split at h
    · next hc =>
      obtain ⟨h1, h2⟩ := hc
      obtain ⟨a, b, c⟩ := digsB_parts h1
      obtain rfl := Option.some.inj h
      have hd : d ≠ [] := by intro e; rw [e] at a; simp at a
      have hv := dec_val d hd c (fun e => absurd e h2)
      have hp : 0 < valD d := by
        rcases Nat.eq_zero_or_pos (valD d) with e | e
        · rw [e, dec_zero] at hv; rw [← hv] at h2; exact absurd rfl h2
        · exact e
      unfold Lib.itoa
      rw [if_pos (by omega), show (-(valD d : Int)).natAbs = valD d by omega, hv]
    · cases h
  · split at h
    · next hc =>
      obtain ⟨h1, h2⟩ := hc
      obtain ⟨a, b, c⟩ := digsB_parts h1
      obtain rfl := Option.some.inj h
      have hd : l ≠ [] := by intro e; rw [e] at a; simp at a
      have hv := dec_val l hd c h2
      unfold Lib.itoa
      rw [if_neg (by omega), Int.toNat_natCast, hv]
    · cases h
theorem num_bd {l : Byts} {n : Int} (h : numL l = some n) : -100000000000000000 < n ∧ n < 100000000000000000 := by
  have key : ∀ d : Byts, digsB d = true → valD d < 100000000000000000 := by
    intro d hd
    obtain ⟨a, b, c⟩ := digsB_parts hd
    have := valD_lt d c
    have h2 : 10 ^ d.length ≤ 10 ^ 17 := Nat.pow_le_pow_right (by decide) b
    have : (10 : Nat) ^ 17 = 100000000000000000 := by decide
    omega
  unfold numL at h
  split at h
  · split at h
    · next hc => have := key _ hc.1; obtain rfl := Option.some.inj h; omega
    · cases h
  · split at h
    · next hc => have := key _ hc.1; obtain rfl := Option.some.inj h; omega
    · cases h
theorem itoa_inj {a b : Int} (ha : -100000000000000000 < a ∧ a < 100000000000000000) (hb : -100000000000000000 < b ∧ b < 100000000000000000) (h : Lib.itoa a = Lib.itoa b) : a = b := by
  have h1 := num_dec ha.1 ha.2
  rw [h, num_dec hb.1 hb.2] at h1
  exact (Option.some.inj h1).symm
/-- A numeral holds digits and at most a minus ahead. -/
theorem itoa_mem {n : Int} {b : UInt8} (h : b ∈ Lib.itoa n) : b = 45 ∨ digC b = true := by
  unfold Lib.itoa at h
  split at h
  · rcases List.mem_cons.1 h with e | e
    · exact .inl e
    · exact .inr (List.all_eq_true.1 (dec_digC _) b e)
  · exact .inr (List.all_eq_true.1 (dec_digC _) b h)
theorem itoa_free {n : Int} {c : UInt8} (h1 : c ≠ 45) (h2 : digC c = false) : c ∉ Lib.itoa n := by
  intro h
  rcases itoa_mem h with e | e
  · exact h1 e
  · rw [h2] at e; cases e
theorem itoa_ne (n : Int) : Lib.itoa n ≠ [] := by
  unfold Lib.itoa; split
  · simp
  · exact dec_ne _

end Go.Proofs.YtdedcablhahbnaaDoor
