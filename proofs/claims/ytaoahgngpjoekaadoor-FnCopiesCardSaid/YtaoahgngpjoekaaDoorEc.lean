/- Plain laws of combined copies: what they are, in any order; what is lost. -/
import Derived.Test.YtaoahgngpjoekaaDoorEb
namespace Go.Proofs.YtaoahgngpjoekaaDoor
open Go.RowKit

/-- The byte at place i. -/
def cd (s : ByteArray) (i : Nat) : Int := (codes s).getD i 0
theorem cd_eq {s : ByteArray} {i : Nat} (h : i < s.size) : cd s i = (s[i].toNat : Int) := by
  unfold cd
  rw [List.getD_eq_getElem?_getD, List.getElem?_eq_getElem (by rw [codes_length]; exact h), Option.getD_some, codes_get s h]
structure IsComb (l : List ByteArray) (t : ByteArray) : Prop where
  lo : 1 ≤ l.length
  hi : l.length ≤ 16
  all : ∀ s ∈ l, copyB s = true ∧ s.size = t.size
  fits : ∀ i, i < t.size → ∀ s ∈ l, cd s i = 63 ∨ cd s i = cd t i
  one : ∀ i, i < t.size → ∃ s ∈ l, cd t i = cd s i
theorem ext_getD {A B : List Int} (h : A.length = B.length) (h2 : ∀ i, i < A.length → A.getD i 0 = B.getD i 0) : A = B := by
  apply List.ext_getElem h
  intro i h3 h4
  have := h2 i h3
  rwa [List.getD_eq_getElem?_getD, List.getD_eq_getElem?_getD, List.getElem?_eq_getElem h3, List.getElem?_eq_getElem h4] at this
theorem zip_getD {O C : List Int} {i : Nat} (f : Int → Int → Int) (hO : i < O.length) (hC : i < C.length) : (List.zipWith f O C).getD i 0 = f (O.getD i 0) (C.getD i 0) := by
  simp [List.getD_eq_getElem?_getD, List.getElem?_zipWith, hO, hC]
theorem fit_all {O C : List Int} (h : O.length = C.length) : (List.zipWith okP O C).all id = true ↔ ∀ i, i < O.length → okP (O.getD i 0) (C.getD i 0) = true := by
  constructor
  · intro h1 i hi
    have hz : i < (List.zipWith okP O C).length := by rw [List.length_zipWith]; omega
    have := List.all_eq_true.1 h1 _ (List.getElem_mem hz)
    rw [List.getElem_zipWith] at this
    simpa [List.getD_eq_getElem?_getD, hi, show i < C.length by omega] using this
  · intro h1
    rw [List.all_eq_true]
    intro x hx
    obtain ⟨i, hi, rfl⟩ := List.getElem_of_mem hx
    have hz : i < O.length := by rw [List.length_zipWith] at hi; omega
    have := h1 i hz
    rw [List.getElem_zipWith]
    simpa [List.getD_eq_getElem?_getD, hz, show i < C.length by omega] using this
theorem mx_eq (a b : Int) : mx a b = if a = 63 then b else a := by
  unfold mx
  by_cases h : a = 63 <;> simp [h]
theorem okP_iff (a b : Int) : okP a b = true ↔ b = 63 ∨ b = a ∨ a = 63 := by
  unfold okP; simp [or_assoc]

theorem combF_only : ∀ (l : List ByteArray) (O R : List Int), combF O l = some R →
    R.length = O.length ∧ (∀ s ∈ l, copyB s = true ∧ s.size = O.length) ∧ ∀ i, i < O.length →
      (O.getD i 0 = 63 ∨ O.getD i 0 = R.getD i 0) ∧ (∀ s ∈ l, cd s i = 63 ∨ cd s i = R.getD i 0) ∧ (R.getD i 0 = O.getD i 0 ∨ ∃ s ∈ l, R.getD i 0 = cd s i)
  | [], O, R, h => by
    simp only [combF, Option.some.injEq] at h
    subst h
    exact ⟨rfl, (fun s hs => by simp at hs), fun i hi => ⟨.inr rfl, (fun s hs => by simp at hs), .inl rfl⟩⟩
  | s :: l, O, R, h => by
    rw [combF] at h
    by_cases hf : fitB O s = true
    · rw [if_pos hf] at h
      unfold fitB at hf
      rw [Bool.and_eq_true, Bool.and_eq_true, decide_eq_true_eq] at hf
      obtain ⟨⟨h1, h2⟩, h3⟩ := hf
      have hOC : O.length = (codes s).length := by rw [codes_length]; exact h2.symm
      obtain ⟨r1, r2, r3⟩ := combF_only l _ R h
      have hL : (List.zipWith mx O (codes s)).length = O.length := by rw [List.length_zipWith]; omega
      rw [hL] at r1 r2 r3
      refine ⟨r1, ?_, ?_⟩
      · intro t ht
        rcases List.mem_cons.1 ht with rfl | ht
        · exact ⟨h1, h2⟩
        · exact r2 t ht
      · intro i hi
        obtain ⟨q1, q2, q3⟩ := r3 i hi
        rw [zip_getD mx hi (by omega), mx_eq] at q1 q3
        have ho := (okP_iff _ _).1 ((fit_all hOC).1 h3 i hi)
        have e : cd s i = (codes s).getD i 0 := rfl
        rw [← e] at q1 q3 ho
        refine ⟨?_, ?_, ?_⟩
        · by_cases hq : O.getD i 0 = 63
          · exact .inl hq
          · rw [if_neg hq] at q1; exact q1
        · intro t ht
          rcases List.mem_cons.1 ht with rfl | ht
          · by_cases hq : O.getD i 0 = 63
            · rw [if_pos hq] at q1; exact q1
            · rw [if_neg hq] at q1
              rcases ho with ho | ho | ho
              · exact .inl ho
              · rw [ho]; exact q1
              · exact absurd ho hq
          · exact q2 t ht
        · rcases q3 with q3 | ⟨t, ht, q3⟩
          · by_cases hq : O.getD i 0 = 63
            · rw [if_pos hq] at q3; exact .inr ⟨s, by simp, q3⟩
            · rw [if_neg hq] at q3; exact .inl q3
          · exact .inr ⟨t, List.mem_cons_of_mem _ ht, q3⟩
    · rw [if_neg hf] at h; cases h

theorem combF_if : ∀ (l : List ByteArray) (O R : List Int), R.length = O.length → (∀ s ∈ l, copyB s = true ∧ s.size = O.length) →
    (∀ i, i < O.length → (O.getD i 0 = 63 ∨ O.getD i 0 = R.getD i 0) ∧ (∀ s ∈ l, cd s i = 63 ∨ cd s i = R.getD i 0) ∧ (R.getD i 0 = O.getD i 0 ∨ ∃ s ∈ l, R.getD i 0 = cd s i)) → combF O l = some R
  | [], O, R, h1, _, h3 => by
    rw [combF]
    congr 1
    refine (ext_getD h1 fun i hi => ?_).symm
    rcases (h3 i (by omega)).2.2 with h | ⟨s, hs, _⟩
    · exact h
    · cases hs
  | s :: l, O, R, h1, h2, h3 => by
    obtain ⟨hc, hsz⟩ := h2 s (by simp)
    have hOC : O.length = (codes s).length := by rw [codes_length]; exact hsz.symm
    have hL : (List.zipWith mx O (codes s)).length = O.length := by rw [List.length_zipWith]; omega
    have e : ∀ i, cd s i = (codes s).getD i 0 := fun _ => rfl
    rw [combF_yes hc hsz ((fit_all hOC).2 fun i hi => by
      obtain ⟨q1, q2, _⟩ := h3 i hi
      have q2 := q2 s (by simp)
      rw [okP_iff, ← e]
      rcases q1 with q1 | q1
      · exact .inr (.inr q1)
      · rcases q2 with q2 | q2
        · exact .inl q2
        · exact .inr (.inl (q2.trans q1.symm)))]
    refine combF_if l _ R (by rw [hL]; exact h1) (fun t ht => by rw [hL]; exact h2 t (List.mem_cons_of_mem _ ht)) fun i hi => ?_
    rw [hL] at hi
    obtain ⟨q1, q2, q3⟩ := h3 i hi
    have q2s := q2 s (by simp)
    rw [zip_getD mx hi (by omega), mx_eq, ← e]
    refine ⟨?_, fun t ht => q2 t (List.mem_cons_of_mem _ ht), ?_⟩
    · by_cases hq : O.getD i 0 = 63
      · rw [if_pos hq]; exact q2s
      · rw [if_neg hq]; exact q1
    · by_cases hq : O.getD i 0 = 63
      · rw [if_pos hq]
        rcases q3 with q3 | ⟨t, ht, q3⟩
        · rcases q2s with q2s | q2s
          · exact .inl (by rw [q3, hq, q2s])
          · exact .inl q2s.symm
        · rcases List.mem_cons.1 ht with rfl | ht
          · exact .inl q3
          · exact .inr ⟨t, ht, q3⟩
      · rw [if_neg hq]
        rcases q1 with q1 | q1
        · exact absurd q1 hq
        · exact .inl q1.symm

theorem combR_if {l : List ByteArray} {t : ByteArray} (h : IsComb l t) : combR l = some t := by
  have h0 : 0 < l.length := h.lo
  rw [combR_yes h0 h.hi, combF_if l (codes l[0]) (codes t) ?_ ?_ ?_]
  · show some (text (codes t)) = some t
    rw [text_codes]
  · rw [codes_length, codes_length]; exact (h.all _ (List.getElem_mem h0)).2.symm
  · intro s hs
    rw [codes_length]
    exact ⟨(h.all s hs).1, (h.all s hs).2.trans (h.all _ (List.getElem_mem h0)).2.symm⟩
  · intro i hi
    rw [codes_length, (h.all _ (List.getElem_mem h0)).2] at hi
    exact ⟨h.fits i hi _ (List.getElem_mem h0), h.fits i hi, .inr (h.one i hi)⟩

theorem codes_textR {R : List Int} (h : ∀ x ∈ R, 0 ≤ x ∧ x < 256) : codes (text R) = R := by
  unfold codes text
  simp only [List.map_map]
  conv => rhs; rw [← List.map_id R]
  apply List.map_congr_left
  intro x hx
  have := h x hx
  simp only [Function.comp, id]
  rw [UInt8.toNat_ofNat']
  omega
theorem cd_range {s : ByteArray} {i : Nat} (h : i < s.size) : 0 ≤ cd s i ∧ cd s i < 256 := by
  rw [cd_eq h]
  have := s[i].toNat_lt
  omega
theorem combR_only {l : List ByteArray} {t : ByteArray} (h : combR l = some t) : IsComb l t := by
  by_cases hl : 1 ≤ l.length ∧ l.length ≤ 16
  · have h0 : 0 < l.length := hl.1
    rw [combR_yes h0 hl.2] at h
    cases hF : combF (codes l[0]) l with
    | none => rw [hF] at h; cases h
    | some R =>
      rw [hF] at h
      have ht : text R = t := by simpa using h
      obtain ⟨r1, r2, r3⟩ := combF_only l _ R hF
      rw [codes_length] at r1 r2 r3
      have hR : ∀ x ∈ R, 0 ≤ x ∧ x < 256 := by
        intro x hx
        obtain ⟨i, hi, rfl⟩ := List.getElem_of_mem hx
        have hiz : i < l[0].size := by omega
        have hg : R.getD i 0 = R[i] := by simp [List.getD_eq_getElem?_getD, hi]
        rcases (r3 i hiz).2.2 with h | ⟨s, hs, h⟩
        · rw [← hg, h]; exact cd_range hiz
        · rw [← hg, h]; exact cd_range (by rw [(r2 s hs).2]; exact hiz)
      have hc : codes t = R := by rw [← ht]; exact codes_textR hR
      have hsz : t.size = l[0].size := by rw [← codes_length, hc, r1]
      have hcd : ∀ i, cd t i = R.getD i 0 := fun i => by unfold cd; rw [hc]
      refine ⟨hl.1, hl.2, fun s hs => ⟨(r2 s hs).1, (r2 s hs).2.trans hsz.symm⟩, fun i hi s hs => ?_, fun i hi => ?_⟩
      · rw [hcd]; exact (r3 i (by omega)).2.1 s hs
      · rw [hcd]
        rcases (r3 i (by omega)).2.2 with h | h
        · exact ⟨_, List.getElem_mem h0, h⟩
        · exact h
  · rw [combR_no (by omega)] at h; cases h

theorem copyB_iff (s : ByteArray) : copyB s = true ↔ s.size ≤ 600 ∧ ∀ i, i < s.size → cd s i = 48 ∨ cd s i = 49 ∨ cd s i = 63 := by
  unfold copyB allS
  rw [Bool.and_eq_true, decide_eq_true_eq, List.all_eq_true]
  constructor
  · rintro ⟨h1, h2⟩
    refine ⟨h1, fun i hi => ?_⟩
    have := h2 s[i] (by rw [← Array.mem_def]; exact ByteArray.getElem_eq_getElem_data (h := hi) ▸ Array.getElem_mem _)
    rw [cd_eq hi]
    simp [copyC] at this
    omega
  · rintro ⟨h1, h2⟩
    refine ⟨h1, fun x hx => ?_⟩
    obtain ⟨i, hi, rfl⟩ := List.getElem_of_mem hx
    have hi' : i < s.size := by simpa using hi
    have := h2 i hi'
    rw [cd_eq hi'] at this
    have e : s.data.toList[i] = s[i] := rfl
    rw [e]
    unfold copyC
    rcases this with h | h | h <;> simp [h]
theorem IsComb.copy {l : List ByteArray} {t : ByteArray} (h : IsComb l t) : copyB t = true := by
  have h0 : 0 < l.length := h.lo
  rw [copyB_iff]
  refine ⟨?_, fun i hi => ?_⟩
  · have := h.all _ (List.getElem_mem h0)
    rw [← this.2]; exact copyB_600 this.1
  · obtain ⟨s, hs, e⟩ := h.one i hi
    rw [e]
    have := h.all s hs
    exact ((copyB_iff s).1 this.1).2 i (by omega)
theorem lostK_mono {s t : ByteArray} (hst : s.size = t.size) (h : ∀ i, i < t.size → cd t i = 63 → cd s i = 63) : ∀ k, k ≤ t.size → lostK t k ≤ lostK s k
  | 0, _ => Nat.le_refl _
  | k + 1, hk => by
    have ih := lostK_mono hst h k (by omega)
    have hkt : k < t.size := by omega
    have hks : k < s.size := by omega
    by_cases hq : cd t k = 63
    · have h2 := h k hkt hq
      rw [cd_eq hkt] at hq; rw [cd_eq hks] at h2
      rw [lostK_yes hkt (by rw [hq]; rfl), lostK_yes hks (by rw [h2]; rfl)]
      omega
    · rw [cd_eq hkt] at hq
      rw [lostK_no hkt (by rw [beq_eq_false_iff_ne]; exact hq)]
      by_cases hq2 : ((s[k].toNat : Int) == 63) = true
      · rw [lostK_yes hks hq2]; omega
      · rw [lostK_no hks (by simpa using hq2)]; exact ih
theorem IsComb.lost {l : List ByteArray} {t : ByteArray} (h : IsComb l t) {s : ByteArray} (hs : s ∈ l) : lostN t ≤ lostN s := by
  have := lostK_mono (h.all s hs).2 (fun i hi hq => by
    rcases h.fits i hi s hs with h1 | h1
    · exact h1
    · rw [h1, hq]) t.size (Nat.le_refl _)
  rw [lostK_all, ← (h.all s hs).2, lostK_all] at this
  exact this
theorem IsComb.perm {l l' : List ByteArray} {t : ByteArray} (h : IsComb l t) (hl : l'.length = l.length) (hm : ∀ s, s ∈ l' ↔ s ∈ l) : IsComb l' t :=
  ⟨by rw [hl]; exact h.lo, by rw [hl]; exact h.hi, fun s hs => h.all s ((hm s).1 hs), fun i hi s hs => h.fits i hi s ((hm s).1 hs), fun i hi => by
    obtain ⟨s, hs, e⟩ := h.one i hi
    exact ⟨s, (hm s).2 hs, e⟩⟩
/-- The copy beside one of those that it was made of: it stays. -/
theorem IsComb.again {l : List ByteArray} {t s : ByteArray} (h : IsComb l t) (hs : s ∈ l) : IsComb [t, s] t := by
  refine ⟨by simp, by simp, fun u hu => ?_, fun i hi u hu => ?_, fun i hi => ⟨t, by simp, rfl⟩⟩
  · rcases List.mem_cons.1 hu with rfl | hu
    · exact ⟨h.copy, rfl⟩
    · obtain rfl := List.mem_singleton.1 hu; exact h.all _ hs
  · rcases List.mem_cons.1 hu with rfl | hu
    · exact .inr rfl
    · obtain rfl := List.mem_singleton.1 hu; exact h.fits i hi _ hs

end Go.Proofs.YtaoahgngpjoekaaDoor
