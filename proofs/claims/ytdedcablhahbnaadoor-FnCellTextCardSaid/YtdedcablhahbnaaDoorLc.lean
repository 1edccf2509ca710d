/- Plain laws over cells: which lists are cells, what a station that is admitted or released leaves. No program in sight. -/
import Derived.Test.YtdedcablhahbnaaDoorAm
namespace Go.Proofs.YtdedcablhahbnaaDoor
open Go.RowKit

/-- Two stations that go side by side. -/
def Apart (a b : Stn) : Prop := (a.nm.toList == b.nm.toList) = false ∧ confB a.ph b.ph = false
def stOk (s : Stn) : Prop := stB s.nm s.ph s.g s.l = true
theorem Apart.symm {a b : Stn} (h : Apart a b) : Apart b a := by
  obtain ⟨h1, h2⟩ := h
  rw [beq_eq_false_iff_ne] at h1
  exact ⟨by rw [beq_eq_false_iff_ne]; exact fun e => h1 e.symm, by rw [confB_comm]; exact h2⟩
theorem apart_iff {l : List Stn} {i k : Nat} (hi : i < l.length) (hk : k < l.length) : apart l i k = true ↔ Apart l[k] l[i] := by
  unfold apart Apart
  rw [getD_stn hi, getD_stn hk]
  simp
theorem cellB_iff {l : List Stn} : cellB l = true ↔ l.length ≤ 8 ∧ (∀ s ∈ l, stOk s) ∧ l.Pairwise Apart := by
  unfold cellB okT
  rw [Bool.and_eq_true, decide_eq_true_eq, List.all_eq_true, List.pairwise_iff_getElem]
  constructor
  · rintro ⟨h8, h⟩
    refine ⟨h8, fun s hs => ?_, fun i j hi hj hij => ?_⟩
    · obtain ⟨i, hi, rfl⟩ := List.getElem_of_mem hs
      have := h i (List.mem_range.2 hi)
      unfold goodAt at this
      rw [Bool.and_eq_true, getD_stn hi] at this
      exact this.1
    · have := h j (List.mem_range.2 hj)
      unfold goodAt apT at this
      rw [Bool.and_eq_true, List.all_eq_true] at this
      exact (apart_iff hj hi).1 (this.2 i (List.mem_range.2 hij))
  · rintro ⟨h8, h1, h2⟩
    refine ⟨h8, fun i hi => ?_⟩
    rw [List.mem_range] at hi
    unfold goodAt apT
    rw [Bool.and_eq_true, List.all_eq_true, getD_stn hi]
    refine ⟨h1 _ (List.getElem_mem hi), fun k hk => ?_⟩
    rw [List.mem_range] at hk
    exact (apart_iff hi (by omega)).2 (h2 k i (by omega) hi hk)
theorem cellB_sub {l r : List Stn} (h : cellB l = true) (hs : r.Sublist l) : cellB r = true := by
  rw [cellB_iff] at *
  exact ⟨Nat.le_trans hs.length_le h.1, fun s hm => h.2.1 s (hs.subset hm), h.2.2.sublist hs⟩
theorem idxS_neg {l : List Stn} {nm : ByteArray} : idxS l nm < 0 ↔ ∀ s ∈ l, (s.nm.toList == nm.toList) = false := by
  unfold idxS
  cases hf : l.findIdx? (fun s => s.nm.toList == nm.toList) with
  | none =>
    rw [List.findIdx?_eq_none_iff] at hf
    exact ⟨fun _ => hf, fun _ => by decide⟩
  | some i =>
    have := List.findIdx?_eq_some_iff_getElem.1 hf
    obtain ⟨h1, h2, _⟩ := this
    constructor
    · intro h; exact absurd h (by show ¬ (i : Int) < 0; omega)
    · intro h; rw [h _ (List.getElem_mem h1)] at h2; cases h2
theorem idxS_some {l : List Stn} {nm : ByteArray} {f : Nat} (h : idxS l nm = f) : ∃ hf : f < l.length, l[f].nm.toList = nm.toList := by
  unfold idxS at h
  cases hf : l.findIdx? (fun s => s.nm.toList == nm.toList) with
  | none => rw [hf] at h; exact absurd h (by show ¬ (-1 : Int) = (f : Int); omega)
  | some i =>
    rw [hf] at h
    obtain rfl : i = f := by have : (i : Int) = (f : Int) := h; omega
    obtain ⟨h1, h2, _⟩ := List.findIdx?_eq_some_iff_getElem.1 hf
    exact ⟨h1, by simpa using h2⟩
theorem toList_inj {a b : ByteArray} (h : a.toList = b.toList) : a = b := by
  rw [ByteArray.toList_eq, ByteArray.toList_eq] at h
  cases a; cases b; simp at h; simpa using h
/-- A cell with a further station. -/
theorem cellB_snoc {l : List Stn} {s : Stn} (h : cellB l = true) (h8 : l.length < 8) (hs : stOk s) (hn : idxS l s.nm < 0) (hp : ∀ q ∈ l, confB s.ph q.ph = false) : cellB (l ++ [s]) = true := by
  rw [cellB_iff] at *
  refine ⟨by simp; omega, fun x hx => ?_, ?_⟩
  · rcases List.mem_append.1 hx with hx | hx
    · exact h.2.1 x hx
    · rw [List.mem_singleton] at hx; subst hx; exact hs
  · rw [List.pairwise_append]
    refine ⟨h.2.2, List.pairwise_singleton _ _, fun a ha b hb => ?_⟩
    rw [List.mem_singleton] at hb; subst hb
    exact ⟨idxS_neg.1 hn a ha, by rw [confB_comm]; exact hp a ha⟩
theorem freeB_iff {u : List ByteArray} {p : ByteArray} : freeB u p = true ↔ ∀ q ∈ u, confB p q = false := by
  unfold freeB; rw [List.all_eq_true]; simp
theorem allocR_free {u : List ByteArray} {d : Int} {p : ByteArray} (h : allocR u d = some p) : (0 ≤ d ∧ d ≤ 6) ∧ (p.size : Int) = d ∧ pathB p = true ∧ ∀ q ∈ u, confB p q = false := by
  unfold allocR at h
  split at h
  · rename_i hd
    have hd' := inB_iff.1 hd
    have hm := List.mem_of_mem_head? h
    unfold freeL at hm
    rw [List.mem_filter, List.mem_map] at hm
    obtain ⟨⟨n, _, rfl⟩, hf⟩ := hm
    exact ⟨hd', by rw [binT_size]; omega, pathB_bin (by omega), freeB_iff.1 hf⟩
  · cases h
/-- Each list of bits is the digits of a number. -/
theorem binL_of {L : List Int} (h : ∀ x ∈ L, x = 48 ∨ x = 49) : ∃ n, n < 2 ^ L.length ∧ binL n L.length = L := by
  induction L with
  | nil => exact ⟨0, by simp, rfl⟩
  | cons b L ih =>
    obtain ⟨n, hn, hb⟩ := ih fun x hx => h x (List.mem_cons_of_mem _ hx)
    obtain ⟨c, hc, rfl⟩ : ∃ c : Nat, c ≤ 1 ∧ b = ((48 + c : Nat) : Int) := by
      rcases h b List.mem_cons_self with rfl | rfl
      · exact ⟨0, by omega, rfl⟩
      · exact ⟨1, by omega, rfl⟩
    refine ⟨c * 2 ^ L.length + n, ?_, ?_⟩
    · rw [List.length_cons, Nat.pow_succ]
      have : c * 2 ^ L.length ≤ 1 * 2 ^ L.length := Nat.mul_le_mul_right _ hc
      omega
    · rw [List.length_cons]
      apply List.ext_getElem
      · rw [binL_len]; simp
      · intro i h1 h2
        rw [binL_get]
        cases i with
        | zero =>
          simp only [List.getElem_cons_zero]
          congr 2
          unfold bitN
          rw [show L.length + 1 - 1 - 0 = L.length by omega, Nat.add_comm, Nat.add_mul_div_right _ _ (Nat.two_pow_pos _), Nat.div_eq_of_lt hn]
          omega
        | succ i =>
          simp only [List.getElem_cons_succ]
          have hi : i < L.length := by simpa using h2
          have e : L[i] = (binL n L.length)[i]'(by rw [binL_len]; exact hi) := by simp only [hb]
          rw [e, binL_get]
          congr 2
          unfold bitN
          have e2 : L.length + 1 - 1 - (i + 1) = L.length - 1 - i := by omega
          have e3 : c * 2 ^ L.length = c * 2 ^ (i + 1) * 2 ^ (L.length - 1 - i) := by
            rw [Nat.mul_assoc, ← Nat.pow_add, show i + 1 + (L.length - 1 - i) = L.length by omega]
          rw [e2, e3, Nat.add_comm, Nat.add_mul_div_right _ _ (Nat.two_pow_pos _), Nat.pow_succ, ← Nat.mul_assoc, Nat.add_mul_mod_self_right]
theorem allocR_has {u : List ByteArray} {p : ByteArray} (hp : pathB p = true) (hu : ∀ q ∈ u, confB p q = false) : ∃ r, allocR u (p.size : Int) = some r := by
  have hz := pathB_size hp
  obtain ⟨n, hn, hb⟩ := binL_of (L := codes p) (by
    unfold pathB allS at hp
    rw [Bool.and_eq_true, List.all_eq_true] at hp
    intro x hx
    unfold codes at hx
    obtain ⟨c, hc, rfl⟩ := List.mem_map.1 hx
    have := hp.2 c hc
    unfold bitC at this
    simp only [Bool.or_eq_true, beq_iff_eq] at this
    exact this)
  rw [codes_length] at hn hb
  have hm : p ∈ freeL u p.size (2 ^ p.size) := by
    unfold freeL
    rw [List.mem_filter, List.mem_map]
    exact ⟨⟨n, List.mem_range.2 hn, by unfold binT; rw [hb, text_codes]⟩, freeB_iff.2 hu⟩
  unfold allocR
  rw [if_pos (inB_true (by omega) (by omega))]
  simp only [Int.toNat_natCast]
  cases hf : freeL u p.size (2 ^ p.size) with
  | nil => rw [hf] at hm; cases hm
  | cons x l => exact ⟨x, rfl⟩

/-- What is left of a cell without a station. -/
def dropS (l : List Stn) (f : Nat) : List Stn := l.take f ++ l.drop (f + 1)
theorem dropS_sub (l : List Stn) (f : Nat) : (dropS l f).Sublist l := by
  unfold dropS
  conv => rhs; rw [← List.take_append_drop f l]
  exact List.Sublist.append (List.Sublist.refl _) (List.drop_sublist_drop_left _ (Nat.le_succ f))
theorem dropS_len {l : List Stn} {f : Nat} (h : f < l.length) : (dropS l f).length + 1 = l.length := by unfold dropS; simp; omega
theorem dropS_apart {l : List Stn} {f : Nat} (h : cellB l = true) (hf : f < l.length) : ∀ s ∈ dropS l f, Apart l[f] s := by
  have hp := (cellB_iff.1 h).2.2
  rw [List.pairwise_iff_getElem] at hp
  intro s hs
  unfold dropS at hs
  rcases List.mem_append.1 hs with hs | hs
  · obtain ⟨i, hi, rfl⟩ := List.getElem_of_mem hs
    rw [List.length_take] at hi
    rw [List.getElem_take]
    exact (hp i f (by omega) hf (by omega)).symm
  · obtain ⟨i, hi, rfl⟩ := List.getElem_of_mem hs
    rw [List.length_drop] at hi
    rw [List.getElem_drop]
    exact hp f (f + 1 + i) hf (by omega) (by omega)
theorem dropS_idx {l : List Stn} {nm : ByteArray} {f : Nat} (h : cellB l = true) (hf : idxS l nm = f) : idxS (dropS l f) nm < 0 := by
  obtain ⟨hl, he⟩ := idxS_some hf
  rw [idxS_neg]
  intro s hs
  have := (dropS_apart h hl s hs).1
  rw [← he, Bool.eq_false_iff] at *
  intro e; exact this (by rw [beq_iff_eq] at *; exact e.symm)
theorem dropS_end (l : List Stn) (s : Stn) : dropS (l ++ [s]) l.length = l := by unfold dropS; simp
theorem idxS_snoc {l : List Stn} {s : Stn} (h : idxS l s.nm < 0) : idxS (l ++ [s]) s.nm = (l.length : Int) := by
  rw [idxS_neg] at h
  refine idxS_at (by simp) (fun j hj => ?_) (by simp)
  rw [List.getElem_append_left hj]
  exact h _ (List.getElem_mem hj)

theorem pstS_nm (t : Int) (s : Stn) : (pstS t s).nm = s.nm ∧ (pstS t s).ph = s.ph ∧ (pstS t s).l = s.l := ⟨rfl, rfl, rfl⟩
theorem stOk_parts {s : Stn} (h : stOk s) : nameB s.nm = true ∧ pathB s.ph = true ∧ (0 ≤ s.g ∧ s.g ≤ 1000) ∧ (1 ≤ s.l ∧ s.l ≤ 20) := by
  unfold stOk stB at h
  simp only [Bool.and_eq_true] at h
  exact ⟨h.1.1.1, h.1.1.2, inB_iff.1 h.1.2, inB_iff.1 h.2⟩
theorem stOk_mk {s : Stn} (h1 : nameB s.nm = true) (h2 : pathB s.ph = true) (h3 : 0 ≤ s.g ∧ s.g ≤ 1000) (h4 : 1 ≤ s.l ∧ s.l ≤ 20) : stOk s := by
  unfold stOk stB; rw [h1, h2, inB_true h3.1 h3.2, inB_true h4.1 h4.2]; rfl
theorem pstS_g {t : Int} {s : Stn} : (pstS t s).g = if s.g < goalS t s then s.g + 1 else if s.g > goalS t s then s.g - 1 else s.g := rfl
theorem pstS_goal (t : Int) (s : Stn) : goalS t (pstS t s) = goalS t s := rfl
theorem pstS_ok {t : Int} {s : Stn} (ht : 0 ≤ t ∧ t ≤ 40) (h : stOk s) : stOk (pstS t s) := by
  obtain ⟨h1, h2, h3, h4⟩ := stOk_parts h
  have hg := goalS_bd ht h4
  refine stOk_mk h1 h2 ?_ h4
  rw [pstS_g]
  split
  · omega
  · split <;> omega
theorem pstS_gap {t : Int} {s : Stn} : gapS t (pstS t s) = max (gapS t s - 1) 0 := by
  unfold gapS
  rw [pstS_goal, pstS_g]
  split
  · omega
  · split <;> omega
theorem cellB_map {l : List Stn} {t : Int} (ht : 0 ≤ t ∧ t ≤ 40) (h : cellB l = true) : cellB (l.map (pstS t)) = true := by
  rw [cellB_iff] at *
  refine ⟨by simp [h.1], fun s hs => ?_, ?_⟩
  · obtain ⟨x, hx, rfl⟩ := List.mem_map.1 hs
    exact pstS_ok ht (h.2.1 x hx)
  · rw [List.pairwise_map]
    exact h.2.2
theorem timeT_full (l : List Stn) (t : Int) : timeT l t l.length = (l.map (gapS t)).foldl max 0 := by unfold timeT; rw [List.take_length]
theorem foldl_less (L : List Int) (a : Int) : (L.map fun x => max (x - 1) 0).foldl max (max (a - 1) 0) = max (L.foldl max a - 1) 0 := by
  induction L generalizing a with
  | nil => rfl
  | cons x L ih =>
    simp only [List.map_cons, List.foldl_cons]
    rw [show max (max (a - 1) 0) (max (x - 1) 0) = max (max a x - 1) 0 by omega]
    exact ih _
theorem timeT_step (l : List Stn) (t : Int) : timeT (l.map (pstS t)) t (l.map (pstS t)).length = max (timeT l t l.length - 1) 0 := by
  rw [timeT_full, timeT_full, List.map_map]
  have e : gapS t ∘ pstS t = (fun x => max (x - 1) 0) ∘ gapS t := by funext s; exact pstS_gap
  rw [e, ← List.map_map]
  exact foldl_less (l.map (gapS t)) 0
theorem foldl_ge (L : List Int) (a : Int) : a ≤ L.foldl max a ∧ ∀ x ∈ L, x ≤ L.foldl max a := by
  induction L generalizing a with
  | nil => exact ⟨Int.le_refl _, fun x hx => by cases hx⟩
  | cons y L ih =>
    simp only [List.foldl_cons]
    obtain ⟨h1, h2⟩ := ih (max a y)
    refine ⟨by omega, fun x hx => ?_⟩
    rcases List.mem_cons.1 hx with rfl | hx
    · omega
    · exact h2 x hx
theorem gap_le {l : List Stn} {t : Int} {s : Stn} (h : s ∈ l) : gapS t s ≤ timeT l t l.length := by
  rw [timeT_full]; exact (foldl_ge _ 0).2 _ (List.mem_map_of_mem h)
theorem timeT_nn (l : List Stn) (t : Int) : 0 ≤ timeT l t l.length := by rw [timeT_full]; exact (foldl_ge _ 0).1
theorem pst_same {t : Int} {s : Stn} (h : s.g = goalS t s) : pstS t s = s := by
  unfold pstS; rw [if_neg (by omega), if_neg (by omega)]
theorem gap_zero {t : Int} {s : Stn} : gapS t s ≤ 0 ↔ s.g = goalS t s := by unfold gapS; omega
theorem step_same {l : List Stn} {t : Int} (h : timeT l t l.length = 0) : l.map (pstS t) = l := by
  conv => rhs; rw [← List.map_id l]
  refine List.map_congr_left fun s hs => ?_
  exact pst_same (gap_zero.1 (by have := gap_le (t := t) hs; omega))
theorem step_same_inv {l : List Stn} {t : Int} (h : l.map (pstS t) = l) : timeT l t l.length = 0 := by
  have h1 := timeT_step l t
  rw [h] at h1
  have := timeT_nn l t
  omega
/-- Several steps. -/
def stpN (t : Int) : Nat → Stn → Stn
  | 0, s => s
  | i + 1, s => pstS t (stpN t i s)
theorem stpN_keep (t : Int) (i : Nat) (s : Stn) : (stpN t i s).nm = s.nm ∧ (stpN t i s).ph = s.ph ∧ (stpN t i s).l = s.l := by
  induction i with
  | zero => exact ⟨rfl, rfl, rfl⟩
  | succ i ih => exact ⟨(pstS_nm t _).1.trans ih.1, (pstS_nm t _).2.1.trans ih.2.1, (pstS_nm t _).2.2.trans ih.2.2⟩
theorem stpN_gap (t : Int) (i : Nat) (s : Stn) : gapS t (stpN t i s) = max (gapS t s - i) 0 := by
  induction i with
  | zero => unfold gapS stpN; omega
  | succ i ih => unfold stpN; rw [pstS_gap, ih]; omega
theorem stpN_map (t : Int) (i : Nat) (l : List Stn) : l.map (stpN t (i + 1)) = (l.map (stpN t i)).map (pstS t) := by rw [List.map_map]; rfl
theorem cellB_mapN {l : List Stn} {t : Int} (ht : 0 ≤ t ∧ t ≤ 40) (h : cellB l = true) (i : Nat) : cellB (l.map (stpN t i)) = true := by
  induction i with
  | zero => rw [show stpN t 0 = id from rfl, List.map_id]; exact h
  | succ i ih => rw [stpN_map]; exact cellB_map ht ih
theorem goalS_stpN (t : Int) (i : Nat) (s : Stn) : goalS t (stpN t i s) = goalS t s := by unfold goalS; rw [(stpN_keep t i s).2.2]
theorem stpN_there {l : List Stn} {t : Int} {i : Nat} {s : Stn} (h : s ∈ l) (hi : (i : Int) = timeT l t l.length) : (stpN t i s).g = goalS t s := by
  have h1 := stpN_gap t i s
  have h2 := gap_le (t := t) h
  have h3 := (gap_zero (t := t) (s := stpN t i s)).1 (by omega)
  rw [goalS_stpN] at h3
  exact h3
theorem goal_div {t : Int} {s : Stn} (ht : 0 ≤ t ∧ t ≤ 40) (hl : 1 ≤ s.l ∧ s.l ≤ 20) : goalS t s = t * s.l ∧ goalS t s / s.l = t := by
  have h : t * s.l ≤ 40 * 20 := Int.mul_le_mul ht.2 hl.2 (by omega) (by omega)
  have e : goalS t s = t * s.l := by unfold goalS; omega
  exact ⟨e, by rw [e]; exact Int.mul_ediv_cancel _ (by omega)⟩
theorem adm_cell {l l' : List Stn} {nm : ByteArray} {d loss : Int} (h : admR l nm d loss = some l') : cellB l' = true := by
  unfold admR at h
  split at h
  · rename_i hok
    cases ha : allocR (l.map Stn.ph) d with
    | none => rw [ha] at h; cases h
    | some p =>
      rw [ha] at h
      obtain rfl : l ++ [⟨nm, p, 1, loss⟩] = l' := by simpa using h
      unfold admOk at hok
      simp only [Bool.and_eq_true, decide_eq_true_eq] at hok
      obtain ⟨⟨⟨⟨h1, h2⟩, h3⟩, h4⟩, h5⟩ := hok
      obtain ⟨_, h6, h7, h8⟩ := allocR_free ha
      exact cellB_snoc h1 h2 (stOk_mk h3 h7 (by show (0 : Int) ≤ 1 ∧ (1 : Int) ≤ 1000; omega) (inB_iff.1 h5)) h4 fun q hq => h8 _ (List.mem_map_of_mem hq)
  · cases h
theorem cellB_setG {l : List Stn} {k : Nat} (h : cellB l = true) (hk : k < l.length) {x : Int} (hx : 0 ≤ x ∧ x ≤ 1000) : cellB (l.set k ⟨l[k].nm, l[k].ph, x, l[k].l⟩) = true := by
  rw [cellB_iff] at *
  refine ⟨by rw [List.length_set]; exact h.1, fun s hs => ?_, ?_⟩
  · rcases List.mem_or_eq_of_mem_set hs with hs | rfl
    · exact h.2.1 s hs
    · have hp := stOk_parts (h.2.1 _ (List.getElem_mem hk))
      exact stOk_mk hp.1 hp.2.1 hx hp.2.2.2
  · have h2 := h.2.2
    rw [List.pairwise_iff_getElem] at h2 ⊢
    intro i j hi hj hij
    rw [List.length_set] at hi hj
    have h3 := h2 i j hi hj hij
    rw [List.getElem_set, List.getElem_set]
    split
    · rename_i e; subst e
      rw [if_neg (by omega)]; exact h3
    · split
      · rename_i e; subst e; exact h3
      · exact h3

end Go.Proofs.YtdedcablhahbnaaDoor
