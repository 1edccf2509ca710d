/- Plain laws: the text of a cell, and the cell of a text. No program in sight. -/
import Derived.Test.YtdedcablhahbnaaDoorTa
import Derived.Test.YtdedcablhahbnaaDoorLc
namespace Go.Proofs.YtdedcablhahbnaaDoor
open Go.RowKit

def dashL (l : Byts) : Byts := if l = [] then [45] else l
def dashT (s : ByteArray) : ByteArray := if s.size = 0 then ⟨#[45]⟩ else s
def noneT (s : ByteArray) : ByteArray := if bts s = [45] then ⟨#[]⟩ else s
theorem dashT_bts (s : ByteArray) : bts (dashT s) = dashL (bts s) := by
  unfold dashT dashL
  by_cases h : s.size = 0
  · rw [if_pos h, if_pos (by rw [← List.length_eq_zero_iff, bts_len]; exact h)]; rfl
  · rw [if_neg h, if_neg (by rw [← List.length_eq_zero_iff, bts_len]; exact h)]
theorem none_dash {s : ByteArray} (h : bts s ≠ [45]) : noneT (dashT s) = s := by
  apply bts_inj
  unfold noneT
  rw [dashT_bts]
  unfold dashL
  by_cases e : bts s = []
  · rw [if_pos e, if_pos rfl, e]; rfl
  · rw [if_neg e, if_neg h, dashT_bts]; unfold dashL; rw [if_neg e]
theorem dash_none {s : ByteArray} (h : s.size ≠ 0) : dashT (noneT s) = s := by
  unfold noneT
  by_cases e : bts s = [45]
  · rw [if_pos e]; exact bts_inj (by rw [dashT_bts, e]; rfl)
  · rw [if_neg e]; unfold dashT; rw [if_neg h]
/-- The fields of a station's text, and the text. -/
def stF (s : Stn) : List ByteArray := [s.nm, dashT s.ph, decT s.g, decT s.l]
def stT (s : Stn) : ByteArray := joinT 58 (stF s)
def fmtT (l : List Stn) : ByteArray := if cellB l = true then dashT (joinT 59 (l.map stT)) else ⟨#[]⟩
/-- A station of a text, as the program reads it; and as the reference does. -/
def parS (p : ByteArray) : Option Stn :=
  match cutT 58 p with
  | [f0, f1, f2, f3] =>
    match numT f2, numT f3 with
    | some g, some l => if f1.size ≠ 0 ∧ stB f0 (noneT f1) g l = true then some ⟨f0, noneT f1, g, l⟩ else none
    | _, _ => none
  | _ => none
def rawS (p : ByteArray) : Option Stn :=
  match cutT 58 p with
  | [f0, f1, f2, f3] => some ⟨f0, noneT f1, (numT f2).getD 0, (numT f3).getD 0⟩
  | _ => none
def allO {α β : Type} (f : α → Option β) : List α → Option (List β)
  | [] => some []
  | x :: l => match f x, allO f l with
    | some y, some r => some (y :: r)
    | _, _ => none
def parT (t : ByteArray) : Option (List Stn) :=
  if bts t = [45] then some []
  else match allO parS (cutT 59 t) with
    | some l => if cellB l = true then some l else none
    | none => none
def spT (t : ByteArray) : Option (List Stn) :=
  if bts t = [45] then some []
  else match allO rawS ((cutT 59 t).take 9) with
    | some l => if bts (fmtT l) = bts t then some l else none
    | none => none
theorem allO_some {α β : Type} {f : α → Option β} : ∀ {l : List α} {r : List β}, allO f l = some r → r.length = l.length ∧ ∀ i (h : i < l.length) (h' : i < r.length), f l[i] = some r[i]
  | [], r, h => by obtain rfl := Option.some.inj h; exact ⟨rfl, fun i h => absurd h (by simp)⟩
  | x :: l, r, h => by
    unfold allO at h
    split at h
    · next y r' h1 h2 =>
      obtain rfl := Option.some.inj h
      obtain ⟨a, b⟩ := allO_some h2
      refine ⟨by simp [a], fun i h h' => ?_⟩
      cases i with
      | zero => exact h1
      | succ i => exact b i (by simpa using h) (by simpa using h')
    · cases h
theorem allO_mk {α β : Type} {f : α → Option β} : ∀ {l : List α} {r : List β}, r.length = l.length → (∀ i (h : i < l.length) (h' : i < r.length), f l[i] = some r[i]) → allO f l = some r
  | [], r, h, _ => by cases r with
    | nil => rfl
    | cons _ _ => simp at h
  | x :: l, [], h, _ => by simp at h
  | x :: l, y :: r, h, hf => by
    unfold allO
    have h0 := hf 0 (by simp) (by simp)
    simp only [List.getElem_cons_zero] at h0
    rw [h0, allO_mk (l := l) (r := r) (by simpa using h) (fun i h1 h2 => by have := hf (i + 1) (by simpa using h1) (by simpa using h2); simpa using this)]
theorem stB_parts {nm ph : ByteArray} {g l : Int} (h : stB nm ph g l = true) : nameB nm = true ∧ pathB ph = true ∧ (0 ≤ g ∧ g ≤ 1000) ∧ (1 ≤ l ∧ l ≤ 20) := by
  have h2 := stB_ranges h
  unfold stB at h
  rw [Bool.and_eq_true, Bool.and_eq_true, Bool.and_eq_true] at h
  exact ⟨h.1.1.1, h.1.1.2, h2⟩
theorem name_free {nm : ByteArray} (h : nameB nm = true) {c : UInt8} (hc : c.toNat < 97) : c ∉ bts nm := by
  intro hm
  unfold nameB allS at h
  rw [Bool.and_eq_true, List.all_eq_true] at h
  have := h.2 c hm
  unfold letC at this
  have := (inB_iff.1 this).1
  omega
theorem name_ne {nm : ByteArray} (h : nameB nm = true) : 1 ≤ nm.size := by
  unfold nameB at h
  rw [Bool.and_eq_true] at h
  have := (inB_iff.1 h.1).1
  omega
theorem path_bit {ph : ByteArray} (h : pathB ph = true) {c : UInt8} (hm : c ∈ bts ph) : c.toNat = 48 ∨ c.toNat = 49 := by
  unfold pathB allS at h
  rw [Bool.and_eq_true, List.all_eq_true] at h
  have := h.2 c hm
  unfold bitC at this
  rw [Bool.or_eq_true, beq_iff_eq, beq_iff_eq] at this
  omega
theorem path_free {ph : ByteArray} (h : pathB ph = true) {c : UInt8} (hc : c.toNat ≠ 48 ∧ c.toNat ≠ 49) : c ∉ bts ph := fun hm => by rcases path_bit h hm with e | e <;> omega
theorem path_dash {ph : ByteArray} (h : pathB ph = true) : bts ph ≠ [45] := fun e => by
  have : (45 : UInt8) ∈ bts ph := by rw [e]; simp
  rcases path_bit h this with e | e <;> exact absurd e (by decide)
theorem dash_free {s : ByteArray} {c : UInt8} (h : c ∉ bts s) (hc : c ≠ 45) : c ∉ bts (dashT s) := by
  rw [dashT_bts]; unfold dashL
  split
  · simpa using hc
  · exact h
/-- The fields hold no separator. -/
theorem stF_free {s : Stn} (h : stOk s) {c : UInt8} (hc : c = 58 ∨ c = 59) : ∀ p ∈ stF s, c ∉ bts p := by
  obtain ⟨h1, h2, _, _⟩ := stB_parts h
  have hd : digC c = false := by rcases hc with rfl | rfl <;> decide
  have h45 : c ≠ 45 := by rcases hc with rfl | rfl <;> decide
  have h97 : c.toNat < 97 := by rcases hc with rfl | rfl <;> decide
  have h48 : c.toNat ≠ 48 ∧ c.toNat ≠ 49 := by rcases hc with rfl | rfl <;> decide
  intro p hp
  simp only [stF, List.mem_cons, List.not_mem_nil, or_false] at hp
  rcases hp with rfl | rfl | rfl | rfl
  · exact name_free h1 h97
  · exact dash_free (path_free h2 h48) h45
  · exact itoa_free h45 hd
  · exact itoa_free h45 hd
theorem join_free {c d : UInt8} (hcd : c ≠ d) : ∀ {ps : List Byts}, (∀ p ∈ ps, c ∉ p) → c ∉ Lib.join ps [d]
  | [], _ => by rw [Lib.join_nil]; simp
  | [p], h => by rw [Lib.join_one]; exact h p (by simp)
  | p :: q :: r, h => by
    rw [join_two]
    simp only [List.mem_append, List.mem_singleton, not_or]
    exact ⟨⟨h p (by simp), hcd⟩, join_free hcd (fun x hx => h x (by simp [hx]))⟩
theorem stT_free {s : Stn} (h : stOk s) : (59 : UInt8) ∉ bts (stT s) := by
  unfold stT joinT
  rw [bts_txt]
  refine join_free (by decide) fun p hp => ?_
  obtain ⟨x, hx, rfl⟩ := List.mem_map.1 hp
  exact stF_free h (.inr rfl) x hx
theorem stT_cut {s : Stn} (h : stOk s) : cutT 58 (stT s) = stF s := cutT_join (by simp [stF]) (stF_free h (.inl rfl))
theorem stT_ne {s : Stn} (h : stOk s) : bts (stT s) ≠ [] := by
  intro e
  have := stT_cut h
  unfold cutT at this
  rw [e] at this
  have := congrArg List.length this
  simp [stF, cutL, cutF] at this
theorem numT_dec {n : Int} (h0 : -100000000000000000 < n) (h1 : n < 100000000000000000) : numT (decT n) = some n := num_dec h0 h1
theorem dec_numT {s : ByteArray} {n : Int} (h : numT s = some n) : decT n = s := bts_inj (dec_num h)
theorem parS_st {s : Stn} (h : stOk s) : parS (stT s) = some s := by
  obtain ⟨h1, h2, h3, h4⟩ := stB_parts h
  unfold parS
  rw [stT_cut h]
  simp only [stF]
  rw [numT_dec (by omega) (by omega), numT_dec (by omega) (by omega)]
  have hn := none_dash (path_dash h2)
  have hz : (dashT s.ph).size ≠ 0 := by
    unfold dashT
    split
    · decide
    · assumption
  simp only []
  rw [hn, if_pos ⟨hz, h⟩]
theorem parS_raw {p : ByteArray} {s : Stn} (h : parS p = some s) : rawS p = some s ∧ stT s = p ∧ stOk s := by
  unfold parS at h
  split at h
  · next f0 f1 f2 f3 hc =>
    split at h
    · next g l hg hl =>
      split at h
      · next hx =>
        obtain rfl := Option.some.inj h
        refine ⟨?_, ?_, hx.2⟩
        · unfold rawS; rw [hc]; simp only [hg, hl, Option.getD_some]
        · unfold stT stF
          simp only []
          rw [dash_none hx.1, dec_numT hg, dec_numT hl, ← hc, joinT_cut]
      · cases h
    · cases h
  · cases h
theorem joinT_ne {ps : List ByteArray} {c : UInt8} (h : ps ≠ []) (hp : ∀ p ∈ ps, bts p ≠ []) : bts (joinT c ps) ≠ [] := by
  unfold joinT
  rw [bts_txt]
  cases ps with
  | nil => exact absurd rfl h
  | cons p r =>
    rw [List.map_cons, Lib.join_cons]
    intro e
    rw [List.append_eq_nil_iff] at e
    exact hp p (by simp) e.1
theorem dash_id {s : ByteArray} (h : bts s ≠ []) : dashT s = s := by
  unfold dashT; rw [if_neg]; rw [← bts_len, List.length_eq_zero_iff]; exact h
/-- The text of a cell that is not empty. -/
theorem fmt_some {l : List Stn} (h : cellB l = true) (hl : l ≠ []) : fmtT l = joinT 59 (l.map stT) := by
  unfold fmtT
  rw [if_pos h]
  refine dash_id (joinT_ne (by simpa using hl) fun p hp => ?_)
  obtain ⟨s, hs, rfl⟩ := List.mem_map.1 hp
  exact stT_ne ((cellB_iff.1 h).2.1 s hs)
theorem fmt_cut {l : List Stn} (h : cellB l = true) (hl : l ≠ []) : cutT 59 (fmtT l) = l.map stT := by
  rw [fmt_some h hl]
  refine cutT_join (by simpa using hl) fun p hp => ?_
  obtain ⟨s, hs, rfl⟩ := List.mem_map.1 hp
  exact stT_free ((cellB_iff.1 h).2.1 s hs)
theorem cellB_nil : cellB [] = true := by decide
theorem fmt_nil : fmtT [] = ⟨#[45]⟩ := by
  unfold fmtT; rw [if_pos cellB_nil]; rfl
theorem allO_st : ∀ {l : List Stn}, (∀ s ∈ l, stOk s) → allO parS (l.map stT) = some l
  | [], _ => rfl
  | s :: l, h => by
    rw [List.map_cons]
    unfold allO
    rw [parS_st (h s (by simp)), allO_st (fun x hx => h x (by simp [hx]))]
theorem fmt_dash {l : List Stn} (h : cellB l = true) (hl : l ≠ []) : bts (fmtT l) ≠ [45] := by
  intro e
  have hc := fmt_cut h hl
  unfold cutT at hc
  rw [e] at hc
  cases l with
  | nil => exact hl rfl
  | cons s r =>
    have hs := (cellB_iff.1 h).2.1 s (by simp)
    have h1 : bts (stT s) = [45] := by
      have := congrArg (fun x : List ByteArray => x.head?.map bts) hc
      simpa [cutL, cutF, bts_txt] using this.symm
    have := stT_cut hs
    unfold cutT at this
    rw [h1] at this
    have := congrArg List.length this
    simp [stF, cutL, cutF] at this
/-- A cell is parsed from its text. -/
theorem par_fmt {l : List Stn} (h : cellB l = true) : parT (fmtT l) = some l := by
  by_cases hl : l = []
  · subst hl; rw [fmt_nil]; rfl
  · unfold parT
    rw [if_neg (fmt_dash h hl), fmt_cut h hl, allO_st (cellB_iff.1 h).2.1]
    simp only []
    rw [if_pos h]
theorem par_cell {t : ByteArray} {l : List Stn} (h : parT t = some l) : cellB l = true := by
  unfold parT at h
  split at h
  · obtain rfl := Option.some.inj h; exact cellB_nil
  · split at h
    · split at h
      · next hc => obtain rfl := Option.some.inj h; exact hc
      · cases h
    · cases h
/-- A text that is parsed is that of the parsed cell. -/
theorem fmt_par {t : ByteArray} {l : List Stn} (h : parT t = some l) : fmtT l = t := by
  have hcb := par_cell h
  unfold parT at h
  split at h
  · next e => obtain rfl := Option.some.inj h; rw [fmt_nil]; exact bts_inj e.symm
  · split at h
    · next r hr =>
      have hcr : cellB r = true := by
        split at h
        · assumption
        · cases h
      rw [if_pos hcr] at h
      obtain rfl := Option.some.inj h
      obtain ⟨hlen, hat⟩ := allO_some hr
      have hne : r ≠ [] := by
        intro e
        rw [e] at hlen
        have := cutT_len 59 t
        simp at hlen; rw [← hlen] at this; simp at this
      rw [fmt_some hcb hne]
      have : r.map stT = cutT 59 t := by
        apply List.ext_getElem
        · rw [List.length_map, hlen]
        · intro i h1 h2
          rw [List.getElem_map]
          exact (parS_raw (hat i h2 (by simpa using h1))).2.1
      rw [this, joinT_cut]
    · cases h
/-- The reference parses the same. -/
theorem sp_par (t : ByteArray) : spT t = parT t := by
  by_cases hd : bts t = [45]
  · unfold spT parT; rw [if_pos hd, if_pos hd]
  · have fwd : ∀ l, parT t = some l → spT t = some l := by
      intro l h
      have hc := par_cell h
      have hf := fmt_par h
      unfold parT at h
      rw [if_neg hd] at h
      split at h
      · next r hr =>
        have hcr : cellB r = true := by
          split at h
          · assumption
          · cases h
        rw [if_pos hcr] at h
        obtain rfl := Option.some.inj h
        obtain ⟨hlen, hat⟩ := allO_some hr
        have h8 := (cellB_iff.1 hc).1
        unfold spT
        rw [if_neg hd, List.take_of_length_le (by omega), allO_mk (r := r) hlen (fun i h1 h2 => (parS_raw (hat i h1 h2)).1)]
        simp only []
        rw [if_pos (by rw [hf])]
      · cases h
    have bwd : ∀ l, spT t = some l → parT t = some l := by
      intro l h
      unfold spT at h
      rw [if_neg hd] at h
      split at h
      · next r hr =>
        split at h
        · next hf =>
          obtain rfl := Option.some.inj h
          have hf := bts_inj hf
          by_cases hc : cellB r = true
          · rw [← hf]; exact par_fmt hc
          · have ht : t = ⟨#[]⟩ := by rw [← hf]; unfold fmtT; rw [if_neg hc]
            subst ht
            have : allO rawS ((cutT 59 ⟨#[]⟩).take 9) = none := by rfl
            rw [this] at hr; cases hr
        · cases h
      · cases h
    cases hp : parT t with
    | some l => exact fwd l hp
    | none =>
      cases hs : spT t with
      | none => rfl
      | some l => rw [bwd l hs] at hp; cases hp

end Go.Proofs.YtdedcablhahbnaaDoor
