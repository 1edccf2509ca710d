/- Plain laws of frames: where they are found, one behind the other, and with all bits changed. No program in sight. -/
import Derived.Test.YtadcckjlcmnhbaaKa
namespace Go.Proofs.Ytadcckjlcmnhbaa
open Go.RowKit

theorem drop_part {X L : List UInt8} {a m i j : Nat} (h : X = (L.drop a).take m) (hm : i + j ≤ m) : (L.drop (a + i)).take j = (X.drop i).take j := by
  rw [h, List.drop_take, List.take_take, List.drop_drop, Nat.min_eq_left (by omega)]
theorem frame_bin (p : ByteArray) : ((frameT p).data.toList.drop 8).take 7 = (binT p.size 7).data.toList := by
  rw [frame_list, List.drop_left' (show markT.data.toList.length = 8 from rfl)]
  unfold innerT
  rw [ap_list, List.append_assoc]
  exact List.take_left' (by rw [sz_list, binT_size])
theorem frame_pay (p : ByteArray) : ((frameT p).data.toList.drop 15).take p.size = p.data.toList := by
  rw [show 15 = 8 + 7 from rfl, ← List.drop_drop, frame_list, List.drop_left' (show markT.data.toList.length = 8 from rfl)]
  unfold innerT
  rw [ap_list, List.append_assoc, List.drop_left' (by rw [sz_list, binT_size])]
  exact List.take_left' (by rw [sz_list])
/-- Where a payload's frame stands, it is found. -/
theorem parse_frame {s p : ByteArray} {a : Nat} (hs : bitsB s = true) (hp : p.size ≤ 100) (hz : a + 23 + p.size ≤ s.size) (h : frameT p = s.extract a (a + 23 + p.size)) :
    parseR s a = some (p, a + 23 + p.size) := by
  have hX : (frameT p).data.toList = (s.data.toList.drop a).take (23 + p.size) := by
    have := congrArg (fun x : ByteArray => x.data.toList) h
    simp only [ex_list] at this
    rwa [show a + 23 + p.size - a = 23 + p.size by omega] at this
  have hN : numK (s.extract (a + 8) (a + 15)) 7 = p.size := by
    have e : s.extract (a + 8) (a + 15) = binT p.size 7 := by
      apply b_ext
      rw [ex_list, show a + 15 - (a + 8) = 7 by omega, drop_part hX (by omega), frame_bin]
    rw [e, numK_bin (by omega)]
  have hP : s.extract (a + 15) (a + 15 + p.size) = p := by
    apply b_ext
    rw [ex_list, show a + 15 + p.size - (a + 15) = p.size by omega, drop_part hX (by omega), frame_pay]
  rw [parse_yes hs (by omega), at_3 hN hp hz (by rw [hP]; exact h), hP]
theorem parse_is {s p : ByteArray} {a : Int} {n : Nat} (h : parseR s a = some (p, n)) :
    ∃ b : Nat, a = b ∧ n = b + 23 + p.size ∧ n ≤ s.size ∧ payB p = true ∧ frameT p = s.extract b n ∧ bitsB s = true := by
  unfold parseR at h
  by_cases h1 : bitsB s = true ∧ 0 ≤ a ∧ a.toNat + 23 ≤ s.size
  · rw [if_pos h1] at h
    obtain ⟨hb, ha, hz⟩ := h1
    obtain ⟨N, hN⟩ : ∃ N, numK (s.extract (a.toNat + 8) (a.toNat + 15)) 7 = N := ⟨_, rfl⟩
    unfold parseAt at h
    rw [hN] at h
    by_cases h2 : N ≤ 100 ∧ a.toNat + 23 + N ≤ s.size ∧ frameT (s.extract (a.toNat + 15) (a.toNat + 15 + N)) = s.extract a.toNat (a.toNat + 23 + N)
    · rw [if_pos h2] at h
      obtain ⟨e1, e2⟩ := Prod.mk.inj (Option.some.inj h)
      have hp : p.size = N := by rw [← e1, ex_size (by omega)]; omega
      refine ⟨a.toNat, by omega, by omega, by omega, ?_, ?_, hb⟩
      · unfold payB
        rw [decide_eq_true (by omega : p.size ≤ 100), ← e1, bits_mk (by rw [e1]; omega) (allS_ex _ _ (bits_all hb))]; rfl
      · rw [← e1, ← e2]; exact h2.2.2
    · rw [if_neg h2] at h; cases h
  · rw [if_neg h1] at h; cases h

def findF (s : ByteArray) : Nat → Nat → Int
  | 0, _ => -1
  | f + 1, a => if (parseR s a).isSome = true then (a : Int) else findF s f (a + 1)
/-- Where the next frame begins. -/
def findR (s : ByteArray) (a : Int) : Int := if bitsB s = true ∧ 0 ≤ a then findF s (s.size - a.toNat) a.toNat else -1
theorem findF_yes {s : ByteArray} {f a : Nat} (hf : 0 < f) (h : (parseR s a).isSome = true) : findF s f a = a := by
  obtain ⟨g, rfl⟩ : ∃ g, f = g + 1 := ⟨f - 1, by omega⟩
  rw [findF, if_pos h]
theorem findF_no {s : ByteArray} {f a : Nat} (hf : 0 < f) (h : (parseR s a).isSome = false) : findF s f a = findF s (f - 1) (a + 1) := by
  obtain ⟨g, rfl⟩ : ∃ g, f = g + 1 := ⟨f - 1, by omega⟩
  rw [findF, if_neg (by rw [h]; decide)]; rfl
theorem find_no1 {s : ByteArray} {a : Int} (h : bitsB s = false) : findR s a = -1 := by unfold findR; rw [if_neg (by rw [h]; simp)]
theorem find_no2 {s : ByteArray} {a : Int} (h : a < 0) : findR s a = -1 := by unfold findR; rw [if_neg (by omega)]
theorem find_yes {s : ByteArray} {a : Nat} (h : bitsB s = true) : findR s a = findF s (s.size - a) a := by unfold findR; rw [if_pos ⟨h, by omega⟩]; rfl
theorem findF_is {s : ByteArray} : ∀ f a : Nat, (findF s f a = -1 ∧ ∀ b, a ≤ b → b < a + f → (parseR s b).isSome = false) ∨ ∃ v : Nat, findF s f a = v ∧ a ≤ v ∧ v < a + f ∧ (parseR s v).isSome = true
  | 0, a => .inl ⟨rfl, fun b h1 h2 => by omega⟩
  | f + 1, a => by
    cases hp : (parseR s a).isSome with
    | true => exact .inr ⟨a, findF_yes (by omega) hp, Nat.le_refl _, by omega, hp⟩
    | false =>
      rw [findF_no (by omega) hp, Nat.add_sub_cancel]
      rcases findF_is f (a + 1) with ⟨h1, h2⟩ | ⟨v, h1, h2, h3, h4⟩
      · refine .inl ⟨h1, fun b h3 h4 => ?_⟩
        by_cases hb : b = a
        · rw [hb]; exact hp
        · exact h2 b (by omega) (by omega)
      · exact .inr ⟨v, h1, by omega, by omega, h4⟩
theorem find_is {s : ByteArray} {a : Int} : findR s a = -1 ∨ ∃ v : Nat, ∃ p, ∃ n, findR s a = v ∧ 0 ≤ a ∧ a ≤ v ∧ v < s.size ∧ parseR s v = some (p, n) ∧ n = v + 23 + p.size ∧ n ≤ s.size ∧ payB p = true := by
  by_cases h : bitsB s = true ∧ 0 ≤ a
  · obtain ⟨b, rfl⟩ := Int.eq_ofNat_of_zero_le h.2
    rw [find_yes h.1]
    rcases findF_is (s := s) (s.size - b) b with ⟨h1, _⟩ | ⟨v, h1, h2, h3, h4⟩
    · exact .inl h1
    · cases hq : parseR s v with
      | none => rw [hq] at h4; cases h4
      | some q =>
        obtain ⟨p, n⟩ := q
        obtain ⟨c, e1, e2, e3, e4, _⟩ := parse_is hq
        obtain rfl : v = c := by omega
        exact .inr ⟨v, p, n, h1, by omega, by omega, by omega, hq, e2, e3, e4⟩
  · unfold findR; rw [if_neg h]; exact .inl rfl
theorem find_here {s p : ByteArray} {a n : Nat} (h : parseR s a = some (p, n)) : findR s a = a := by
  obtain ⟨b, e1, e2, e3, _, _, hb⟩ := parse_is h
  obtain rfl : a = b := by omega
  rw [find_yes hb]
  exact findF_yes (by omega) (by rw [h]; rfl)
theorem find_end {s : ByteArray} {a : Nat} (h : s.size ≤ a) : findR s a = -1 := by
  by_cases hb : bitsB s = true
  · rw [find_yes hb, show s.size - a = 0 by omega]; rfl
  · exact find_no1 (by simpa using hb)

def allL (s : ByteArray) : Nat → Nat → List ByteArray
  | 0, _ => []
  | f + 1, a => if findR s a < 0 then [] else match parseR s (findR s a) with
    | some (p, n) => p :: allL s f n
    | none => []
/-- The payloads of all frames. -/
def allR (s : ByteArray) : List ByteArray := allL s (s.size + 1) 0
theorem allL_stop {s : ByteArray} {a : Nat} (h : findR s a < 0) (f : Nat) : allL s f a = [] := by
  cases f with
  | zero => rfl
  | succ f => rw [allL, if_pos h]
theorem allL_step {s p : ByteArray} {f a v n : Nat} (hf : 0 < f) (h : findR s a = v) (h2 : parseR s v = some (p, n)) : allL s f a = p :: allL s (f - 1) n := by
  obtain ⟨g, rfl⟩ : ∃ g, f = g + 1 := ⟨f - 1, by omega⟩
  rw [allL, if_neg (by omega), h, h2]; rfl
/-- Two frames side by side. -/
theorem all_two {g f : ByteArray} (hg : payB g = true) (hf : payB f = true) (hz : 46 + g.size + f.size ≤ 600) : allR (frameT g ++ frameT f) = [g, f] := by
  have hg1 : g.size ≤ 100 := by unfold payB at hg; rw [Bool.and_eq_true, decide_eq_true_eq] at hg; exact hg.1
  have hf1 : f.size ≤ 100 := by unfold payB at hf; rw [Bool.and_eq_true, decide_eq_true_eq] at hf; exact hf.1
  have hs : (frameT g ++ frameT f).size = 46 + g.size + f.size := by rw [ap_size, frame_size, frame_size]; omega
  have hb : bitsB (frameT g ++ frameT f) = true := bits_mk (by omega) (by rw [allS_ap, frame_bits hg, frame_bits hf]; rfl)
  have h1 : parseR (frameT g ++ frameT f) (0 : Nat) = some (g, 23 + g.size) := by
    have := parse_frame (s := frameT g ++ frameT f) (p := g) (a := 0) hb hg1 (by omega) (by
      apply b_ext
      rw [ex_list, ap_list, List.drop_zero]
      exact (List.take_left' (by rw [sz_list, frame_size]; omega)).symm)
    rw [this, Nat.zero_add]
  have h2 : parseR (frameT g ++ frameT f) ((23 + g.size : Nat) : Int) = some (f, 46 + g.size + f.size) := by
    have := parse_frame (s := frameT g ++ frameT f) (p := f) (a := 23 + g.size) hb hf1 (by omega) (by
      apply b_ext
      rw [ex_list, ap_list, List.drop_left' (by rw [sz_list, frame_size])]
      rw [List.take_of_length_le (by rw [sz_list, frame_size]; omega)])
    rw [this]; congr 2; omega
  unfold allR
  rw [hs, allL_step (by omega) (find_here h1) h1, allL_step (by omega) (find_here h2) h2, allL_stop (by rw [find_end (by omega)]; omega)]

theorem codes_bits {s : ByteArray} (h : allS bitC s = true) : ∀ x ∈ codes s, isBit x := by
  intro x hx
  unfold codes at hx
  obtain ⟨c, hc, rfl⟩ := List.mem_map.1 hx
  unfold allS at h
  have := List.all_eq_true.1 h c hc
  unfold bitC at this
  simp at this
  exact this
theorem inv_size (s : ByteArray) : (invT s).size = s.size := by unfold invT; rw [text_size, invL_len, codes_length]
theorem codes_inv {s : ByteArray} (h : allS bitC s = true) : codes (invT s) = invL (codes s) := by
  unfold invT
  exact codes_text (fun x hx => by
    unfold invL at hx
    obtain ⟨y, hy, rfl⟩ := List.mem_map.1 hx
    rcases codes_bits h y hy with rfl | rfl
    · exact .inr rfl
    · exact .inl rfl)
theorem inv_inv {s : ByteArray} (h : allS bitC s = true) : invT (invT s) = s := by
  have e : invL (invL (codes s)) = codes s := by
    unfold invL
    rw [List.map_map]
    conv => rhs; rw [← List.map_id (codes s)]
    apply List.map_congr_left
    intro x _
    simp only [Function.comp, id]; omega
  show text (invL (codes (invT s))) = s
  rw [codes_inv h, e, text_codes]
theorem inv_all {s : ByteArray} (h : allS bitC s = true) : allS bitC (invT s) = true := by
  unfold allS
  rw [List.all_eq_true]
  intro c hc
  have h2 : (c.toNat : Int) ∈ codes (invT s) := List.mem_map.2 ⟨c, hc, rfl⟩
  rw [codes_inv h] at h2
  unfold invL at h2
  obtain ⟨y, hy, e⟩ := List.mem_map.1 h2
  have := codes_bits h y hy
  unfold isBit at this
  unfold bitC
  simp
  omega
theorem inv_bits {s : ByteArray} (h : bitsB s = true) : bitsB (invT s) = true := bits_mk (by rw [inv_size]; exact bits_le h) (inv_all (bits_all h))
/-- Bits, or all of them changed, with a frame. -/
def polR (s : ByteArray) : Option ByteArray := if bitsB s = true then if 0 ≤ findR s 0 then some s else if 0 ≤ findR (invT s) 0 then some (invT s) else none else none
theorem pol_no {s : ByteArray} (h : bitsB s = false) : polR s = none := by unfold polR; rw [if_neg (by rw [h]; decide)]
theorem pol_1 {s : ByteArray} (h : bitsB s = true) (h1 : 0 ≤ findR s 0) : polR s = some s := by unfold polR; rw [if_pos h, if_pos h1]
theorem pol_2 {s : ByteArray} (h : bitsB s = true) (h1 : ¬ 0 ≤ findR s 0) (h2 : 0 ≤ findR (invT s) 0) : polR s = some (invT s) := by unfold polR; rw [if_pos h, if_neg h1, if_pos h2]
theorem pol_3 {s : ByteArray} (h : bitsB s = true) (h1 : ¬ 0 ≤ findR s 0) (h2 : ¬ 0 ≤ findR (invT s) 0) : polR s = none := by unfold polR; rw [if_pos h, if_neg h1, if_neg h2]

end Go.Proofs.Ytadcckjlcmnhbaa
