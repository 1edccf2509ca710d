/- Plain laws of frames: check bits, binary digits, what parsing finds. No program in sight. -/
import Derived.Test.YtdedcablhahbnaaDoorTd
import Derived.Lib.Strings
namespace Go.Proofs.YtdedcablhahbnaaDoor
open Go.RowKit

theorem b_ext {a b : ByteArray} (h : a.data.toList = b.data.toList) : a = b := by
  cases a; cases b; congr; exact Array.ext' h
theorem ex_list (s : ByteArray) (a b : Nat) : (s.extract a b).data.toList = (s.data.toList.drop a).take (b - a) := by
  rw [ByteArray.data_extract, Array.toList_extract]
theorem ap_list (s t : ByteArray) : (s ++ t).data.toList = s.data.toList ++ t.data.toList := by rw [ByteArray.data_append, Array.toList_append]
theorem sz_list (s : ByteArray) : s.data.toList.length = s.size := by simp
theorem ap_size (s t : ByteArray) : (s ++ t).size = s.size + t.size := by rw [← sz_list, ap_list, List.length_append, sz_list, sz_list]
theorem ex_size {s : ByteArray} {a b : Nat} (h : b ≤ s.size) : (s.extract a b).size = b - a := by
  rw [← sz_list, ex_list, List.length_take, List.length_drop, sz_list]; omega
theorem allS_ap (p : UInt8 → Bool) (s t : ByteArray) : allS p (s ++ t) = (allS p s && allS p t) := by
  unfold allS; rw [ap_list, List.all_append]
theorem allS_ex {p : UInt8 → Bool} {s : ByteArray} (a b : Nat) (h : allS p s = true) : allS p (s.extract a b) = true := by
  unfold allS at *
  rw [ex_list, List.all_eq_true]
  rw [List.all_eq_true] at h
  exact fun x hx => h x (List.mem_of_mem_drop (List.mem_of_mem_take hx))
theorem bits_all {s : ByteArray} (h : bitsB s = true) : allS bitC s = true := by unfold bitsB at h; rw [Bool.and_eq_true] at h; exact h.2
theorem bits_le {s : ByteArray} (h : bitsB s = true) : s.size ≤ 600 := by unfold bitsB at h; rw [Bool.and_eq_true] at h; exact of_decide_eq_true h.1
theorem bits_mk {s : ByteArray} (h1 : s.size ≤ 600) (h2 : allS bitC s = true) : bitsB s = true := by unfold bitsB; rw [h2, decide_eq_true h1]; rfl
theorem bit_at {s : ByteArray} {i : Nat} (h : allS bitC s = true) (hi : i < s.size) : s[i].toNat = 48 ∨ s[i].toNat = 49 := by
  have h2 : bitC s[i] = true := by
    cases hb : bitC s[i] with
    | true => rfl
    | false => rw [allS_false hi hb] at h; cases h
  unfold bitC at h2
  simp at h2
  omega

def dig (c : UInt8) : Nat := c.toNat - 48
/-- One step of the check bits. -/
def crcStep (x : Nat) (c : UInt8) : Nat := if dig c ^^^ (x / 128) = 1 then (x * 2 % 256) ^^^ 7 else x * 2 % 256
def crcK (s : ByteArray) (k : Nat) : Nat := (s.data.toList.take k).foldl crcStep 0
theorem crcK_zero (s : ByteArray) : crcK s 0 = 0 := rfl
theorem crcK_succ {s : ByteArray} {k : Nat} (h : k < s.size) : crcK s (k + 1) = crcStep (crcK s k) s[k] := by
  unfold crcK; rw [take_snocS s k h, List.foldl_append]; rfl
theorem crcStep_lt (x : Nat) (c : UInt8) : crcStep x c < 256 := by
  unfold crcStep
  split
  · exact Nat.xor_lt_two_pow (n := 8) (by omega) (by omega)
  · omega
theorem crcK_lt (s : ByteArray) : ∀ k, k ≤ s.size → crcK s k < 256
  | 0, _ => by rw [crcK_zero]; omega
  | k + 1, h => by rw [crcK_succ (show k < s.size by omega)]; exact crcStep_lt _ _
def crcN (s : ByteArray) : Nat := crcK s s.size
theorem crcN_lt (s : ByteArray) : crcN s < 256 := crcK_lt s _ (Nat.le_refl _)
theorem crc_keep {x : Nat} {c : UInt8} (h : dig c = x / 128) : crcStep x c = x * 2 % 256 := by
  unfold crcStep; rw [h, Nat.xor_self]; rfl
theorem crc_turn {x : Nat} {c : UInt8} (hx : x < 256) (hc : dig c ≤ 1) (h : ¬ dig c = x / 128) : crcStep x c = (x * 2 % 256) ^^^ 7 := by
  unfold crcStep
  have h2 : (dig c = 0 ∧ x / 128 = 1) ∨ (dig c = 1 ∧ x / 128 = 0) := by omega
  rcases h2 with ⟨e1, e2⟩ | ⟨e1, e2⟩ <;> rw [e1, e2] <;> rfl

/-- The last i of d binary digits of n. -/
def tailT (n d i : Nat) : ByteArray := text ((binL n d).drop (d - i))
theorem tail_zero (n d : Nat) : tailT n d 0 = ⟨#[]⟩ := by
  unfold tailT; rw [List.drop_of_length_le (by rw [binL_len]; omega)]; rfl
theorem tail_all (n d : Nat) : tailT n d d = binT n d := by unfold tailT binT; rw [Nat.sub_self, List.drop_zero]
theorem tail_succ {n d i : Nat} (h : i < d) : text [((48 + n / 2 ^ i % 2 : Nat) : Int)] ++ tailT n d i = tailT n d (i + 1) := by
  unfold tailT
  rw [text_add]
  congr 1
  have hl : d - (i + 1) < (binL n d).length := by rw [binL_len]; omega
  rw [List.drop_eq_getElem_cons hl, binL_get, show d - (i + 1) + 1 = d - i by omega]
  unfold bitN
  rw [show d - 1 - (d - (i + 1)) = i by omega]; rfl
theorem tail_size (n d i : Nat) (h : i ≤ d) : (tailT n d i).size = i := by
  unfold tailT; rw [text_size, List.length_drop, binL_len]; omega
theorem binT_bits (n d : Nat) : allS bitC (binT n d) = true := by
  unfold allS binT text binL
  rw [List.all_eq_true]
  intro x hx
  simp only [List.mem_map] at hx
  obtain ⟨y, ⟨i, _, rfl⟩, rfl⟩ := hx
  have := bitN_le n d i
  have h2 : bitN n d i = 0 ∨ bitN n d i = 1 := by omega
  rcases h2 with e | e <;> rw [e] <;> rfl

def markT : ByteArray := ⟨#[49, 49, 49, 48, 49, 48, 48, 48]⟩
def innerT (p : ByteArray) : ByteArray := binT p.size 7 ++ p
def frameT (p : ByteArray) : ByteArray := markT ++ innerT p ++ binT (crcN (innerT p)) 8
def payB (p : ByteArray) : Bool := decide (p.size ≤ 100) && bitsB p
theorem inner_size (p : ByteArray) : (innerT p).size = 7 + p.size := by unfold innerT; rw [ap_size, binT_size]
theorem frame_size (p : ByteArray) : (frameT p).size = 23 + p.size := by
  unfold frameT; rw [ap_size, ap_size, inner_size, binT_size, show markT.size = 8 from rfl]; omega
theorem inner_bits {p : ByteArray} (h : payB p = true) : bitsB (innerT p) = true := by
  unfold payB at h; rw [Bool.and_eq_true, decide_eq_true_eq] at h
  refine bits_mk (by rw [inner_size]; omega) ?_
  unfold innerT; rw [allS_ap, binT_bits, bits_all h.2]; rfl
theorem frame_bits {p : ByteArray} (h : payB p = true) : allS bitC (frameT p) = true := by
  unfold frameT
  rw [allS_ap, allS_ap, bits_all (inner_bits h), binT_bits]; rfl
theorem frame_list (p : ByteArray) : (frameT p).data.toList = markT.data.toList ++ ((innerT p).data.toList ++ (binT (crcN (innerT p)) 8).data.toList) := by
  unfold frameT; rw [ap_list, ap_list, List.append_assoc]

/-- The number with the first k binary digits. -/
def numK (s : ByteArray) (k : Nat) : Nat := (s.data.toList.take k).foldl (fun n c => 2 * n + dig c) 0
theorem numK_succ {s : ByteArray} {k : Nat} (h : k < s.size) : numK s (k + 1) = 2 * numK s k + dig s[k] := by
  unfold numK; rw [take_snocS s k h, List.foldl_append]; rfl
theorem numK_lt {s : ByteArray} (h : allS bitC s = true) : ∀ k, k ≤ s.size → numK s k < 2 ^ k
  | 0, _ => by unfold numK; simp
  | k + 1, hk => by
    have hk2 : k < s.size := by omega
    rw [numK_succ hk2, Nat.pow_succ]
    have := numK_lt h k (by omega)
    have := bit_at h hk2
    unfold dig; omega
theorem numK_bin {n : Nat} (hn : n < 128) : numK (binT n 7) 7 = n := by
  have : ∀ n : Fin 128, numK (binT n.val 7) 7 = n.val := by decide +kernel
  exact this ⟨n, hn⟩

def parseAt (s : ByteArray) (a : Nat) : Option (ByteArray × Nat) :=
  if numK (s.extract (a + 8) (a + 15)) 7 ≤ 100 ∧ a + 23 + numK (s.extract (a + 8) (a + 15)) 7 ≤ s.size ∧
      frameT (s.extract (a + 15) (a + 15 + numK (s.extract (a + 8) (a + 15)) 7)) = s.extract a (a + 23 + numK (s.extract (a + 8) (a + 15)) 7) then
    some (s.extract (a + 15) (a + 15 + numK (s.extract (a + 8) (a + 15)) 7), a + 23 + numK (s.extract (a + 8) (a + 15)) 7) else none
/-- What ParseFrame finds at a. -/
def parseR (s : ByteArray) (a : Int) : Option (ByteArray × Nat) := if bitsB s = true ∧ 0 ≤ a ∧ a.toNat + 23 ≤ s.size then parseAt s a.toNat else none
theorem parse_no {s : ByteArray} {a : Int} (h : ¬ (bitsB s = true ∧ 0 ≤ a ∧ a.toNat + 23 ≤ s.size)) : parseR s a = none := by unfold parseR; rw [if_neg h]
theorem parse_yes {s : ByteArray} {a : Nat} (h : bitsB s = true) (h2 : a + 23 ≤ s.size) : parseR s a = parseAt s a := by
  unfold parseR; rw [if_pos ⟨h, by omega, by simpa using h2⟩]; rfl
theorem at_1 {s : ByteArray} {a N : Nat} (hN : numK (s.extract (a + 8) (a + 15)) 7 = N) (h : ¬ (N ≤ 100 ∧ a + 23 + N ≤ s.size)) : parseAt s a = none := by
  unfold parseAt; rw [hN, if_neg (fun h2 => h ⟨h2.1, h2.2.1⟩)]
theorem at_2 {s : ByteArray} {a N : Nat} (hN : numK (s.extract (a + 8) (a + 15)) 7 = N) (h : ¬ frameT (s.extract (a + 15) (a + 15 + N)) = s.extract a (a + 23 + N)) : parseAt s a = none := by
  unfold parseAt; rw [hN, if_neg (fun h2 => h h2.2.2)]
theorem at_3 {s : ByteArray} {a N : Nat} (hN : numK (s.extract (a + 8) (a + 15)) 7 = N) (h1 : N ≤ 100) (h2 : a + 23 + N ≤ s.size) (h : frameT (s.extract (a + 15) (a + 15 + N)) = s.extract a (a + 23 + N)) :
    parseAt s a = some (s.extract (a + 15) (a + 15 + N), a + 23 + N) := by
  unfold parseAt; rw [hN, if_pos ⟨h1, h2, h⟩]
theorem pre_iff {F L : List UInt8} : Lib.hasPrefix L F = true ↔ F = L.take F.length := by
  unfold Lib.hasPrefix; rw [List.isPrefixOf_iff_prefix, List.prefix_iff_eq_take]
theorem ex_all (s : ByteArray) (a : Nat) : (s.extract a s.size).data.toList = s.data.toList.drop a := by
  rw [ex_list, List.take_of_length_le (by rw [List.length_drop, sz_list]; omega)]
/-- No marker: no frame. -/
theorem at_mark {s : ByteArray} {a : Nat} (h : Lib.hasPrefix (s.extract a s.size).data.toList markT.data.toList = false) : parseAt s a = none := by
  obtain ⟨N, hN⟩ : ∃ N, numK (s.extract (a + 8) (a + 15)) 7 = N := ⟨_, rfl⟩
  refine at_2 hN fun h2 => ?_
  have h3 : Lib.hasPrefix (s.extract a s.size).data.toList markT.data.toList = true := by
    unfold Lib.hasPrefix
    rw [List.isPrefixOf_iff_prefix, ex_all]
    have h4 : (frameT (s.extract (a + 15) (a + 15 + N))).data.toList = (s.data.toList.drop a).take (a + 23 + N - a) := by rw [h2, ex_list]
    rw [frame_list] at h4
    exact List.IsPrefix.trans ⟨_, h4⟩ (List.take_prefix _ _)
  rw [h] at h3; cases h3
theorem cut_rest {s : ByteArray} {a : Nat} (h : Lib.hasPrefix (s.extract a s.size).data.toList markT.data.toList = true) :
    (⟨(Lib.trimPrefix (s.extract a s.size).data.toList markT.data.toList).toArray⟩ : ByteArray) = s.extract (a + 8) s.size := by
  apply b_ext
  show Lib.trimPrefix _ _ = _
  unfold Lib.trimPrefix
  rw [if_pos h, ex_all, ex_all, List.drop_drop]
  rfl
theorem num_rest {s : ByteArray} {a : Nat} (_h : a + 15 ≤ s.size) : numK (s.extract (a + 8) s.size) 7 = numK (s.extract (a + 8) (a + 15)) 7 := by
  unfold numK; rw [ex_all, ex_list, show a + 15 - (a + 8) = 7 by omega, List.take_take]; rfl
theorem pay_rest {s : ByteArray} {a N : Nat} (_h : a + 15 + N ≤ s.size) : (s.extract (a + 8) s.size).extract 7 (7 + N) = s.extract (a + 15) (a + 15 + N) := by
  apply b_ext
  rw [ex_list, ex_all, ex_list, List.drop_drop, show a + 8 + 7 = a + 15 by omega, show 7 + N - 7 = a + 15 + N - (a + 15) by omega]
theorem pre_frame {s p : ByteArray} {a N : Nat} (hp : p.size = N) : Lib.hasPrefix (s.extract a s.size).data.toList (frameT p).data.toList = true ↔ (a + 23 + N ≤ s.size ∨ s.size < a) ∧ frameT p = s.extract a (a + 23 + N) := by
  have hl : (frameT p).data.toList.length = 23 + N := by rw [sz_list, frame_size, hp]
  rw [pre_iff, ex_all, hl]
  constructor
  · intro h
    refine ⟨?_, ?_⟩
    · have := congrArg List.length h
      rw [hl, List.length_take, List.length_drop, sz_list] at this
      omega
    · apply b_ext; rw [ex_list, show a + 23 + N - a = 23 + N by omega]; exact h
  · rintro ⟨_, h⟩
    have := congrArg (fun x : ByteArray => x.data.toList) h
    simp only [ex_list] at this
    rwa [show a + 23 + N - a = 23 + N by omega] at this

end Go.Proofs.YtdedcablhahbnaaDoor
