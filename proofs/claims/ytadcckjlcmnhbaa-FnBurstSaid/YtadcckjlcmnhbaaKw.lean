/- HammingDecode of the reference; syndromes of both. No condition beyond lengths. -/
import Derived.Test.YtadcckjlcmnhbaaKf
import Derived.Test.YtadcckjlcmnhbaaKt
namespace Go.Proofs.Ytadcckjlcmnhbaa
open Go.RowKit

/-- The syndrome of the first k bits. -/
def synK (s : ByteArray) : Nat → Nat
  | 0 => 0
  | k + 1 => if (codes s).getD k 0 = 49 then synK s k ^^^ (k + 1) else synK s k
theorem synK_lt (s : ByteArray) : ∀ k, k ≤ 7 → synK s k < 8
  | 0, _ => by unfold synK; omega
  | k + 1, h => by
    have ih := synK_lt s k (by omega)
    unfold synK
    split
    · exact Nat.xor_lt_two_pow (n := 3) ih (by omega)
    · exact ih
theorem synK_yes {s : ByteArray} {k : Nat} (h : k < s.size) (h1 : s[k].toNat = 49) : synK s (k + 1) = synK s k ^^^ (k + 1) := by
  rw [synK, codes_v h, if_pos (by omega)]
theorem synK_no {s : ByteArray} {k : Nat} (h : k < s.size) (h1 : ¬ s[k].toNat = 49) : synK s (k + 1) = synK s k := by
  rw [synK, codes_v h, if_neg (by omega)]
/-- A block with its wrong bit changed. -/
def fixB (X : ByteArray) : ByteArray := if 0 < synK X 7 then flipT X (synK X 7 - 1) else X
def decB (X : ByteArray) : ByteArray := (fixB X).extract 2 3 ++ (fixB X).extract 4 7
def decT (s : ByteArray) : Nat → ByteArray
  | 0 => ⟨#[]⟩
  | k + 1 => decT s k ++ decB (s.extract (k * 7) (k * 7 + 7))
def decN (s : ByteArray) : Nat → Nat
  | 0 => 0
  | k + 1 => if 0 < synK (s.extract (k * 7) (k * 7 + 7)) 7 then decN s k + 1 else decN s k
def hamR (s : ByteArray) : Option (ByteArray × Nat) := if (bitsB s && (s.size % 7 == 0)) = true then some (decT s (s.size / 7), decN s (s.size / 7)) else none
theorem hamR_no1 {s : ByteArray} (h : bitsB s = false) : hamR s = none := by unfold hamR; rw [h]; rfl
theorem hamR_no2 {s : ByteArray} (h : ¬ s.size % 7 = 0) : hamR s = none := by
  unfold hamR; rw [show (s.size % 7 == 0) = false by rw [beq_eq_false_iff_ne]; exact h, Bool.and_false]; rfl
theorem hamR_yes {s : ByteArray} (h1 : bitsB s = true) (h2 : s.size % 7 = 0) : hamR s = some (decT s (s.size / 7), decN s (s.size / 7)) := by
  unfold hamR; rw [h1, show (s.size % 7 == 0) = true by rw [beq_iff_eq]; exact h2]; rfl
theorem fix_size {X : ByteArray} (h : X.size = 7) : (fixB X).size = 7 := by
  unfold fixB
  have := synK_lt X 7 (Nat.le_refl _)
  split
  · rw [flip_size (by omega), h]
  · exact h
theorem dec_size {X : ByteArray} (h : X.size = 7) : (decB X).size = 4 := by
  unfold decB; rw [ap_size, ex_size (by rw [fix_size h]; omega), ex_size (by rw [fix_size h]; omega)]
theorem decN_le (s : ByteArray) : ∀ k, decN s k ≤ k
  | 0 => Nat.le_refl _
  | k + 1 => by
    have := decN_le s k
    unfold decN; split <;> omega
theorem decT_size {s : ByteArray} : ∀ k, k * 7 ≤ s.size → (decT s k).size = 4 * k
  | 0, _ => rfl
  | k + 1, h => by
    have ih := decT_size (s := s) k (by omega)
    rw [decT, ap_size, ih, dec_size (by rw [ex_size (by omega)]; omega)]; omega

set_option maxHeartbeats 800000 in
theorem syndromeOf_c (s : ByteArray) (w : World) (hz : s.size ≤ 7) : Calls Try.prog 111 #[.string s] w fun e w' => e = .returned (.int .i64 (synK s s.size : Nat)) ∧ w = w' := by
  go_enter Try.func111, Try.ntmps111
  go_wp2_with fail
  go_loop [3, 7] (fun n i => ∃ k : Nat, k ≤ s.size ∧ i = .int .i64 k ∧ n = .int .i64 (synK s k : Nat)) (fun _ i => s.size - (intOf i).toNat)
  case atStart => exact ⟨0, Nat.zero_le _, rfl, rfl⟩
  case round =>
    obtain ⟨k, hk, rfl, rfl⟩ := hrel
    have hlt8 := synK_lt s k (by omega)
    by_cases hlt : k < s.size
    · by_cases h1 : s[k].toNat = 49
      · have HS := Lib.hid (synK_yes hlt h1)
        have hv : ((s[k].toNat : Int) == 49) = true := by rw [beq_iff_eq]; omega
        generalize synK s k = n at *
        have HX := Lib.hid (show bits .xor .i64 (n : Int) ((k : Int) + 1) = ((n ^^^ (k + 1) : Nat) : Int) from i64_xor n (k + 1) (by omega) (by omega))
        clear h1
        go_wp2_with fail
        go_round
        case rel => exact ⟨k + 1, by omega, by go_num, by rw [HX.out, HS.out]⟩
        case measure => simp [intOf]; omega
      · have HS := Lib.hid (synK_no hlt h1)
        have hv : ((s[k].toNat : Int) == 49) = false := by rw [beq_eq_false_iff_ne]; omega
        generalize synK s k = n at *
        clear h1
        go_wp2_with fail
        go_round
        case rel => exact ⟨k + 1, by omega, by go_num, by rw [HS.out]⟩
        case measure => simp [intOf]; omega
    · obtain rfl : k = s.size := by omega
      go_wp2_with fail
      go_ret
      exact ⟨rfl, rfl⟩


theorem dec_step (s : ByteArray) (k : Nat) {Y : ByteArray} (hY : Y = fixB (s.extract (k * 7) (k * 7 + 7))) (hz : Y.size = 7) : decT s k ++ Y.extract 2 3 ++ Y.extract 4 Y.size = decT s (k + 1) := by
  rw [hz, decT]
  unfold decB
  rw [← hY]
  apply b_ext
  simp only [ap_list, List.append_assoc]


theorem codes_ap (a b : ByteArray) : codes (a ++ b) = codes a ++ codes b := by unfold codes; rw [ap_list, List.map_append]
theorem codes_ex (s : ByteArray) (a b : Nat) : codes (s.extract a b) = ((codes s).drop a).take (b - a) := by unfold codes; rw [ex_list, List.map_take, List.map_drop]
/-- The block with bit q changed. -/
theorem codes_flip {X : ByteArray} {q : Nat} (hq : q < X.size) (hb : allS bitC X = true) : codes (flipT X q) = (codes X).set q (97 - (codes X)[q]'(by rw [codes_length]; exact hq)) := by
  have hl : q < (codes X).length := by rw [codes_length]; exact hq
  unfold flipT
  rw [codes_ap, codes_ap, codes_inv (allS_ex q (q + 1) hb), codes_ex, codes_ex, codes_ex, List.set_eq_take_append_cons_drop, if_pos hl]
  rw [List.drop_zero, Nat.sub_zero, Nat.add_sub_cancel_left, List.drop_eq_getElem_cons hl]
  rw [List.take_of_length_le (l := (codes X).drop (q + 1)) (by rw [List.length_drop, codes_length]; exact Nat.le_refl _)]
  simp [invL]
  have hl2 : q < ((codes X).map fun x => 97 - x).length := by rw [List.length_map]; exact hl
  rw [List.drop_eq_getElem_cons hl2, List.getElem_map]; rfl
/-- The four data bits of a block. -/
theorem codes_dec {Y : ByteArray} (hz : Y.size = 7) (h2 : 2 < (codes Y).length) (h4 : 4 < (codes Y).length) (h5 : 5 < (codes Y).length) (h6 : 6 < (codes Y).length) :
    codes (Y.extract 2 3 ++ Y.extract 4 7) = [(codes Y)[2], (codes Y)[4], (codes Y)[5], (codes Y)[6]] := by
  have hl : (codes Y).length = 7 := by rw [codes_length]; exact hz
  rw [codes_ap, codes_ex, codes_ex]
  generalize codes Y = L at *
  match L, hl with
  | [a, b, c, d, e, f, g], _ => rfl

end Go.Proofs.Ytadcckjlcmnhbaa
