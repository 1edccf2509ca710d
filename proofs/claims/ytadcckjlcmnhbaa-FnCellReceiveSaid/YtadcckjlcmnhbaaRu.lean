/- Reception (ReceiveUser): signs of sums. No condition beyond lengths. -/
import Derived.Test.YtadcckjlcmnhbaaTd
namespace Go.Proofs.Ytadcckjlcmnhbaa
open Go.RowKit

def signC (x : Int) : Int := if x < 0 then 49 else 48
def signL (l : List Int) : List Int := l.map signC
theorem signL_len (l : List Int) : (signL l).length = l.length := by simp [signL]
theorem signL_get {l : List Int} {i : Nat} (h : i < (signL l).length) : (signL l)[i] = signC (l[i]'(by simpa [signL] using h)) := by simp [signL]

set_option maxHeartbeats 400000 in
theorem signOf_c (x : Int) (w : World) : Calls Try.prog 127 #[.int .i64 x] w fun e w' => e = .returned (.int .u8 (signC x)) ∧ w = w' := by
  by_cases h : x < 0
  · have hr := Lib.hid (show signC x = 49 by unfold signC; rw [if_pos h])
    go_enter Try.func127, Try.ntmps127
    go_wp2
    go_ret
    exact ⟨congrArg (fun v => Ending.returned (.int .u8 v)) hr.out.symm, rfl⟩
  · have hr := Lib.hid (show signC x = 48 by unfold signC; rw [if_neg h])
    go_enter Try.func127, Try.ntmps127
    go_wp2
    go_ret
    exact ⟨congrArg (fun v => Ending.returned (.int .u8 v)) hr.out.symm, rfl⟩

set_option maxHeartbeats 800000 in
theorem signsOfSums_c {ao : Option Addr} {n c : Nat} {l : List Int} {w : World} (h : Rd w ao n l) (hn : n ≤ 1000000) :
    Calls Try.prog 81 #[.slice ao n c] w fun e w' => e = .returned (.string (text (signL l))) ∧ Below w.heap.size w w' := by
  have HL := Lib.hid (show (signL l).length = n by rw [signL_len, h.1])
  have HN := Lib.hid h.1
  go_enter Try.func81, Try.ntmps81
  go_wp2_with (at_make; refine wp_makeF 22 5 1 (0 : Int) Try.underlying22 info_u8 rfl (by decide) w rfl _ _ rfl .i64 .i64 n rfl rfl (by omega) ?_; intro w1 hown hb)
  have hF := FillF.start hown HL.out (by simp)
  clear hown
  go_loopw [11] (fun i wr => ∃ k : Nat, k ≤ n ∧ i = .int .i64 k ∧ FillB wr w.heap.size w.heap.size n (signL l) (List.replicate n 0) k ∧ Below w.heap.size w wr) (fun i _ => n - (intOf i).toNat)
  case atStart => exact ⟨0, Nat.zero_le _, rfl, hF, hb⟩
  case round =>
    clear hF hb
    obtain ⟨k, hk, rfl, hF, hb⟩ := hrel
    by_cases hlt : k < n
    · obtain ⟨bk, off, rfl, hl, hcl⟩ := (h.below hb).at hlt
      obtain ⟨z, hc⟩ := hF.cell hlt
      have hf := hF.free k
      have hst := hF.step hlt (y := .int .u8 (signC l[k])) (fun hl2 => by rw [signL_get hl2])
      have hb2 := hF.below hb (.int .u8 (signC l[k]))
      clear hF hb
      go_wp2_with fail
      refine (signOf_c _ _).mono ?_; rintro e w' ⟨rfl, rfl⟩
      go_wp2_with fail
      go_roundw
      case rel => exact ⟨k + 1, by omega, by go_num, hst, hb2⟩
      case measure => simp [intOf]; omega
    · obtain rfl : k = n := by omega
      obtain ⟨a1, n1, c1, e1, ho⟩ := (hF.done (Nat.le_refl _)).own (by rw [HL.out]; omega)
      cases e1
      have hrd := ho.rd
      go_wp2_with (with_reducible refine wp_text 22 5 9 Try.underlying22 Try.underlying5 Try.underlying9 _ rfl (.tmp 22) rfl rfl hrd ?_)
      go_ret
      exact ⟨rfl, hb⟩

set_option maxHeartbeats 800000 in
theorem l4Signs_c {ao : Option Addr} {n c : Nat} {l : List Int} {w : World} (h : Rd w ao n l) (hn : n ≤ 1000000) :
    Calls Try.prog 115 #[.slice ao n c] w fun e w' => e = .returned (.string (text (signL l))) ∧ Below w.heap.size w w' := by
  have HL := Lib.hid (show (signL l).length = n by rw [signL_len, h.1])
  have HN := Lib.hid h.1
  go_enter Try.func115, Try.ntmps115
  go_wp2_with (at_make; refine wp_makeF 22 5 1 (0 : Int) Try.underlying22 info_u8 rfl (by decide) w rfl _ _ rfl .i64 .i64 n rfl rfl (by omega) ?_; intro w1 hown hb)
  have hrow : RowB w1 w.heap.size w.heap.size (List.replicate n 0) := by
    refine RowF.of (n := n) (c := n) ?_
    show w1.ownsRow _ _ _ _ (List.replicate n (0 : Int)).length _
    rw [List.length_replicate]; exact hown
  clear hown
  go_loopw [4] (fun i wr => ∃ k : Nat, k ≤ n ∧ i = .int .i64 k ∧ RowB wr w.heap.size w.heap.size ((signL l).take k ++ (List.replicate n 0).drop k) ∧ Below w.heap.size w wr) (fun i _ => n - (intOf i).toNat)
  case atStart => exact ⟨0, Nat.zero_le _, rfl, by simpa using hrow, hb⟩
  case round =>
    clear hrow hb
    obtain ⟨k, hk, rfl, hrow, hb⟩ := hrel
    by_cases hlt : k < n
    · obtain ⟨bk, off, rfl, hl, hcl⟩ := (h.below hb).at hlt
      have hlo := (h.lt ⟨bk, off, none⟩ rfl (by omega))
      have hkM : k < ((signL l).take k ++ (List.replicate n 0).drop k).length := by rw [List.length_append, List.length_take, List.length_drop, List.length_replicate, HL.out]; omega
      have hLk : k < (signL l).length := by rw [HL.out]; exact hlt
      have HNX := Lib.hid (take_set_gen hLk (show (List.replicate n (0 : Int)).length = (signL l).length by rw [HL.out]; simp))
      have HG := Lib.hid (signL_get hLk)
      have hc := hrow.cell hkM
      have hf := hrow.free hkM
      have hrow2 := hrow.set (i := k) 48
      have hb2 := hrow.belowSet hb k (.int .u8 48)
      obtain ⟨b9, o9, he9, hl9, hcl2⟩ := (h.below hb2).at hlt
      cases he9
      have hlen2 : k < (((signL l).take k ++ (List.replicate n 0).drop k).set k 48).length := by rw [List.length_set]; exact hkM
      have hc2 := hrow2.cell hlen2
      have hf2 := hrow2.free hlen2
      have hrow3 := hrow2.set (i := k) 49
      have hb3 := hrow2.belowSet hb2 k (.int .u8 49)
      rw [List.set_set] at hrow3
      clear hrow hb hcl
      by_cases hneg : l[k] < 0
      · have HS := Lib.hid (show (49 : Int) = (signL l)[k] by rw [HG.out]; unfold signC; rw [if_pos hneg])
        have e : ((signL l).take k ++ (List.replicate n 0).drop k).set k 49 = (signL l).take (k + 1) ++ (List.replicate n 0).drop (k + 1) := by rw [HS.out]; exact HNX.out
        rw [e] at hrow3
        clear e
        go_wp2_with fail
        go_roundw
        case rel => exact ⟨k + 1, by omega, by go_num, hrow3, hb3⟩
        case measure => simp [intOf]; omega
      · have HS := Lib.hid (show (48 : Int) = (signL l)[k] by rw [HG.out]; unfold signC; rw [if_neg hneg])
        have e : ((signL l).take k ++ (List.replicate n 0).drop k).set k 48 = (signL l).take (k + 1) ++ (List.replicate n 0).drop (k + 1) := by rw [HS.out]; exact HNX.out
        rw [e] at hrow2
        clear e
        go_wp2_with fail
        go_roundw
        case rel => exact ⟨k + 1, by omega, by go_num, hrow2, hb2⟩
        case measure => simp [intOf]; omega
    · obtain rfl : k = n := by omega
      rw [List.take_of_length_le (by rw [HL.out]; exact Nat.le_refl _), List.drop_of_length_le (by simp), List.append_nil] at hrow
      have hrd := hrow.rd (n := k) HL.out.symm (by omega)
      go_wp2_with (with_reducible refine wp_text 22 5 9 Try.underlying22 Try.underlying5 Try.underlying9 _ rfl (.tmp 25) rfl rfl hrd ?_)
      go_ret
      exact ⟨rfl, hb⟩

/-- Whether a text is a sequence. -/
def seqB (s : ByteArray) : Bool := bitsB s && inB (s.size : Int) 1 255

set_option maxHeartbeats 800000 in
theorem SequenceValid_c (s : ByteArray) (w : World) : Calls Try.prog 82 #[.string s] w fun e w' => e = .returned (.bool (seqB s)) ∧ w = w' := by
  by_cases h1 : (1 : Int) ≤ (s.size : Int)
  · by_cases h2 : (s.size : Int) ≤ 255
    · have hr := Lib.hid (show seqB s = bitsB s by unfold seqB; rw [inB_true h1 h2, Bool.and_true])
      go_enter Try.func82, Try.ntmps82
      go_wp2_with fail
      refine (isBits_c _ _).mono ?_; rintro e w' ⟨rfl, rfl⟩
      go_wp2_with fail
      go_ret
      exact ⟨ret_b hr.out.symm, rfl⟩
    · have hr := Lib.hid (show seqB s = false by unfold seqB; rw [inB_hi (by omega), Bool.and_false])
      go_enter Try.func82, Try.ntmps82
      go_wp2_with fail
      go_ret
      exact ⟨ret_b hr.out.symm, rfl⟩
  · have hr := Lib.hid (show seqB s = false by unfold seqB; rw [inB_lo (by omega), Bool.and_false])
    go_enter Try.func82, Try.ntmps82
    go_wp2_with fail
    go_ret
    exact ⟨ret_b hr.out.symm, rfl⟩

set_option maxHeartbeats 800000 in
theorem sSequenceValid_c (s : ByteArray) (w : World) (hs : s.size ≤ 1099511627776) : Calls Try.prog 140 #[.string s] w fun e w' => e = .returned (.bool (seqB s)) ∧ w = w' := by
  by_cases h1 : bitsB s = true
  · have hr := Lib.hid (show seqB s = inB (s.size : Int) 1 255 by unfold seqB; rw [h1, Bool.true_and])
    go_enter Try.func140, Try.ntmps140
    go_wp2_with fail
    refine (l1Bits_c _ _ hs).mono ?_; rintro e w' ⟨rfl, rfl⟩
    rw [h1]
    clear h1
    go_wp2_with fail
    refine (l1In_c _ _ _ _).mono ?_; rintro e w' ⟨rfl, rfl⟩
    go_wp2_with fail
    go_ret
    exact ⟨ret_b hr.out.symm, rfl⟩
  · have h1' : bitsB s = false := by simpa using h1
    have hr := Lib.hid (show seqB s = false by unfold seqB; rw [h1', Bool.false_and])
    go_enter Try.func140, Try.ntmps140
    go_wp2_with fail
    refine (l1Bits_c _ _ hs).mono ?_; rintro e w' ⟨rfl, rfl⟩
    rw [h1']
    clear h1 h1'
    go_wp2_with fail
    go_ret
    exact ⟨ret_b hr.out.symm, rfl⟩

end Go.Proofs.Ytadcckjlcmnhbaa
