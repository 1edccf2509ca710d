/- FrameOf, ParseFrame and FindFrame of the program and of the reference. No condition beyond lengths. -/
import Derived.Test.YtadcckjlcmnhbaaKc
import Derived.Test.YtadcckjlcmnhbaaTb
import Derived.Test.YtadcckjlcmnhbaaShelf
namespace Go.Proofs.Ytadcckjlcmnhbaa
open Go.RowKit

theorem payB_yes {p : ByteArray} (h1 : p.size ≤ 100) (h2 : bitsB p = true) : payB p = true := by unfold payB; rw [h2, decide_eq_true h1]; rfl
theorem payB_big {p : ByteArray} (h1 : ¬ p.size ≤ 100) : payB p = false := by unfold payB; rw [decide_eq_false h1]; rfl
theorem payB_bad {p : ByteArray} (h1 : bitsB p = false) : payB p = false := by unfold payB; rw [h1, Bool.and_false]
theorem payB_is {p : ByteArray} (h : payB p = true) : p.size ≤ 100 ∧ bitsB p = true := by unfold payB at h; rw [Bool.and_eq_true, decide_eq_true_eq] at h; exact h
/-- The frame of a payload, if it is one. -/
def frameR (p : ByteArray) : Option ByteArray := if payB p = true then some (frameT p) else none
theorem frameR_yes {p : ByteArray} (h : payB p = true) : frameR p = some (frameT p) := by unfold frameR; rw [if_pos h]
theorem frameR_no {p : ByteArray} (h : payB p = false) : frameR p = none := by unfold frameR; rw [if_neg (by rw [h]; decide)]
theorem frame_eq (p : ByteArray) : frameT p = ⟨#[49, 49, 49, 48, 49, 48, 48, 48]⟩ ++ innerT p ++ binT (crcN (innerT p)) 8 := rfl
theorem inner_eq (p : ByteArray) : binT p.size 7 ++ p = innerT p := rfl

set_option maxHeartbeats 400000 in
theorem payloadValid_c (p : ByteArray) (w : World) : Calls Try.prog 88 #[.string p] w fun e w' => e = .returned (.bool (payB p)) ∧ w = w' := by
  by_cases h1 : p.size ≤ 100
  · have hr := Lib.hid (show payB p = bitsB p by unfold payB; rw [decide_eq_true h1]; rfl)
    have h1' : (p.size : Int) ≤ 100 := by omega
    go_enter Try.func88, Try.ntmps88
    go_wp2_with fail
    refine (isBits_c _ _).mono ?_; rintro e w' ⟨rfl, rfl⟩
    go_wp2_with fail
    go_ret
    exact ⟨ret_b hr.out.symm, rfl⟩
  · have hr := Lib.hid (payB_big h1)
    have h1' : ¬ (p.size : Int) ≤ 100 := by omega
    go_enter Try.func88, Try.ntmps88
    go_wp2_with fail
    go_ret
    exact ⟨ret_b hr.out.symm, rfl⟩

set_option maxHeartbeats 400000 in
theorem l6Payload_c (p : ByteArray) (w : World) (hs : p.size ≤ 1099511627776) : Calls Try.prog 102 #[.string p] w fun e w' => e = .returned (.bool (payB p)) ∧ w = w' := by
  by_cases h2 : bitsB p = true
  · by_cases h1 : p.size ≤ 100
    · have hr := Lib.hid (payB_yes h1 h2)
      have h1' : (p.size : Int) ≤ 100 := by omega
      go_enter Try.func102, Try.ntmps102
      go_wp2_with fail
      refine (l1Bits_c _ _ hs).mono ?_; rintro e w' ⟨rfl, rfl⟩
      rw [h2]
      go_wp2_with fail
      go_ret
      exact ⟨ret_b hr.out.symm, rfl⟩
    · have hr := Lib.hid (payB_big h1)
      have h1' : ¬ (p.size : Int) ≤ 100 := by omega
      go_enter Try.func102, Try.ntmps102
      go_wp2_with fail
      refine (l1Bits_c _ _ hs).mono ?_; rintro e w' ⟨rfl, rfl⟩
      rw [h2]
      go_wp2_with fail
      go_ret
      exact ⟨ret_b (by rw [hr.out]; simp; omega), rfl⟩
  · have h2' : bitsB p = false := by simpa using h2
    have hr := Lib.hid (payB_bad h2')
    clear h2
    go_enter Try.func102, Try.ntmps102
    go_wp2_with fail
    refine (l1Bits_c _ _ hs).mono ?_; rintro e w' ⟨rfl, rfl⟩
    rw [h2']
    go_wp2_with fail
    go_ret
    exact ⟨ret_b hr.out.symm, rfl⟩

set_option maxHeartbeats 800000 in
theorem FrameOf_c (p : ByteArray) (w : World) : Calls Try.prog 46 #[.string p] w (RetTB w (frameR p)) := by
  by_cases h : payB p = true
  · have hr := Lib.hid (frameR_yes h)
    have HB := inner_bits h
    have HF := Lib.hid (frame_eq p)
    have HI := Lib.hid (inner_eq p)
    have hp := (payB_is h).1
    have hz := inner_size p
    have hb7 := binT_size p.size 7
    have hb8 := binT_size (crcN (innerT p)) 8
    have hm : (⟨#[49, 49, 49, 48, 49, 48, 48, 48]⟩ : ByteArray).size = 8 := rfl
    have hmi : ((⟨#[49, 49, 49, 48, 49, 48, 48, 48]⟩ : ByteArray) ++ innerT p).size = 15 + p.size := by rw [ap_size, hm, hz]; omega
    go_enter Try.func46, Try.ntmps46
    go_wp2_with fail
    refine (payloadValid_c _ _).mono ?_; rintro e w' ⟨rfl, rfl⟩
    rw [h]
    clear h
    go_wp2_with fail
    refine (binaryText8_c p.size 7 _ (by omega) (by omega)).mono ?_; rintro e w1 ⟨rfl, hb1⟩
    go_wp2_with fail
    rw [HI.out]
    refine (CrcOf_c (innerT p) _ HB).mono ?_; rintro e w2 ⟨rfl, hb2⟩
    go_wp2_with fail
    go_ret2
    exact retTB_some (by rw [hr.out, HF.out]) (hb1.trans (hb2.mono hb1.size))
  · have h' : payB p = false := by simpa using h
    have hr := Lib.hid (frameR_no h')
    clear h
    go_enter Try.func46, Try.ntmps46
    go_wp2_with fail
    refine (payloadValid_c _ _).mono ?_; rintro e w' ⟨rfl, rfl⟩
    rw [h']
    go_wp2_with fail
    go_ret2
    exact retTB_none hr.out (Below.refl _ _)

set_option maxHeartbeats 800000 in
theorem l6Frame_c (p : ByteArray) (w : World) (h : payB p = true) : Calls Try.prog 103 #[.string p] w fun e w' => e = .returned (.string (frameT p)) ∧ Below w.heap.size w w' := by
  have HB := inner_bits h
  have HF := Lib.hid (frame_eq p)
  have HI := Lib.hid (inner_eq p)
  have hp := (payB_is h).1
  have hz := inner_size p
  have hb7 := binT_size p.size 7
  have hb8 := binT_size (crcN (innerT p)) 8
  have hm : (⟨#[49, 49, 49, 48, 49, 48, 48, 48]⟩ : ByteArray).size = 8 := rfl
  have hmi : ((⟨#[49, 49, 49, 48, 49, 48, 48, 48]⟩ : ByteArray) ++ innerT p).size = 15 + p.size := by rw [ap_size, hm, hz]; omega
  clear h
  go_enter Try.func103, Try.ntmps103
  go_wp2_with fail
  refine (l6Binary_c p.size 7 _ (by omega) (by omega)).mono ?_; rintro e w1 ⟨rfl, hb1⟩
  go_wp2_with fail
  rw [HI.out]
  refine (l6Crc_c (innerT p) _ HB).mono ?_; rintro e w2 ⟨rfl, hb2⟩
  go_wp2_with fail
  go_ret
  exact ⟨by rw [HF.out]; rfl, hb1.trans (hb2.mono hb1.size)⟩

set_option maxHeartbeats 400000 in
theorem sFrameOf_c (p : ByteArray) (w : World) (hs : p.size ≤ 1099511627776) : Calls Try.prog 54 #[.string p] w (RetTB w (frameR p)) := by
  by_cases h : payB p = true
  · have hr := Lib.hid (frameR_yes h)
    go_enter Try.func54, Try.ntmps54
    go_wp2_with fail
    refine (l6Payload_c _ _ hs).mono ?_; rintro e w' ⟨rfl, rfl⟩
    rw [h]
    go_wp2_with fail
    refine (l6Frame_c p _ h).mono ?_; rintro e w1 ⟨rfl, hb1⟩
    go_wp2_with fail
    go_ret2
    exact retTB_some hr.out hb1
  · have h' : payB p = false := by simpa using h
    have hr := Lib.hid (frameR_no h')
    clear h
    go_enter Try.func54, Try.ntmps54
    go_wp2_with fail
    refine (l6Payload_c _ _ hs).mono ?_; rintro e w' ⟨rfl, rfl⟩
    rw [h']
    go_wp2_with fail
    go_ret2
    exact retTB_none hr.out (Below.refl _ _)

/-- The post of a function that hands back a text, a number and a bool. -/
def RetPF (w : World) (r : Option (ByteArray × Nat)) (e : Ending) (w' : World) : Prop :=
  e = .returned (.tuple #[.string ((r.map Prod.fst).getD ByteArray.empty), .int .i64 (((r.map Prod.snd).getD 0 : Nat) : Int), .bool r.isSome]) ∧ Below w.heap.size w w'
theorem retPF_none {w w' : World} {r : Option (ByteArray × Nat)} (hr : r = none) (hb : Below w.heap.size w w') : RetPF w r (.returned (.tuple #[.string ⟨#[]⟩, .int .i64 0, .bool false])) w' := by
  subst hr; exact ⟨rfl, hb⟩
theorem retPF_some {w w' : World} {r : Option (ByteArray × Nat)} {p : ByteArray} {n : Nat} {x : Int} (hr : r = some (p, n)) (hx : x = n) (hb : Below w.heap.size w w') : RetPF w r (.returned (.tuple #[.string p, .int .i64 x, .bool true])) w' := by
  subst hr hx; exact ⟨rfl, hb⟩
theorem parse_no1 {s : ByteArray} {a : Int} (h : bitsB s = false) : parseR s a = none := parse_no (by rw [h]; simp)
theorem parse_no2 {s : ByteArray} {a : Int} (h : a < 0) : parseR s a = none := parse_no (by omega)
theorem parse_no3 {s : ByteArray} {a : Nat} (h : s.size < a + 23) : parseR s a = none := parse_no (by simp; omega)
/-- Not found, from what the number is. -/
theorem parse_num {s : ByteArray} {a N : Nat} (hN : numK (s.extract (a + 8) (a + 15)) 7 = N) (h : 100 < N ∨ s.size < a + 23 + N) : parseR s a = none := by
  by_cases hb : bitsB s = true
  · by_cases h2 : a + 23 ≤ s.size
    · rw [parse_yes hb h2, at_1 hN (by omega)]
    · exact parse_no3 (by omega)
  · exact parse_no1 (by simpa using hb)
theorem parse_mark {s : ByteArray} {a : Nat} (h : Lib.hasPrefix (s.extract a s.size).data.toList markT.data.toList = false) : parseR s a = none := by
  by_cases hb : bitsB s = true
  · by_cases h2 : a + 23 ≤ s.size
    · rw [parse_yes hb h2, at_mark h]
    · exact parse_no3 (by omega)
  · exact parse_no1 (by simpa using hb)
theorem parse_ne {s : ByteArray} {a N : Nat} (hN : numK (s.extract (a + 8) (a + 15)) 7 = N) (h : ¬ frameT (s.extract (a + 15) (a + 15 + N)) = s.extract a (a + 23 + N)) : parseR s a = none := by
  by_cases hb : bitsB s = true
  · by_cases h2 : a + 23 ≤ s.size
    · rw [parse_yes hb h2, at_2 hN h]
    · exact parse_no3 (by omega)
  · exact parse_no1 (by simpa using hb)
theorem parse_ok {s : ByteArray} {a N : Nat} (hb : bitsB s = true) (hN : numK (s.extract (a + 8) (a + 15)) 7 = N) (h1 : N ≤ 100) (h2 : a + 23 + N ≤ s.size) (h : frameT (s.extract (a + 15) (a + 15 + N)) = s.extract a (a + 23 + N)) :
    parseR s a = some (s.extract (a + 15) (a + 15 + N), a + 23 + N) := by rw [parse_yes hb (by omega), at_3 hN h1 h2 h]
theorem pre_le {s : ByteArray} {a : Nat} (ha : a ≤ s.size) (h : Lib.hasPrefix (s.extract a s.size).data.toList markT.data.toList = true) : a + 8 ≤ s.size := by
  rw [pre_iff, ex_all] at h
  have := congrArg List.length h
  rw [show markT.data.toList.length = 8 from rfl, List.length_take, List.length_drop, sz_list] at this
  omega

set_option maxRecDepth 100000 in
set_option maxHeartbeats 1600000 in
theorem ParseFrame_c (s : ByteArray) (a : Int) (w : World) : Calls Try.prog 63 #[.string s, .int .i64 a] w (RetPF w (parseR s a)) := by
  by_cases h1 : bitsB s = true
  · by_cases h2 : a < 0
    · have hr := Lib.hid (parse_no2 (s := s) h2)
      go_enter Try.func63, Try.ntmps63
      go_wp2_with fail
      refine (isBits_c _ _).mono ?_; rintro e w' ⟨rfl, rfl⟩
      rw [h1]
      go_wp2_with fail
      go_ret3
      exact retPF_none hr.out (Below.refl _ _)
    · obtain ⟨A, rfl⟩ := Int.eq_ofNat_of_zero_le (show 0 ≤ a by omega)
      by_cases h3 : (s.size : Int) < (A : Int)
      · have hr := Lib.hid (parse_no3 (s := s) (a := A) (by omega))
        go_enter Try.func63, Try.ntmps63
        go_wp2_with fail
        refine (isBits_c _ _).mono ?_; rintro e w' ⟨rfl, rfl⟩
        rw [h1]
        go_wp2_with fail
        go_ret3
        exact retPF_none hr.out (Below.refl _ _)
      · have hAs : A ≤ s.size := by omega
        have h600 := bits_le h1
        by_cases h4 : Lib.hasPrefix (s.extract A s.size).data.toList markT.data.toList = true
        · have HC := Lib.hid (cut_rest h4)
          have hA8 := pre_le hAs h4
          have hRz : (s.extract (A + 8) s.size).size = s.size - (A + 8) := ex_size (Nat.le_refl _)
          have H1 := Lib.hid h1
          have HRB := Lib.hid (allS_ex (A + 8) s.size (bits_all h1))
          by_cases h5 : s.size < A + 15
          · have hr := Lib.hid (parse_no3 (s := s) (a := A) (by omega))
            go_enter Try.func63, Try.ntmps63
            go_wp2_with fail
            refine (isBits_c _ _).mono ?_; rintro e w' ⟨rfl, rfl⟩
            rw [h1]
            go_wp2_with fail
            refine (Try.strings_CutPrefix (s.extract A s.size) markT _).mono ?_; rintro e w' ⟨rfl, rfl⟩
            rw [HC.out, h4]
            generalize s.extract (A + 8) s.size = R at *
            have hR7 : (R.size : Int) < 7 := by omega
            go_wp2_with fail
            go_ret3
            exact retPF_none hr.out (Below.refl _ _)
          · have HNR := Lib.hid (num_rest (s := s) (a := A) (by omega))
            have HPY := Lib.hid (fun (N : Nat) (h : A + 15 + N ≤ s.size) => pay_rest (s := s) (a := A) (N := N) h)
            go_enter Try.func63, Try.ntmps63
            go_wp2_with fail
            refine (isBits_c _ _).mono ?_; rintro e w' ⟨rfl, rfl⟩
            rw [h1]
            go_wp2_with fail
            refine (Try.strings_CutPrefix (s.extract A s.size) markT _).mono ?_; rintro e w' ⟨rfl, rfl⟩
            rw [HC.out, h4]
            obtain ⟨R, hRd⟩ : ∃ R, R = s.extract (A + 8) s.size := ⟨_, rfl⟩
            rw [← hRd] at HRB hRz HNR HPY
            rw [← hRd]
            have hR7 : ¬ (R.size : Int) < 7 := by omega
            have hR77 : 7 ≤ R.size := by omega
            clear hRd h1 h4 HC
            go_wp2_with fail
            go_loop [9, 40] (fun n i => ∃ k : Nat, k ≤ 7 ∧ i = .int .i64 k ∧ n = .int .i64 (numK R k)) (fun _ i => 7 - (intOf i).toNat)
            case atStart => exact ⟨0, Nat.zero_le _, rfl, rfl⟩
            case round =>
              obtain ⟨k, hk, rfl, rfl⟩ := hrel
              have hpw := numK_lt HRB.out k (by omega)
              have hp7 : numK R k < 128 := Nat.lt_of_lt_of_le hpw (Nat.pow_le_pow_right (by omega) hk)
              clear hpw
              by_cases hlt : k < 7
              · have hkR : k < R.size := by omega
                have HS := Lib.hid (numK_succ hkR)
                have hbit := bit_at HRB.out hkR
                have hsub := sub48 hbit
                have hdl := dig_le hbit
                generalize numK R k = n at *
                obtain ⟨d, hd⟩ : ∃ d, d = dig R[k] := ⟨_, rfl⟩
                rw [← hd] at HS hsub hdl
                clear hd
                go_wp2_with fail
                go_round
                case rel => exact ⟨k + 1, by omega, by go_num, by rw [HS.out]; go_num⟩
                case measure => simp [intOf]; omega
              · obtain rfl : k = 7 := by omega
                have HN := Lib.hid HNR.out.symm
                generalize numK R 7 = N at *
                by_cases h6 : (R.size : Int) - 7 < (N : Int)
                · have hr := Lib.hid (parse_num HN.out (.inr (by omega)))
                  go_wp2_with fail
                  go_ret3
                  exact retPF_none hr.out (Below.refl _ _)
                · have HP := Lib.hid (HPY.out N (by omega))
                  have hPz : (s.extract (A + 15) (A + 15 + N)).size = N := by rw [ex_size (by omega)]; omega
                  have HPB := Lib.hid (allS_ex (A + 15) (A + 15 + N) (bits_all H1.out))
                  have HPF := Lib.hid (pre_frame (s := s) (a := A) hPz)
                  have HNE := Lib.hid (fun h => parse_ne HN.out h)
                  have HOK := Lib.hid (fun h h2 h3 => parse_ok H1.out HN.out h h2 h3)
                  have HNU := Lib.hid (fun h => parse_num (s := s) (a := A) HN.out h)
                  go_wp2_with fail
                  rw [HP.out]
                  generalize s.extract (A + 15) (A + 15 + N) = Q at *
                  refine (FrameOf_c Q _).mono ?_; rintro e w2 ⟨rfl, hb2⟩
                  by_cases h7 : N ≤ 100
                  · have hpay : payB Q = true := payB_yes (by omega) (bits_mk (by omega) HPB.out)
                    have HFR := Lib.hid (frameR_yes hpay)
                    have hfz := frame_size Q
                    rw [HFR.out]
                    clear hpay
                    simp only [Option.getD_some, Option.isSome_some]
                    by_cases h8 : Lib.hasPrefix (s.extract A s.size).data.toList (frameT Q).data.toList = true
                    · have h9 := HPF.out.1 h8
                      have hr := Lib.hid (HOK.out h7 (by omega) h9.2)
                      clear h9
                      go_wp2_with fail
                      refine (Try.strings_HasPrefix (s.extract A s.size) (frameT Q) _).mono ?_; rintro e w' ⟨rfl, rfl⟩
                      rw [h8]
                      go_wp2_with fail
                      go_ret3
                      exact retPF_some hr.out (by omega) hb2
                    · have h8' : Lib.hasPrefix (s.extract A s.size).data.toList (frameT Q).data.toList = false := by simpa using h8
                      have hr : Hid (parseR s A = none) := by
                        by_cases h9 : s.size < A + 23 + N
                        · exact Lib.hid (HNU.out (.inr h9))
                        · exact Lib.hid (HNE.out fun h10 => h8 (HPF.out.2 ⟨.inl (by omega), h10⟩))
                      clear h8
                      go_wp2_with fail
                      refine (Try.strings_HasPrefix (s.extract A s.size) (frameT Q) _).mono ?_; rintro e w' ⟨rfl, rfl⟩
                      rw [h8']
                      go_wp2_with fail
                      go_ret3
                      exact retPF_none hr.out hb2
                  · have HFR := Lib.hid (frameR_no (payB_big (show ¬ Q.size ≤ 100 by omega)))
                    have hr := Lib.hid (HNU.out (.inl (by omega)))
                    rw [HFR.out]
                    simp only [Option.getD_none, Option.isSome_none]
                    go_wp2_with fail
                    go_ret3
                    exact retPF_none hr.out hb2
        · have h4' : Lib.hasPrefix (s.extract A s.size).data.toList markT.data.toList = false := by simpa using h4
          have hr := Lib.hid (parse_mark h4')
          clear h4
          go_enter Try.func63, Try.ntmps63
          go_wp2_with fail
          refine (isBits_c _ _).mono ?_; rintro e w' ⟨rfl, rfl⟩
          rw [h1]
          go_wp2_with fail
          refine (Try.strings_CutPrefix (s.extract A s.size) markT _).mono ?_; rintro e w' ⟨rfl, rfl⟩
          rw [h4']
          go_wp2_with fail
          go_ret3
          exact retPF_none hr.out (Below.refl _ _)
  · have h1' : bitsB s = false := by simpa using h1
    have hr := Lib.hid (parse_no1 (a := a) h1')
    clear h1
    go_enter Try.func63, Try.ntmps63
    go_wp2_with fail
    refine (isBits_c _ _).mono ?_; rintro e w' ⟨rfl, rfl⟩
    rw [h1']
    go_wp2_with fail
    go_ret3
    exact retPF_none hr.out (Below.refl _ _)

end Go.Proofs.Ytadcckjlcmnhbaa
