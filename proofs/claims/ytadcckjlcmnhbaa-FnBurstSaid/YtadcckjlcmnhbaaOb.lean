/- HammingEncode of the reference. No condition beyond lengths. -/
import Derived.Test.YtadcckjlcmnhbaaOa
import Derived.Test.YtadcckjlcmnhbaaD
import Derived.Test.YtadcckjlcmnhbaaKz
import Derived.Test.YtadcckjlcmnhbaaHm
namespace Go.Proofs.Ytadcckjlcmnhbaa
open Go.RowKit

theorem xor_cast {x v : Nat} (hx : x ≤ 1) (hv : v = 48 ∨ v = 49) : bits .xor .i64 (x : Int) ((v : Int) - 48) = ((x ^^^ ((v : Int) - 48).toNat : Nat) : Int) := by
  rcases (show x = 0 ∨ x = 1 by omega) with rfl | rfl <;> rcases hv with rfl | rfl <;> rfl
theorem lit_below {w0 wa wb : World} {o : Obj} (h : Below w0.heap.size w0 wa) (hb : Below (wa.alloc o).heap.size (wa.alloc o) wb) : Below w0.heap.size w0 wb :=
  (h.alloc h.size _).trans (hb.mono (by have := h.size; simp; omega))
theorem text_bits {l : List Int} (h : ∀ x ∈ l, isBit x) : allS bitC (text l) = true := allS_text h

set_option maxHeartbeats 800000 in
theorem l6Check_c (s : ByteArray) (l : List Nat) (w : World) {ao : Option Addr} {n c : Nat} (hb : allS bitC s = true) (hz : s.size ≤ 100) (hl : ∀ x ∈ l, 1 ≤ x ∧ x ≤ s.size) (hn : l.length ≤ 100) (hR : Rd w ao n (l.map fun k : Nat => (Nat.cast k : Int))) :
    Calls Try.prog 136 #[.string s, .slice ao n c] w fun e w' => e = .returned (.string (text [((48 + xorK (codes s) l l.length : Nat) : Int)])) ∧ Below w.heap.size w w' := by
  have hnl : n = l.length := by rw [hR.1, List.length_map]
  subst hnl
  have HB := Lib.hid (codes_bits hb)
  have HL := Lib.hid (show ∀ x ∈ l, 1 ≤ x ∧ x ≤ (codes s).length from fun x hx => by rw [codes_length]; exact hl x hx)
  have HBB := Lib.hid hb
  have HCL := Lib.hid (codes_length s)
  clear hl hb
  go_enter Try.func136, Try.ntmps136
  go_wp2_with fail
  go_loop [5, 6] (fun x i => ∃ k : Nat, k ≤ l.length ∧ i = .int .i64 k ∧ x = .int .i64 (xorK (codes s) l k : Nat)) (fun _ i => l.length - (intOf i).toNat)
  case atStart => exact ⟨0, Nat.zero_le _, rfl, rfl⟩
  case round =>
    obtain ⟨k, hk, rfl, rfl⟩ := hrel
    have hx1 := xorK_lt HB.out HL.out k hk
    by_cases hlt : k < l.length
    · obtain ⟨bk, off, hao, hl, hc⟩ := hR.at hlt
      subst hao
      rw [List.getElem_map] at hc
      have hpm := HL.out l[k] (List.getElem_mem hlt)
      have hg : l.getD k 0 = l[k] := by rw [List.getD_eq_getElem?_getD, List.getElem?_eq_getElem hlt, Option.getD_some]
      obtain ⟨q, hq⟩ : ∃ q, l[k] = q + 1 := ⟨l[k] - 1, by omega⟩
      rw [hq] at hc hpm hg
      rw [HCL.out] at hpm
      have hqz : q < s.size := by omega
      have hbit := bit_at HBB.out hqz
      have HS := Lib.hid (show xorK (codes s) l (k + 1) = xorK (codes s) l k ^^^ ((s[q].toNat : Int) - 48).toNat by rw [xorK, hg, Nat.add_sub_cancel, codes_v hqz])
      have HX := Lib.hid (xor_cast hx1 hbit)
      have e1 : ((q + 1 : Nat) : Int) - 1 = (q : Int) := by omega
      have hq9 : q ≤ 100 := by omega
      generalize xorK (codes s) l k = x at *
      clear hg hq hpm hR hl
      go_wp2_with fail
      go_round
      case rel => exact ⟨k + 1, by omega, by go_num, by rw [HX.out, HS.out]⟩
      case measure => simp [intOf]; omega
    · obtain rfl : k = l.length := by omega
      go_wp2_with fail
      refine (l9Dec_c _ _ (by omega)).mono ?_; rintro e w2 ⟨rfl, hb2⟩
      go_wp2_with fail
      go_ret
      exact ⟨rfl, hb2⟩

set_option maxHeartbeats 1600000 in
theorem l6Block_c (X : ByteArray) (w : World) (hz : X.size = 4) (hb : allS bitC X = true) {a b c d : Int} (h : codes X = [a, b, c, d]) : Calls Try.prog 107 #[.string X] w fun e w' => e = .returned (.string (text (encL a b c d))) ∧ Below w.heap.size w w' := by
  have hbs := codes_bits hb
  rw [h] at hbs
  have ha : isBit a := hbs a (by simp)
  have hbb : isBit b := hbs b (by simp)
  have hc : isBit c := hbs c (by simp)
  have hd : isBit d := hbs d (by simp)
  have h48 : isBit 48 := Or.inl rfl
  have hBL : ∀ x ∈ [48, 48, a, 48, b, c, d], isBit x := by
    intro x hx
    simp only [List.mem_cons, List.not_mem_nil, or_false] at hx
    rcases hx with rfl | rfl | rfl | rfl | rfl | rfl | rfl <;> assumption
  obtain ⟨T, hT⟩ : ∃ T, T = text [48, 48, a, 48, b, c, d] := ⟨_, rfl⟩
  have hTz : T.size = 7 := by rw [hT, text_size]; rfl
  have hTc : codes T = [48, 48, a, 48, b, c, d] := by rw [hT, codes_text hBL]
  have HTB := Lib.hid (show allS bitC T = true by rw [hT]; exact text_bits hBL)
  have hbt := blk_text h
  have hbo := blk_out h
  rw [hz] at hbt hbo
  have HX := Lib.hid (show (⟨#[48, 48]⟩ : ByteArray) ++ X.extract 0 1 ++ ⟨#[48]⟩ ++ X.extract 1 4 = T by rw [hT]; exact hbt)
  have HO := Lib.hid hbo
  have H1 := Lib.hid (show text [((48 + xorK (codes T) [3, 5, 7] [3, 5, 7].length : Nat) : Int)] = text [parB a b d] by rw [show xorK (codes T) [3, 5, 7] [3, 5, 7].length = parN a b d by rw [hTc]; exact chk_1 ha hbb hc hd]; rfl)
  have H2 := Lib.hid (show text [((48 + xorK (codes T) [3, 6, 7] [3, 6, 7].length : Nat) : Int)] = text [parB a c d] by rw [show xorK (codes T) [3, 6, 7] [3, 6, 7].length = parN a c d by rw [hTc]; exact chk_2 ha hbb hc hd]; rfl)
  have H3 := Lib.hid (show text [((48 + xorK (codes T) [5, 6, 7] [5, 6, 7].length : Nat) : Int)] = text [parB b c d] by rw [show xorK (codes T) [5, 6, 7] [5, 6, 7].length = parN b c d by rw [hTc]; exact chk_3 ha hbb hc hd]; rfl)
  have hp1 := parN_lt a b d
  have hx0 : (X.extract 0 1).size = 1 := by rw [ex_size (by omega)]
  have hx1 : (X.extract 1 4).size = 3 := by rw [ex_size (by omega)]
  have hc1 : ((⟨#[48, 48]⟩ : ByteArray) ++ X.extract 0 1).size = 3 := by rw [ap_size, hx0]; rfl
  have hc2 : ((⟨#[48, 48]⟩ : ByteArray) ++ X.extract 0 1 ++ ⟨#[48]⟩).size = 4 := by rw [ap_size, hc1]; rfl
  have hd1 : ¬ (⟨#[48, 48]⟩ : ByteArray).size + (X.extract 0 1).size > 9223372036854775807 := by rw [hx0]; decide
  have hd2 : ¬ ((⟨#[48, 48]⟩ : ByteArray) ++ X.extract 0 1).size + (⟨#[48]⟩ : ByteArray).size > 9223372036854775807 := by rw [hc1]; decide
  have hd3 : ¬ ((⟨#[48, 48]⟩ : ByteArray) ++ X.extract 0 1 ++ ⟨#[48]⟩).size + (X.extract 1 4).size > 9223372036854775807 := by rw [hc2, hx1]; decide
  have h1z : 1 ≤ X.size := by omega
  have h1i : (1 : Int) ≤ (X.size : Int) := by omega
  clear hT hTc hBL hbs h hb hbt hbo
  go_enter Try.func107, Try.ntmps107
  go_wp2_with fail
  go_quiet (fail)
  rw [HX.out]
  clear hc1 hc2 hd1 hd2 hd3
  go_wp2_with fail
  refine (l6Check_c T [3, 5, 7] _ HTB.out (by omega) (by rw [hTz]; decide) (by decide) (rd_lit' _ [3, 5, 7] 3 _ _ rfl rfl (by decide))).mono ?_; rintro e w1 ⟨rfl, hb1⟩
  rw [H1.out]
  go_wp2_with fail
  refine (l6Check_c T [3, 6, 7] _ HTB.out (by omega) (by rw [hTz]; decide) (by decide) (rd_lit' _ [3, 6, 7] 3 _ _ rfl rfl (by decide))).mono ?_; rintro e w2 ⟨rfl, hb2⟩
  rw [H2.out]
  go_wp2_with fail
  refine (l6Check_c T [5, 6, 7] _ HTB.out (by omega) (by rw [hTz]; decide) (by decide) (rd_lit' _ [5, 6, 7] 3 _ _ rfl rfl (by decide))).mono ?_; rintro e w3 ⟨rfl, hb3⟩
  rw [H3.out]
  have hA := text_one_size (parB a b d)
  have hB := text_one_size (parB a c d)
  have hC := text_one_size (parB b c d)
  generalize text [parB a b d] = A at *
  generalize text [parB a c d] = B at *
  generalize text [parB b c d] = C at *
  have s1 : (A ++ B).size = 2 := by rw [ap_size, hA, hB]
  have s2 : (A ++ B ++ X.extract 0 1).size = 3 := by rw [ap_size, s1, hx0]
  have s3 : (A ++ B ++ X.extract 0 1 ++ C).size = 4 := by rw [ap_size, s2, hC]
  have d1 : ¬ A.size + B.size > 9223372036854775807 := by rw [hA, hB]; decide
  have d2 : ¬ (A ++ B).size + (X.extract 0 1).size > 9223372036854775807 := by rw [s1, hx0]; decide
  have d3 : ¬ (A ++ B ++ X.extract 0 1).size + C.size > 9223372036854775807 := by rw [s2, hC]; decide
  have d4 : ¬ (A ++ B ++ X.extract 0 1 ++ C).size + (X.extract 1 4).size > 9223372036854775807 := by rw [s3, hx1]; decide
  go_wp2_with fail
  go_quiet (fail)
  rw [HO.out]
  clear s1 s2 s3 d1 d2 d3 d4
  go_wp2_with fail
  go_ret
  exact ⟨rfl, (lit_below (lit_below (lit_below ((Qw.drewN w _).below _) hb1) hb2) hb3).trans ((Qw.drewN _ _).below _)⟩

set_option maxRecDepth 100000 in
set_option maxHeartbeats 1600000 in
theorem sHammingEncode_c (s : ByteArray) (w : World) (hs : s.size ≤ 1099511627776) : Calls Try.prog 57 #[.string s] w (RetTB w (encR s)) := by
  by_cases h1 : bitsB s = true
  · have h6 := bits_le h1
    obtain ⟨m, hm⟩ : ∃ m, m = s.size % 4 := ⟨_, rfl⟩
    obtain ⟨M, hM⟩ : ∃ M, M = s.size / 4 := ⟨_, rfl⟩
    have e1 : (s.size : Int).tmod 4 = (m : Int) := by rw [hm]; rfl
    have e2 : (s.size : Int) % 4 = (m : Int) := by rw [hm]; rfl
    have e5 : (s.size : Int).tdiv 4 = (M : Int) := by rw [hM]; rfl
    have e6 : (s.size : Int) / 4 = (M : Int) := by rw [hM]; rfl
    have hM2 : M ≤ 600 := by omega
    by_cases h2 : m = 0
    · by_cases h3 : M * 7 ≤ 600
      · have hr := Lib.hid (encR_yes h1 (by omega) (by rw [← hM]; exact h3))
        have hM4 : M * 4 = s.size := by omega
        have HM := Lib.hid hM4
        have HE := Lib.hid (show text (encK (codes s) M) = encT s by rw [hM]; rfl)
        have HA := Lib.hid (bits_all h1)
        have hg : decide ((M : Int) * 7 > 600) = false := by rw [decide_eq_false_iff_not]; omega
        subst h2
        clear hm hM hM4
        go_enter Try.func57, Try.ntmps57
        go_wp2_with fail
        refine (l1Bits_c _ _ hs).mono ?_; rintro e w' ⟨rfl, rfl⟩
        rw [h1]
        clear h1
        go_wp2_with fail
        clear e1 e2 e5 e6 hg
        go_loopw [4, 5] (fun o i wr => ∃ k P : Nat, k ≤ M ∧ Hid (P = k * 4) ∧ i = .int .i64 P ∧ o = .string (text (encK (codes s) k)) ∧ Below w.heap.size w wr) (fun _ i _ => s.size - (intOf i).toNat)
        case atStart => exact ⟨0, 0, Nat.zero_le _, Lib.hid rfl, rfl, rfl, Below.refl _ _⟩
        case round =>
          obtain ⟨k, P, hk, HP, rfl, rfl, hb⟩ := hrel
          have hP := HP.out
          have hMM := HM.out
          by_cases hlt : k < M
          · have hPs : P + 4 ≤ s.size := by omega
            have hdz : (text (encK (codes s) k)).size = 7 * k := by rw [text_size, encK_len]
            obtain ⟨Q, hQ⟩ : ∃ Q, Q = P + 4 := ⟨_, rfl⟩
            have hQI : (P : Int) + 4 = (Q : Int) := by rw [hQ]; rfl
            have hQs1 : Q ≤ s.size := by omega
            have HPQ := Lib.hid (show Q = (k + 1) * 4 by omega)
            obtain ⟨X, hX⟩ : ∃ X, X = s.extract P Q := ⟨_, rfl⟩
            have hXz : X.size = 4 := by rw [hX, ex_size hQs1, hQ, Nat.add_sub_cancel_left]
            have HXB := Lib.hid (show allS bitC X = true by rw [hX]; exact allS_ex P Q HA.out)
            have HC := Lib.hid (show codes X = [(codes s).getD P 0, (codes s).getD (P + 1) 0, (codes s).getD (P + 2) 0, (codes s).getD (P + 3) 0] by rw [hX]; exact codes_four hQ hQs1)
            have HT := Lib.hid (show text (encK (codes s) k) ++ text (encL ((codes s).getD P 0) ((codes s).getD (P + 1) 0) ((codes s).getD (P + 2) 0) ((codes s).getD (P + 3) 0)) = text (encK (codes s) (k + 1)) by rw [text_add, encK, hP])
            have hlz : (text (encL ((codes s).getD P 0) ((codes s).getD (P + 1) 0) ((codes s).getD (P + 2) 0) ((codes s).getD (P + 3) 0))).size = 7 := by rw [text_size]; rfl
            have HX := Lib.hid hX
            have hPQ : P ≤ Q := by omega
            have hQs : Q ≤ s.size := by omega
            have hzb := hb.size
            have hk6 : k ≤ 600 := by omega
            clear hP hMM hQ hX
            go_wp2_with fail
            rw [← HX.out]
            refine (l6Block_c X _ hXz HXB.out HC.out).mono ?_; rintro e w2 ⟨rfl, hb2⟩
            have hb3 := hb.trans (hb2.mono hzb)
            generalize text (encL ((codes s).getD P 0) ((codes s).getD (P + 1) 0) ((codes s).getD (P + 2) 0) ((codes s).getD (P + 3) 0)) = Y at *
            generalize text (encK (codes s) k) = Z at *
            clear hb hb2
            go_wp2_with fail
            rw [HT.out]
            go_roundw
            case rel => exact ⟨k + 1, Q, by omega, HPQ, rfl, rfl, hb3⟩
            case measure => simp [intOf]; omega
          · obtain rfl : k = M := by omega
            have hnl : ¬ (P : Int) < (s.size : Int) := by omega
            clear hP hMM
            rw [HE.out]
            go_wp2_with fail
            go_ret2
            exact retTB_some hr.out hb
      · have hr := Lib.hid (encR_no3 (s := s) (by omega))
        have hg : decide ((M : Int) * 7 > 600) = true := by rw [decide_eq_true_iff]; omega
        subst h2
        clear hm hM
        go_enter Try.func57, Try.ntmps57
        go_wp2_with fail
        refine (l1Bits_c _ _ hs).mono ?_; rintro e w' ⟨rfl, rfl⟩
        rw [h1]
        go_wp2_with fail
        go_ret2
        exact retTB_none hr.out (Below.refl _ _)
    · have hr := Lib.hid (encR_no2 (s := s) (by omega))
      have hm0 : ((m : Int) == 0) = false := by rw [beq_eq_false_iff_ne]; omega
      have hmI : ¬ (m : Int) = 0 := by omega
      clear hm hM
      go_enter Try.func57, Try.ntmps57
      go_wp2_with fail
      refine (l1Bits_c _ _ hs).mono ?_; rintro e w' ⟨rfl, rfl⟩
      rw [h1]
      go_wp2_with fail
      go_ret2
      exact retTB_none hr.out (Below.refl _ _)
  · have h1' : bitsB s = false := by simpa using h1
    have hr := Lib.hid (encR_no1 h1')
    clear h1
    go_enter Try.func57, Try.ntmps57
    go_wp2_with fail
    refine (l1Bits_c _ _ hs).mono ?_; rintro e w' ⟨rfl, rfl⟩
    rw [h1']
    go_wp2_with fail
    go_ret2
    exact retTB_none hr.out (Below.refl _ _)

theorem rdB_seven (w : World) (l : List Int) (t : TypeId) (b : Nat) (hb : b = w.heap.size) (hl : l.length = 7) : RdB (w.alloc (.cells (l.map (Value.int .u8)).toArray t)) (some ⟨b, 0, none⟩) 7 l := rdB_lit w l t b 7 hb hl.symm (by omega)
theorem par_w {a b c : Int} (ha : isBit a) (hb : isBit b) (hc : isBit c) : bits .and .i64 (wrap64 (bits .xor .u8 (bits .xor .u8 a b) c)) 1 = ((parN a b c : Nat) : Int) := by
  obtain ⟨h1, h2⟩ := xor_rng ha hb hc
  have h3 := par_xor ha hb hc
  generalize bits .xor .u8 (bits .xor .u8 a b) c = x at *
  obtain ⟨n, rfl⟩ := Int.eq_ofNat_of_zero_le h1
  rw [wr64_nat rfl (by omega)]
  exact h3

set_option maxRecDepth 100000 in
set_option maxHeartbeats 1600000 in
theorem HammingEncode_c (s : ByteArray) (w : World) : Calls Try.prog 50 #[.string s] w (RetTB w (encR s)) := by
  by_cases h1 : bitsB s = true
  · have h6 := bits_le h1
    obtain ⟨m, hm⟩ : ∃ m, m = s.size % 4 := ⟨_, rfl⟩
    obtain ⟨M, hM⟩ : ∃ M, M = s.size / 4 := ⟨_, rfl⟩
    have e1 : (s.size : Int).tmod 4 = (m : Int) := by rw [hm]; rfl
    have e2 : (s.size : Int) % 4 = (m : Int) := by rw [hm]; rfl
    have e5 : (s.size : Int).tdiv 4 = (M : Int) := by rw [hM]; rfl
    have e6 : (s.size : Int) / 4 = (M : Int) := by rw [hM]; rfl
    have hM2 : M ≤ 600 := by omega
    by_cases h2 : m = 0
    · have hM4 : M * 4 = s.size := by omega
      have HM := Lib.hid hM4
      have HE := Lib.hid (show text (encK (codes s) M) = encT s by rw [hM]; rfl)
      have HBR := Lib.hid (bits_enc h1 (by omega))
      have HA := Lib.hid (bits_all h1)
      subst h2
      clear hm hM hM4
      go_enter Try.func50, Try.ntmps50
      go_wp2_with fail
      refine (isBits_c _ _).mono ?_; rintro e w' ⟨rfl, rfl⟩
      rw [h1]
      clear h1
      go_wp2_with (at_make; refine wp_make0B w rfl _ _ rfl .i64 .i64 (M * 7) _ rfl rfl rfl (by omega) ?_; intro w1 ho0 hb0)
      clear e1 e2 e5 e6
      go_wp2_with fail
      go_loopw [4, 5] (fun o i wr => ∃ k P : Nat, k ≤ M ∧ Hid (P = k * 4) ∧ i = .int .i64 P ∧ OwnVB wr w.heap.size o (encK (codes s) k) ∧ Below w.heap.size w wr) (fun _ i _ => s.size - (intOf i).toNat)
      case atStart => exact ⟨0, 0, Nat.zero_le _, Lib.hid rfl, rfl, ho0, hb0⟩
      case round =>
        clear ho0 hb0
        obtain ⟨k, P, hk, HP, rfl, ho, hb⟩ := hrel
        have hP := HP.out
        have hMM := HM.out
        by_cases hlt : k < M
        · have hPs : P + 4 ≤ s.size := by omega
          obtain ⟨P1, hP1⟩ : ∃ P1, P1 = P + 1 := ⟨_, rfl⟩
          obtain ⟨P2, hP2⟩ : ∃ P2, P2 = P + 2 := ⟨_, rfl⟩
          obtain ⟨P3, hP3⟩ : ∃ P3, P3 = P + 3 := ⟨_, rfl⟩
          obtain ⟨Q, hQ⟩ : ∃ Q, Q = P + 4 := ⟨_, rfl⟩
          have hI1 : (P : Int) + 1 = (P1 : Int) := by rw [hP1]; rfl
          have hI2 : (P : Int) + 2 = (P2 : Int) := by rw [hP2]; rfl
          have hI3 : (P : Int) + 3 = (P3 : Int) := by rw [hP3]; rfl
          have hQI : (P : Int) + 4 = (Q : Int) := by rw [hQ]; rfl
          have b1 := wr_nat hI1 (by omega)
          have b2 := wr_nat hI2 (by omega)
          have b3 := wr_nat hI3 (by omega)
          have l0 : P < s.size := by omega
          have l1 : P1 < s.size := by omega
          have l2 : P2 < s.size := by omega
          have l3 : P3 < s.size := by omega
          have i0 : (P : Int) < (s.size : Int) := by omega
          have i1 : (P1 : Int) < (s.size : Int) := by omega
          have i2 : (P2 : Int) < (s.size : Int) := by omega
          have i3 : (P3 : Int) < (s.size : Int) := by omega
          have HPQ := Lib.hid (show Q = (k + 1) * 4 by omega)
          have HT := Lib.hid (show encK (codes s) k ++ encL (s[P].toNat : Int) (s[P1].toNat : Int) (s[P2].toNat : Int) (s[P3].toNat : Int) = encK (codes s) (k + 1) by
            rw [← codes_v l0, ← codes_v l1, ← codes_v l2, ← codes_v l3, hP1, hP2, hP3, hP]; rfl)
          have hv0 : isBit (s[P].toNat : Int) := by have := bit_at HA.out l0; unfold isBit; omega
          have hv1 : isBit (s[P1].toNat : Int) := by have := bit_at HA.out l1; unfold isBit; omega
          have hv2 : isBit (s[P2].toNat : Int) := by have := bit_at HA.out l2; unfold isBit; omega
          have hv3 : isBit (s[P3].toNat : Int) := by have := bit_at HA.out l3; unfold isBit; omega
          have hk6 : k ≤ 600 := by omega
          have hzb := hb.size
          clear hP hMM hQ hP1 hP2 hP3 hI1 hI2 hI3
          go_wp2_with fail
          go_quiet (fail)
          generalize (s[P].toNat : Int) = v0 at *
          generalize (s[P1].toNat : Int) = v1 at *
          generalize (s[P2].toNat : Int) = v2 at *
          generalize (s[P3].toNat : Int) = v3 at *
          clear l0 l1 l2 l3 i0 i1 i2 i3 b1 b2 b3
          obtain ⟨wq, hwq⟩ : ∃ wq, wq = wr.drewN nq := ⟨_, rfl⟩
          rw [← hwq]
          have hbq : Below wr.heap.size wr wq := by rw [hwq]; exact (Qw.drewN _ _).below _
          have ho2 := OwnVF.below ho hbq
          have hbw := hb.trans (hbq.mono hzb)
          have hzw := hbw.size
          have ho4 : OwnVB (wq.alloc (.cells #[.int .u8 (parB v0 v1 v3), .int .u8 (parB v0 v2 v3), .int .u8 v0, .int .u8 (parB v1 v2 v3), .int .u8 v1, .int .u8 v2, .int .u8 v3] 5)) w.heap.size _ (encK (codes s) k) := OwnVF.below ho2 ((Below.refl wq.heap.size wq).alloc (Nat.le_refl _) _)
          have hrl : RdB (wq.alloc (.cells #[.int .u8 (parB v0 v1 v3), .int .u8 (parB v0 v2 v3), .int .u8 v0, .int .u8 (parB v1 v2 v3), .int .u8 v1, .int .u8 v2, .int .u8 v3] 5)) (some ⟨wq.heap.size, 0, none⟩) 7 (encL v0 v1 v2 v3) := rdB_seven wq (encL v0 v1 v2 v3) 5 _ rfl rfl
          have HP1 := Lib.hid (par_w hv0 hv1 hv3)
          have HP2 := Lib.hid (par_w hv0 hv2 hv3)
          have HP3 := Lib.hid (par_w hv1 hv2 hv3)
          clear hwq hbq ho hb ho2 hzb
          go_wp2_with fail
          rw [HP1.out]
          refine (bitOf_c _ _ (parN_lt _ _ _)).mono ?_; rintro e w' ⟨rfl, rfl⟩
          go_wp2_with fail
          rw [HP2.out]
          refine (bitOf_c _ _ (parN_lt _ _ _)).mono ?_; rintro e w' ⟨rfl, rfl⟩
          go_wp2_with fail
          rw [HP3.out]
          refine (bitOf_c _ _ (parN_lt _ _ _)).mono ?_; rintro e w' ⟨rfl, rfl⟩
          go_wp2_with (at_builtin; refine wp_appSB (wq.alloc (.cells #[.int .u8 (parB v0 v1 v3), .int .u8 (parB v0 v2 v3), .int .u8 v0, .int .u8 (parB v1 v2 v3), .int .u8 v1, .int .u8 v2, .int .u8 v3] 5)) rfl (.tmp 45) (.tmp 74) rfl w.heap.size _ (encK (codes s) k) (encL v0 v1 v2 v3) _ 7 7 rfl (by exact ho4) rfl (by exact hrl) (by intro e; cases e) (by rw [encK_len]; omega) (by simp; omega) ?_; intro v5 w5 ho5 hb5)
          rw [HT.out] at ho5
          have hbz := (hbw.alloc hzw (.cells #[.int .u8 (parB v0 v1 v3), .int .u8 (parB v0 v2 v3), .int .u8 v0, .int .u8 (parB v1 v2 v3), .int .u8 v1, .int .u8 v2, .int .u8 v3] 5)).trans hb5
          clear ho4 hrl hbw
          go_roundw
          case rel => exact ⟨k + 1, Q, by omega, HPQ, rfl, ho5, hbz⟩
          case measure => simp [intOf]; omega
        · obtain rfl : k = M := by omega
          have hnl : ¬ (P : Int) < (s.size : Int) := by omega
          clear hP hMM
          obtain ⟨a2, n2, c2, hv, ho2⟩ := OwnVF.own ho (by rw [encK_len]; omega)
          subst hv
          have hrd := ho2.rd
          go_wp2_with (with_reducible refine wp_text 22 5 9 Try.underlying22 Try.underlying5 Try.underlying9 _ rfl (.tmp 76) rfl rfl hrd ?_)
          rw [HE.out]
          refine (bitsOrNone_c (encT s) _).mono ?_; rintro e w5 ⟨rfl, hb5⟩
          rw [HBR.out]
          have hb6 := hb.trans (hb5.mono hb.size)
          generalize encR s = r at *
          go_wp2_with fail
          go_ret2
          exact ⟨rfl, hb6⟩
    · have hr := Lib.hid (encR_no2 (s := s) (by omega))
      have hm0 : ((m : Int) == 0) = false := by rw [beq_eq_false_iff_ne]; omega
      have hmI : ¬ (m : Int) = 0 := by omega
      clear hm hM
      go_enter Try.func50, Try.ntmps50
      go_wp2_with fail
      refine (isBits_c _ _).mono ?_; rintro e w' ⟨rfl, rfl⟩
      rw [h1]
      go_wp2_with fail
      go_ret2
      exact retTB_none hr.out (Below.refl _ _)
  · have h1' : bitsB s = false := by simpa using h1
    have hr := Lib.hid (encR_no1 h1')
    clear h1
    go_enter Try.func50, Try.ntmps50
    go_wp2_with fail
    refine (isBits_c _ _).mono ?_; rintro e w' ⟨rfl, rfl⟩
    rw [h1']
    go_wp2_with fail
    go_ret2
    exact retTB_none hr.out (Below.refl _ _)

theorem wvR_no1 {s : ByteArray} {n : Int} (h : bitsB s = false) : wvR s n = none := by unfold wvR rowsB; rw [h]; rfl
theorem wvR_no2 {s : ByteArray} {n : Int} (h : inB n 1 40 = false) : wvR s n = none := by unfold wvR rowsB; rw [h, Bool.and_false]; rfl
theorem wvR_no3 {s : ByteArray} {N : Nat} (h : ¬ s.size % N = 0) : wvR s N = none := by
  unfold wvR rowsB; rw [show (s.size % (N : Int).toNat == 0) = false by rw [beq_eq_false_iff_ne]; exact h, Bool.and_false]; rfl
theorem wvR_yes {s : ByteArray} {N : Nat} (h1 : bitsB s = true) (h2 : inB N 1 40 = true) (h3 : s.size % N = 0) : wvR s N = some (wvT s N) := by
  unfold wvR rowsB; rw [h1, h2, show (s.size % (N : Int).toNat == 0) = true by rw [beq_iff_eq]; exact h3]; rfl

set_option maxRecDepth 100000 in
set_option maxHeartbeats 1600000 in
/-- InterleaveBits where it answers. -/
theorem InterleaveBits_c (s : ByteArray) (R : Nat) (w : World) (h1 : bitsB s = true) (h2 : inB R 1 40 = true) (h3 : s.size % R = 0) : Calls Try.prog 52 #[.string s, .int .i64 R] w (RetTB w (some (wvT s R))) := by
  obtain ⟨_, hRR, hR1, hR4⟩ := inB_40 h2
  cases Int.ofNat.inj hRR
  have h6 := bits_le h1
  have e0 : (s.size : Int).tmod (R : Int) = ((s.size % R : Nat) : Int) := rfl
  have hne : ((R : Int) == 0) = false := by rw [beq_eq_false_iff_ne]; omega
  obtain ⟨C, hC⟩ : ∃ C, C = s.size / R := ⟨_, rfl⟩
  have hCR : C * R = s.size := by rw [hC]; exact Nat.div_mul_cancel (Nat.dvd_of_mod_eq_zero h3)
  have hC6 : C ≤ 600 := by rw [hC]; exact Nat.le_trans (Nat.div_le_self _ _) h6
  have e1 : (s.size : Int).tdiv (R : Int) = (C : Int) := by rw [hC]; rfl
  have e2 : (s.size : Int) / (R : Int) = (C : Int) := by rw [hC]; rfl
  have e3 : (s.size : Int).tmod (R : Int) = 0 := by rw [e0, h3]; rfl
  have e4 : (s.size : Int) % (R : Int) = 0 := by rw [show (s.size : Int) % (R : Int) = ((s.size % R : Nat) : Int) from rfl, h3]; rfl
  have HCR := Lib.hid hCR
  have HDT := Lib.hid (show text (wvL s R C) = wvT s R by rw [hC]; rfl)
  have HLL := Lib.hid (wvL_len s R C)
  clear hC h3 e0 hCR
  go_enter Try.func52, Try.ntmps52
  go_wp2_with fail
  refine (isBits_c _ _).mono ?_; rintro e w' ⟨rfl, rfl⟩
  rw [h1]
  go_wp2_with fail
  refine (rowsValid_c _ _).mono ?_; rintro e w' ⟨rfl, rfl⟩
  rw [h2]
  clear h1 h2
  go_wp2_with (at_make; refine wp_makeF 22 5 1 (0 : Int) Try.underlying22 info_u8 rfl (by decide) w rfl _ _ rfl .i64 .i64 s.size rfl rfl (by omega) ?_; intro w1 hown hb)
  have hF := FillF.start hown HLL.out (by simp)
  clear hown e1 e2 e3 e4
  go_loopw [33] (fun i wr => ∃ k : Nat, k ≤ s.size ∧ i = .int .i64 k ∧ FillB wr w.heap.size w.heap.size s.size (wvL s R C) (List.replicate s.size 0) k ∧ Below w.heap.size w wr) (fun i _ => s.size - (intOf i).toNat)
  case atStart => exact ⟨0, Nat.zero_le _, rfl, hF, hb⟩
  case round =>
    clear hF hb
    obtain ⟨k, hk, rfl, hF, hb⟩ := hrel
    by_cases hlt : k < s.size
    · obtain ⟨m, hm⟩ : ∃ m, m = k % R := ⟨_, rfl⟩
      obtain ⟨q, hq⟩ : ∃ q, q = k / R := ⟨_, rfl⟩
      obtain ⟨P, hP⟩ : ∃ P, P = m * C := ⟨_, rfl⟩
      obtain ⟨I, hI⟩ : ∃ I, I = P + q := ⟨_, rfl⟩
      have hII : deiI R C k = I := by rw [hI, hP, hm, hq]; rfl
      have hIs : I < s.size := by rw [← hII, ← HCR.out]; exact deiI_lt (by omega) (by rw [HCR.out]; exact hlt)
      have a1 : (k : Int).tmod (R : Int) = (m : Int) := by rw [hm]; rfl
      have a2 : (k : Int) % (R : Int) = (m : Int) := by rw [hm]; rfl
      have a3 : (k : Int).tdiv (R : Int) = (q : Int) := by rw [hq]; rfl
      have a4 : (k : Int) / (R : Int) = (q : Int) := by rw [hq]; rfl
      have hPI : (m : Int) * (C : Int) = (P : Int) := by rw [hP, Int.natCast_mul]
      have hIQ : (P : Int) + (q : Int) = (I : Int) := by rw [hI]; rfl
      have hP6 : P ≤ 100000 := by omega
      have hI6 : I ≤ 100000 := by omega
      have hIs2 : (I : Int) < (s.size : Int) := by omega
      have hk2 : (k : Int) < (s.size : Int) := by omega
      have b1 := wr_nat hPI hP6
      have b2 := wr_nat hIQ hI6
      have hq6 : q ≤ 100000 := by omega
      have b5 : IntKind.i64.wrap (q : Int) = (q : Int) := wr_nat rfl hq6
      obtain ⟨z, hc⟩ := hF.cell hlt
      have hf := hF.free k
      have hst := hF.step hlt (y := .int .u8 (s[I].toNat : Int)) (fun hl => by rw [wvL_get hl, hII, codes_v hIs])
      have hb2 := hF.below hb (.int .u8 (s[I].toNat : Int))
      have hR0 : ¬ (R : Int) = 0 := by omega
      have hR00 : ¬ R = 0 := by omega
      clear hm hq hP hI hII hPI hIQ hF hb
      go_wp2_with fail
      go_still_tail 14, (by kernel_rfl)
      go_wp2_with fail
      clear a1 a2 a3 a4 b1 b2 b5
      go_roundw
      case rel => exact ⟨k + 1, by omega, by go_num, hst, hb2.drew⟩
      case measure => simp [intOf]; omega
    · obtain rfl : k = s.size := by omega
      have hd0 := hF.done (Nat.le_refl _)
      obtain ⟨a1, n1, c1, e1, ho⟩ := hd0.own (by rw [HLL.out]; omega)
      cases e1
      have hrd := ho.rd
      go_wp2_with (with_reducible refine wp_text 22 5 9 Try.underlying22 Try.underlying5 Try.underlying9 _ rfl (.tmp 51) rfl rfl hrd ?_)
      go_ret2
      exact retTB_some (by exact congrArg some HDT.out.symm) hb

set_option maxHeartbeats 800000 in
theorem l6Padded_c (s : ByteArray) (n : Nat) (w : World) (h0 : 0 < n) (hL : s.size ≤ 600) (hn : n ≤ 1000) : Calls Try.prog 58 #[.string s, .int .i64 n] w fun e w' => e = .returned (.string (padT s n)) ∧ w = w' := by
  have hp := padN_lt (L := s.size) h0
  have HP := Lib.hid (show padT s n = s ++ manyT 48 (padN s.size n) from rfl)
  have HE := Lib.hid (pad_emod (L := s.size) h0)
  have hz := manyT_size 48 (padN s.size n)
  go_enter Try.func58, Try.ntmps58
  go_wp2_with fail
  refine (l2Mod_c (-(s.size : Int)) n _ (by omega) (by omega)).mono ?_; rintro e w' ⟨rfl, rfl⟩
  rw [HE.out]
  generalize padN s.size n = z at *
  go_wp2_with fail
  refine (l9ManyC_c 48 z _ (by omega)).mono ?_; rintro e w' ⟨rfl, rfl⟩
  generalize manyT 48 z = Z at *
  go_wp2_with fail
  go_ret
  exact ⟨by rw [HP.out]; rfl, rfl⟩

theorem dei_at {R C k j : Nat} (hj : j < R) : deiI R C (k * R + j) = j * C + k := by
  unfold deiI
  rw [Nat.mul_comm k R, Nat.mul_add_mod, Nat.mod_eq_of_lt hj, Nat.mul_add_div (by omega), Nat.div_eq_of_lt hj, Nat.add_zero]
theorem wv_step {s : ByteArray} {R C k j I : Nat} (hj : j < R) (hk : k < C) (hs : C * R = s.size) (hI : I = j * C + k) (h : I < s.size) : (wvL s R C).take (k * R + j) ++ [(s[I].toNat : Int)] = (wvL s R C).take (k * R + (j + 1)) := by
  have hlt : k * R + j < (wvL s R C).length := by
    rw [wvL_len, ← hs]
    have h1 : (k + 1) * R ≤ C * R := Nat.mul_le_mul_right R hk
    rw [Nat.add_mul, Nat.one_mul] at h1; omega
  rw [show k * R + (j + 1) = k * R + j + 1 from rfl, List.take_succ_eq_append_getElem hlt, wvL_get hlt, dei_at hj]
  subst hI
  rw [codes_v h]
theorem wv_lt {R C k j : Nat} (hj : j < R) (hk : k < C) : j * C + k < C * R := by
  have h1 : (j + 1) * C ≤ R * C := Nat.mul_le_mul_right C hj
  rw [Nat.add_mul, Nat.one_mul] at h1
  rw [Nat.mul_comm C R]; omega
theorem wv_all {s : ByteArray} {R C : Nat} (hs : C * R = s.size) : (wvL s R C).take (C * R) = wvL s R C := List.take_of_length_le (by rw [wvL_len, hs]; exact Nat.le_refl _)

set_option maxRecDepth 100000 in
set_option maxHeartbeats 1600000 in
theorem l6Weave_c (s : ByteArray) (R C : Nat) (w : World) (hCR : C * R = s.size) (hR1 : 1 ≤ R) (hR4 : R ≤ 40) (h6 : s.size ≤ 600) : Calls Try.prog 60 #[.string s, .int .i64 R] w fun e w' => e = .returned (.string (text (wvL s R C))) ∧ Below w.heap.size w w' := by
  have hC : s.size / R = C := by rw [← hCR]; exact Nat.mul_div_cancel _ (by omega)
  have hC6 : C ≤ 600 := by rw [← hC]; exact Nat.le_trans (Nat.div_le_self _ _) h6
  have hne : ((R : Int) == 0) = false := by rw [beq_eq_false_iff_ne]; omega
  have e1 : (s.size : Int).tdiv (R : Int) = (C : Int) := by rw [← hC]; rfl
  have e2 : (s.size : Int) / (R : Int) = (C : Int) := by rw [← hC]; rfl
  have HCR := Lib.hid hCR
  have hR0 : ¬ (R : Int) = 0 := by omega
  have hR00 : ¬ R = 0 := by omega
  clear hC hCR
  go_enter Try.func60, Try.ntmps60
  go_wp2_with (at_make; refine wp_make0B w rfl _ _ rfl .i64 .i64 s.size _ rfl rfl rfl (by omega) ?_; intro w1 ho0 hb0)
  go_loopw [5, 6] (fun o i wr => ∃ k : Nat, k ≤ C ∧ i = .int .i64 k ∧ OwnVB wr w.heap.size o ((wvL s R C).take (k * R)) ∧ Below w.heap.size w wr) (fun _ i _ => C - (intOf i).toNat)
  case atStart => exact ⟨0, Nat.zero_le _, rfl, by rw [Nat.zero_mul]; exact ho0, hb0⟩
  case round =>
    clear ho0 hb0
    obtain ⟨k, hk, rfl, ho, hb⟩ := hrel
    by_cases hlt : k < C
    · obtain ⟨wo, hwo⟩ : ∃ wo, wo = wr := ⟨_, rfl⟩
      subst hwo
      have hkI : (k : Int) < (C : Int) := by omega
      go_wp2_with fail
      go_loopw [5, 7] (fun o i wr => ∃ j : Nat, j ≤ R ∧ i = .int .i64 j ∧ OwnVB wr w.heap.size o ((wvL s R C).take (k * R + j)) ∧ Below w.heap.size w wr) (fun _ i _ => R - (intOf i).toNat)
      case atStart => exact ⟨0, Nat.zero_le _, rfl, ho, hb⟩
      case round =>
        clear ho hb
        obtain ⟨j, hj, rfl, ho, hb⟩ := hrel
        by_cases hjt : j < R
        · obtain ⟨P, hP⟩ : ∃ P, P = j * C := ⟨_, rfl⟩
          obtain ⟨I, hI⟩ : ∃ I, I = P + k := ⟨_, rfl⟩
          have hIs : I < s.size := by rw [← HCR.out, hI, hP]; exact wv_lt hjt hlt
          have HS := Lib.hid (wv_step hjt hlt HCR.out (by rw [hI, hP]) hIs)
          have hPI : (j : Int) * (C : Int) = (P : Int) := by rw [hP, Int.natCast_mul]
          have hIQ : (P : Int) + (k : Int) = (I : Int) := by rw [hI]; rfl
          have hP6 : P ≤ 100000 := by omega
          have hI6 : I ≤ 100000 := by omega
          have hIs2 : (I : Int) < (s.size : Int) := by omega
          have hj2 : (j : Int) < (R : Int) := by omega
          have b1 := wr_nat hPI hP6
          have b2 := wr_nat hIQ hI6
          have b3 := wr64_nat hPI hP6
          have b4 := wr64_nat hIQ hI6
          have hzb := hb.size
          have hln : ((wvL s R C).take (k * R + j)).length ≤ 600 := by rw [List.length_take, wvL_len]; omega
          have HL := Lib.hid hln
          have ho4 : OwnVB (wr.alloc (.cells #[.int .u8 (s[I].toNat : Int)] 5)) w.heap.size _ ((wvL s R C).take (k * R + j)) := OwnVF.below ho ((Below.refl wr.heap.size wr).alloc (Nat.le_refl _) _)
          have hrl : RdB (wr.alloc (.cells #[.int .u8 (s[I].toNat : Int)] 5)) (some ⟨wr.heap.size, 0, none⟩) 1 [(s[I].toNat : Int)] := rdB_lit wr [(s[I].toNat : Int)] 5 _ _ rfl rfl (by simp)
          clear hP hI hPI hIQ hln ho
          go_wp2_with (at_builtin; refine wp_appSB (wr.alloc (.cells #[.int .u8 (s[I].toNat : Int)] 5)) rfl (.tmp 24) (.tmp 35) rfl w.heap.size _ ((wvL s R C).take (k * R + j)) [(s[I].toNat : Int)] _ 1 1 rfl (by exact ho4) rfl (by exact hrl) (by intro e; cases e) (by have := HL.out; omega) (by simp; omega) ?_; intro v5 w5 ho5 hb5)
          rw [HS.out] at ho5
          have hbz := (hb.alloc hzb (.cells #[.int .u8 (s[I].toNat : Int)] 5)).trans hb5
          clear ho4 hrl b1 b2 b3 b4
          go_roundw
          case rel => exact ⟨j + 1, by omega, by go_num, ho5, hbz⟩
          case measure => simp [intOf]; omega
        · obtain rfl : j = R := by omega
          go_wp2_with fail
          go_roundw
          case rel => exact ⟨k + 1, by omega, by go_num, by rw [Nat.add_mul, Nat.one_mul]; exact ho, hb⟩
          case measure => simp [intOf]; omega
    · obtain rfl : k = C := by omega
      rw [wv_all HCR.out] at ho
      obtain ⟨a2, n2, c2, hv, ho2⟩ := OwnVF.own ho (by rw [wvL_len]; omega)
      subst hv
      have hrd := ho2.rd
      go_wp2_with (with_reducible refine wp_text 22 5 9 Try.underlying22 Try.underlying5 Try.underlying9 _ rfl (.tmp 37) rfl rfl hrd ?_)
      go_ret
      exact ⟨rfl, hb⟩

end Go.Proofs.Ytadcckjlcmnhbaa
