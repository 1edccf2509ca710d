/- HammingDecode of the program. No condition beyond lengths. -/
import Derived.Test.YtadcckjlcmnhbaaKw
import Derived.Test.YtadcckjlcmnhbaaEd
namespace Go.Proofs.Ytadcckjlcmnhbaa
open Go.RowKit

theorem wp_appSB {ops : Array Oper} {rest : List Oper} {o : Oper} {a : Act} {Q : Exit → Act → World → Prop} (wr : World) (hgd : o.guard = none) (s x : Operand)
    (ho : o.op = .call { callee := .builtin .append, args := #[s, x], argTypes := #[22, 22] })
    (lo : Nat) (v : Value) (l r : List Int) (ao : Option Addr) (m c : Nat) (hs : a.eval s = v) (hown : OwnVB wr lo v l) (hx : a.eval x = .slice ao m c) (hr : RdB wr ao m r)
    (hc : ao = none → c = 0) (hlen : l.length + m ≤ 1099511627776) (hlo : lo ≤ wr.heap.size)
    (h : ∀ v' w', OwnVB w' lo v' (l ++ r) → Below lo wr w' → wpList Try.prog ops Q rest (a.put o.dst v') w') :
    wpList Try.prog ops Q (o :: rest) a wr :=
  wpList_plain hgd fun _ hK => op_appSF 22 5 1 (0 : Int) Try.underlying22 info_u8 rfl (by decide) (fun _ => rfl) wr s x ho lo v l r ao m c hs hown hx hr hc hlen hlo fun v' w' h2 _ h4 => hK _ _ (h v' w' h2 h4)
theorem step_appSB {ops : Array Oper} {o : Oper} {a : Act} {K : Act → World → Prop} {Q : Exit → Act → World → Prop} {E : Prop} (wr : World) (hgd : o.guard = none) (s x : Operand)
    (ho : o.op = .call { callee := .builtin .append, args := #[s, x], argTypes := #[22, 22] })
    (lo : Nat) (v : Value) (l r : List Int) (ao : Option Addr) (m c : Nat) (hs : a.eval s = v) (hown : OwnVB wr lo v l) (hx : a.eval x = .slice ao m c) (hr : RdB wr ao m r)
    (hc : ao = none → c = 0) (hlen : l.length + m ≤ 1099511627776) (hlo : lo ≤ wr.heap.size)
    (h : ∀ v' w', OwnVB w' lo v' (l ++ r) → Below lo wr w' → K (a.put o.dst v') w') :
    if Region.wanted o (yielded ops a.tmps) = true then Oper.wp Try.prog o a wr K Q else E := by
  have hw : Region.wanted o (yielded ops a.tmps) = true := by simp [Region.wanted, hgd]
  rw [if_pos hw]
  exact op_appSF 22 5 1 (0 : Int) Try.underlying22 info_u8 rfl (by decide) (fun _ => rfl) wr s x ho lo v l r ao m c hs hown hx hr hc hlen hlo fun v' w' h2 _ h4 => h v' w' h2 h4
theorem rdB_lit (w : World) (l : List Int) (t : TypeId) (b n : Nat) (hb : b = w.heap.size) (hn : n = l.length) (hs : l.length ≤ 1099511627776) : RdB (w.alloc (.cells (l.map (Value.int .u8)).toArray t)) (some ⟨b, 0, none⟩) n l := by
  subst hb hn
  refine ⟨rfl, hs, fun i hi => ⟨w.heap.size, 0, rfl, ?_⟩⟩
  rw [Nat.zero_add]
  exact (Box.new w _ t).cell (by simp [hi])
theorem xor1 {v : Int} (h : v = 48 ∨ v = 49) : bits .xor .u8 v 1 = 97 - v := by rcases h with rfl | rfl <;> decide
/-- One more block, as bytes. -/
theorem decT_codes (s : ByteArray) (k : Nat) {Y : ByteArray} (hY : Y = fixB (s.extract (k * 7) (k * 7 + 7))) (hz : Y.size = 7) (h2 : 2 < (codes Y).length) (h4 : 4 < (codes Y).length) (h5 : 5 < (codes Y).length) (h6 : 6 < (codes Y).length) :
    codes (decT s k) ++ [(codes Y)[2], (codes Y)[4], (codes Y)[5], (codes Y)[6]] = codes (decT s (k + 1)) := by
  rw [decT, codes_ap, ← codes_dec hz h2 h4 h5 h6, hY]; rfl
theorem list7 {L : List Int} (h : L.length = 7) : ∃ a b c d e f g, L = [a, b, c, d, e, f, g] := by
  match L, h with
  | [a, b, c, d, e, f, g], _ => exact ⟨a, b, c, d, e, f, g, rfl⟩
theorem dec_list (s : ByteArray) (k : Nat) {Y : ByteArray} (hY : Y = fixB (s.extract (k * 7) (k * 7 + 7))) (hz : Y.size = 7) {y0 y1 y2 y3 y4 y5 y6 : Int} (h : codes Y = [y0, y1, y2, y3, y4, y5, y6]) :
    codes (decT s k) ++ [y2, y4, y5, y6] = codes (decT s (k + 1)) := by
  have := decT_codes s k hY hz (by rw [h]; simp) (by rw [h]; simp) (by rw [h]; simp) (by rw [h]; simp)
  simp only [h] at this
  exact this

set_option maxRecDepth 100000 in
set_option maxHeartbeats 1600000 in
theorem HammingDecode_c (s : ByteArray) (w : World) : Calls Try.prog 62 #[.string s] w (RetPF w (hamR s)) := by
  by_cases h1 : bitsB s = true
  · have h6 := bits_le h1
    obtain ⟨m, hm⟩ : ∃ m, m = s.size % 7 := ⟨_, rfl⟩
    have e1 : (s.size : Int).tmod 7 = (m : Int) := by rw [hm]; rfl
    have e2 : (s.size : Int) % 7 = (m : Int) := by rw [hm]; rfl
    by_cases h2 : m = 0
    · have hr := Lib.hid (hamR_yes h1 (by omega))
      obtain ⟨M, hM⟩ : ∃ M, M = s.size / 7 := ⟨_, rfl⟩
      rw [← hM] at hr
      have hM7 : M * 7 = s.size := by omega
      have HM := Lib.hid hM7
      have HA := Lib.hid (bits_all h1)
      have e3 : (s.size : Int).tmod 7 = 0 := by rw [e1, h2]; rfl
      have e4 : (s.size : Int) % 7 = 0 := by rw [e2, h2]; rfl
      have e5 : (s.size : Int).tdiv 7 = (M : Int) := by rw [hM]; rfl
      have e6 : (s.size : Int) / 7 = (M : Int) := by rw [hM]; rfl
      have hM86 : M ≤ 86 := by omega
      clear hm hM hM7 e1 e2 h2
      go_enter Try.func62, Try.ntmps62
      go_wp2_with fail
      refine (isBits_c _ _).mono ?_; rintro e w' ⟨rfl, rfl⟩
      rw [h1]
      clear h1
      go_wp2_with (at_make; refine wp_make0B w rfl _ _ rfl .i64 .i64 (M * 4) _ rfl rfl rfl (by omega) ?_; intro w1 ho0 hb0)
      clear e3 e4 e5 e6
      go_wp2_with fail
      go_loopw [5, 6, 7] (fun o n i wr => ∃ k P : Nat, k ≤ M ∧ Hid (P = k * 7) ∧ i = .int .i64 P ∧ OwnVB wr w.heap.size o (codes (decT s k)) ∧ n = .int .i64 (decN s k : Nat) ∧ Below w.heap.size w wr) (fun _ _ i _ => s.size - (intOf i).toNat)
      case atStart => exact ⟨0, 0, Nat.zero_le _, Lib.hid rfl, rfl, ho0, rfl, hb0⟩
      case round =>
        clear ho0 hb0
        obtain ⟨k, P, hk, HP, rfl, ho, rfl, hb⟩ := hrel
        have hdn := decN_le s k
        have hP := HP.out
        have hMM := HM.out
        by_cases hlt : k < M
        · have hPs : P + 7 ≤ s.size := by omega
          have hdz := decT_size (s := s) k (by omega)
          obtain ⟨Q, hQ⟩ : ∃ Q, Q = P + 7 := ⟨_, rfl⟩
          have hQI : (P : Int) + 7 = (Q : Int) := by rw [hQ]; rfl
          have HPQ := Lib.hid (show Q = (k + 1) * 7 by omega)
          obtain ⟨X, hX⟩ : ∃ X, X = s.extract P Q := ⟨_, rfl⟩
          have hXz : X.size = 7 := by rw [hX, ex_size (by omega)]; omega
          have hXB : allS bitC X = true := by rw [hX]; exact allS_ex P Q HA.out
          have hX2 : X = s.extract (k * 7) (k * 7 + 7) := by rw [hX, hQ, hP]
          have HX := Lib.hid hX
          have HXB := Lib.hid hXB
          have HX2 := Lib.hid hX2
          have hsy := synK_lt X 7 (Nat.le_refl _)
          have hPQ : P ≤ Q := by omega
          have hQs : Q ≤ s.size := by omega
          have hzb := hb.size
          have hk6 : k ≤ 600 := by omega
          clear hP hMM hQ hX hXB hX2
          have hcl : (codes X).length = 7 := by rw [codes_length]; exact hXz
          go_wp2_with (first | (with_reducible refine wp_bytes 9 22 5 Try.underlying9 Try.underlying22 Try.underlying5 _ rfl (.tmp 34) rfl (s.extract P Q) rfl ?_; rw [← HX.out]; intro w2 cc hrow hb2 hsz2 hcc; have hrd2 := hrow.rd (n := 7) hcl.symm (by omega)) | (with_reducible refine wp_text 22 5 9 Try.underlying22 Try.underlying5 Try.underlying9 _ rfl (.tmp 36) rfl rfl hrd2 ?_; rw [text_codes]))
          refine (syndromeOf_c X _ (by omega)).mono ?_; rintro e w' ⟨rfl, rfl⟩
          rw [hXz]
          by_cases hy : 0 < synK X 7
          · have HN := Lib.hid (show decN s (k + 1) = decN s k + 1 by rw [decN, ← HX2.out, if_pos hy])
            have HY := Lib.hid (show fixB X = flipT X (synK X 7 - 1) by unfold fixB; rw [if_pos hy])
            obtain ⟨p, hp⟩ : ∃ p, p = synK X 7 := ⟨_, rfl⟩
            rw [← hp] at hy hsy HY
            rw [← hp]
            clear hp
            obtain ⟨q, rfl⟩ : ∃ q, p = q + 1 := ⟨p - 1, by omega⟩
            have hq : q < (codes X).length := by omega
            have hc1 := hrow.cell hq
            have hf1 := hrow.free hq
            have hbit := codes_bits HXB.out _ (List.getElem_mem hq)
            have HFL := Lib.hid (codes_flip (X := X) (q := q) (by omega) HXB.out)
            have HF := Lib.hid (show fixB X = flipT X q by rw [HY.out, Nat.add_sub_cancel])
            generalize hvv : (codes X)[q] = v at *
            have hx1 := xor1 hbit
            have hrow3 := hrow.set (i := q) (97 - v)
            have hb3 := hrow.belowSet hb2 q (.int .u8 (97 - v))
            rw [← HFL.out] at hrow3
            have ho3 := OwnVF.below ho hb3
            have hqI : ((q + 1 : Nat) : Int) - 1 = (q : Int) := by omega
            have hq7 : (q : Int) < 7 := by omega
            clear hvv hbit hrow hb2 ho hrd2
            have hYz : (flipT X q).size = 7 := by rw [flip_size (by omega)]; exact hXz
            have HT : Hid (∀ y0 y1 y2 y3 y4 y5 y6 : Int, codes (flipT X q) = [y0, y1, y2, y3, y4, y5, y6] → codes (decT s k) ++ [y2, y4, y5, y6] = codes (decT s (k + 1))) := Lib.hid (fun _ _ _ _ _ _ _ h => dec_list s k (by rw [← HF.out, HX2.out]) hYz h)
            obtain ⟨y0, y1, y2, y3, y4, y5, y6, hL⟩ := list7 (L := codes (flipT X q)) (by rw [codes_length]; exact hYz)
            have HL := Lib.hid (HT.out _ _ _ _ _ _ _ hL)
            rw [hL] at hrow3
            clear hL HT hYz HFL HF
            have c2 : _ = some (Value.int .u8 y2) := hrow3.cell (i := 2) (by simp)
            have c4 : _ = some (Value.int .u8 y4) := hrow3.cell (i := 4) (by simp)
            have c5 : _ = some (Value.int .u8 y5) := hrow3.cell (i := 5) (by simp)
            have c6 : _ = some (Value.int .u8 y6) := hrow3.cell (i := 6) (by simp)
            have hsw : (w2.setCell ⟨wr.heap.size, q, none⟩ (.int .u8 (97 - v))).drew.heap.size = wr.heap.size + 1 := by simp [hsz2]
            have hlw : w.heap.size ≤ ((w2.setCell ⟨wr.heap.size, q, none⟩ (.int .u8 (97 - v))).drew.alloc (.cells #[.int .u8 y2, .int .u8 y4, .int .u8 y5, .int .u8 y6] 5)).heap.size := by have := hb.size; simp; omega
            have ho4 : OwnVB ((w2.setCell ⟨wr.heap.size, q, none⟩ (.int .u8 (97 - v))).drew.alloc (.cells #[.int .u8 y2, .int .u8 y4, .int .u8 y5, .int .u8 y6] 5)) w.heap.size _ (codes (decT s k)) := OwnVF.below ho3 (((Below.refl ((w2.setCell ⟨wr.heap.size, q, none⟩ (.int .u8 (97 - v)))).heap.size ((w2.setCell ⟨wr.heap.size, q, none⟩ (.int .u8 (97 - v))))).drew).alloc (Nat.le_refl _) _)
            have hrl : RdB ((w2.setCell ⟨wr.heap.size, q, none⟩ (.int .u8 (97 - v))).drew.alloc (.cells #[.int .u8 y2, .int .u8 y4, .int .u8 y5, .int .u8 y6] 5)) (some ⟨wr.heap.size + 1, 0, none⟩) 4 [y2, y4, y5, y6] := rdB_lit ((w2.setCell ⟨wr.heap.size, q, none⟩ (.int .u8 (97 - v)))).drew [y2, y4, y5, y6] 5 _ _ hsw.symm rfl (by simp)
            go_wp2_with fail
            go_region_law (first | (refine step_appSB ((w2.setCell ⟨wr.heap.size, q, none⟩ (.int .u8 (97 - v))).drew.alloc (.cells #[.int .u8 y2, .int .u8 y4, .int .u8 y5, .int .u8 y6] 5)) rfl (.tmp 50) (.tmp 63) rfl w.heap.size _ (codes (decT s k)) [y2, y4, y5, y6] _ 4 4 rfl (by exact ho4) rfl (by exact hrl) (by intro e; cases e) (by rw [codes_length]; omega) (by exact hlw) ?_; intro v5 w5 ho5 hb5))
            all_goals
              rw [HL.out] at ho5
              have hbz := (((hb.trans (hb3.mono hb.size)).drew).alloc (by rw [hsw]; have := hb.size; omega) _).trans hb5
              go_wp2_with fail
              go_roundw
              case rel => exact ⟨k + 1, Q, by omega, HPQ, rfl, ho5, by rw [HN.out]; go_num, hbz⟩
              case measure => simp [intOf]; omega
          · have hy0 : synK X 7 = 0 := by omega
            have HN := Lib.hid (show decN s (k + 1) = decN s k by rw [decN, ← HX2.out, if_neg hy])
            have HF := Lib.hid (show fixB X = X by unfold fixB; rw [if_neg hy])
            rw [hy0]
            clear hy hsy hy0
            have HT : Hid (∀ y0 y1 y2 y3 y4 y5 y6 : Int, codes X = [y0, y1, y2, y3, y4, y5, y6] → codes (decT s k) ++ [y2, y4, y5, y6] = codes (decT s (k + 1))) := Lib.hid (fun _ _ _ _ _ _ _ h => dec_list s k (by rw [← HX2.out, HF.out]) hXz h)
            obtain ⟨y0, y1, y2, y3, y4, y5, y6, hL⟩ := list7 (L := codes X) hcl
            have HL := Lib.hid (HT.out _ _ _ _ _ _ _ hL)
            rw [hL] at hrow
            clear hL HT HF hrd2
            have c2 : _ = some (Value.int .u8 y2) := hrow.cell (i := 2) (by simp)
            have c4 : _ = some (Value.int .u8 y4) := hrow.cell (i := 4) (by simp)
            have c5 : _ = some (Value.int .u8 y5) := hrow.cell (i := 5) (by simp)
            have c6 : _ = some (Value.int .u8 y6) := hrow.cell (i := 6) (by simp)
            have ho3 := OwnVF.below ho hb2
            clear ho
            have hsw : w2.drew.heap.size = wr.heap.size + 1 := by simp [hsz2]
            have hlw : w.heap.size ≤ (w2.drew.alloc (.cells #[.int .u8 y2, .int .u8 y4, .int .u8 y5, .int .u8 y6] 5)).heap.size := by have := hb.size; simp; omega
            have hb3 := hb2
            have ho4 : OwnVB (w2.drew.alloc (.cells #[.int .u8 y2, .int .u8 y4, .int .u8 y5, .int .u8 y6] 5)) w.heap.size _ (codes (decT s k)) := OwnVF.below ho3 (((Below.refl (w2).heap.size (w2)).drew).alloc (Nat.le_refl _) _)
            have hrl : RdB (w2.drew.alloc (.cells #[.int .u8 y2, .int .u8 y4, .int .u8 y5, .int .u8 y6] 5)) (some ⟨wr.heap.size + 1, 0, none⟩) 4 [y2, y4, y5, y6] := rdB_lit (w2).drew [y2, y4, y5, y6] 5 _ _ hsw.symm rfl (by simp)
            go_wp2_with fail
            go_region_law (first | (refine step_appSB (w2.drew.alloc (.cells #[.int .u8 y2, .int .u8 y4, .int .u8 y5, .int .u8 y6] 5)) rfl (.tmp 50) (.tmp 63) rfl w.heap.size _ (codes (decT s k)) [y2, y4, y5, y6] _ 4 4 rfl (by exact ho4) rfl (by exact hrl) (by intro e; cases e) (by rw [codes_length]; omega) (by exact hlw) ?_; intro v5 w5 ho5 hb5))
            all_goals
              rw [HL.out] at ho5
              have hbz := (((hb.trans (hb3.mono hb.size)).drew).alloc (by rw [hsw]; have := hb.size; omega) _).trans hb5
              go_wp2_with fail
              go_roundw
              case rel => exact ⟨k + 1, Q, by omega, HPQ, rfl, ho5, by rw [HN.out], hbz⟩
              case measure => simp [intOf]; omega
        · obtain rfl : k = M := by omega
          have hnl : ¬ (P : Int) < (s.size : Int) := by omega
          clear hP hMM
          obtain ⟨a2, n2, c2, hv, ho2⟩ := OwnVF.own ho (by rw [codes_length, decT_size k (by rw [HM.out]; exact Nat.le_refl _)]; omega)
          subst hv
          have hrd := ho2.rd
          go_wp2_with (with_reducible refine wp_text 22 5 9 Try.underlying22 Try.underlying5 Try.underlying9 _ rfl (.tmp 65) rfl rfl hrd ?_)
          go_ret3
          rw [text_codes]
          exact retPF_some hr.out rfl hb
    · have hr := Lib.hid (hamR_no2 (s := s) (by omega))
      have hm0 : ((m : Int) == 0) = false := by rw [beq_eq_false_iff_ne]; omega
      clear hm h2
      go_enter Try.func62, Try.ntmps62
      go_wp2_with fail
      refine (isBits_c _ _).mono ?_; rintro e w' ⟨rfl, rfl⟩
      rw [h1]
      go_wp2_with fail
      go_ret3
      exact retPF_none hr.out (Below.refl _ _)
  · have h1' : bitsB s = false := by simpa using h1
    have hr := Lib.hid (hamR_no1 h1')
    clear h1
    go_enter Try.func62, Try.ntmps62
    go_wp2_with fail
    refine (isBits_c _ _).mono ?_; rintro e w' ⟨rfl, rfl⟩
    rw [h1']
    go_wp2_with fail
    go_ret3
    exact retPF_none hr.out (Below.refl _ _)

end Go.Proofs.Ytadcckjlcmnhbaa
