/- AllFrames of the program and of the reference; ssTexts, ssZeros. No condition beyond lengths. -/
import Derived.Test.YtaoahgngpjoekaaKg
import Derived.Test.YtaoahgngpjoekaaEd
namespace Go.Proofs.Ytaoahgngpjoekaa
open Go.RowKit

/-- The post of a function that hands back texts of its own. -/
def RetTs (w : World) (l : List ByteArray) (e : Ending) (w' : World) : Prop := ∃ ao n c, e = .returned (.slice ao n c) ∧ OwnT w' w.heap.size ao n c l ∧ Below w.heap.size w w'

/-- The measure of the loop over all frames. -/
def atM (z : Nat) (i : Value) : Nat := if intOf i < 0 then 0 else z + 1 - (intOf i).toNat
theorem atM_lt {z v : Nat} {y : Int} (hv : v < z) (h : y = -1 ∨ ∃ v2 : Nat, y = v2 ∧ v < v2) : atM z (.int .i64 y) < atM z (.int .i64 (v : Int)) := by
  unfold atM
  rw [show intOf (.int .i64 y) = y from rfl, show intOf (.int .i64 (v : Int)) = (v : Int) from rfl, if_neg (show ¬ ((v : Int) < 0) by omega)]
  rcases h with rfl | ⟨v2, rfl, h⟩
  · rw [if_pos (by omega)]; omega
  · rw [if_neg (by omega)]; omega

set_option maxRecDepth 100000 in
set_option maxHeartbeats 800000 in
theorem AllFrames_c (s : ByteArray) (w : World) (hs : s.size ≤ 1000000) : Calls Try.prog 20 #[.string s] w (RetTs w (allR s)) := by
  have hov : OwnVT (w.alloc (.cells #[] 9)) w.heap.size (.slice (some ⟨w.heap.size, 0, none⟩) 0 0) [] := OwnVF.made0 _ _ w (Nat.le_refl _)
  have hb0 : Below w.heap.size w (w.alloc (.cells #[] 9)) := (Below.refl _ _).alloc (Nat.le_refl _) _
  go_enter Try.func20, Try.ntmps20
  go_wp2_with fail
  refine (FindFrame_c s 0 _).mono ?_; rintro e w1 ⟨rfl, hb1⟩
  have ho1 := hov.below hb1
  have hbA := hb0.trans (hb1.mono hb0.size)
  clear hov hb0 hb1
  go_wp2_with fail
  go_loopw [3, 4] (fun v i wr => ∃ (a f : Nat) (l : List ByteArray), i = .int .i64 (findR s (a : Nat)) ∧ Hid (allR s = l ++ allL s f a) ∧ s.size + 1 ≤ f + a ∧ l.length ≤ a ∧ a ≤ s.size ∧ OwnVT wr w.heap.size v l ∧ Below w.heap.size w wr) (fun _ i _ => atM s.size i)
  case atStart => exact ⟨0, s.size + 1, [], rfl, Lib.hid rfl, by omega, Nat.le_refl _, Nat.zero_le _, ho1, hbA⟩
  case round =>
    clear ho1 hbA
    obtain ⟨a, f, l, rfl, HL, hfa, hla, has, ho, hb⟩ := hrel
    have hfi := find_is (s := s) (a := (a : Int))
    rcases hfi with hf | ⟨v, p, n, hf, h0, hav, hvs, hq, hn1, hn2, hpay⟩
    · have HS := Lib.hid (allL_stop (s := s) (a := a) (by omega) f)
      rw [hf]
      clear hf
      obtain ⟨a2, n2, c2, hv, ho2⟩ := ho.own (by omega)
      subst hv
      go_wp2_with fail
      go_ret
      exact ⟨a2, n2, c2, rfl, by rw [HL.out, HS.out, List.append_nil]; exact ho2, hb⟩
    · have HS := Lib.hid (allL_step (f := f) (by omega) hf hq)
      have HQ := Lib.hid hq
      have hbt : bitsB s = true := by obtain ⟨_, _, _, _, _, _, h⟩ := parse_is hq; exact h
      have h600 := bits_le hbt
      have hav2 : a ≤ v := by omega
      rw [hf]
      have hzr := hb.size
      have hvn : v + 23 ≤ n := by omega
      clear hf hq hpay hbt h0 hav hn1
      go_wp2_with fail
      refine (ParseFrame_c s (v : Int) _).mono ?_; rintro e w3 ⟨rfl, hb3⟩
      have ho3 := ho.below hb3
      have hbA := hb.trans (hb3.mono hzr)
      clear ho hb hb3
      rw [HQ.out]
      simp only [Option.map_some, Option.getD_some, Option.isSome_some]
      have hz3 := hbA.size
      go_wp2_with (at_builtin; refine wp_app1F 32 9 16 ByteArray.empty Try.underlying32 info_str rfl (by decide) (fun _ => rfl) w3 rfl _ _ rfl w.heap.size _ _ _ rfl (by exact ho3) rfl (by omega) hz3 ?_; intro v' w4 ho4 _ hb4)
      have hb5 := hbA.trans hb4
      clear hbA hb4 ho3
      go_wp2_with fail
      refine (FindFrame_c s (n : Int) _).mono ?_; rintro e w5 ⟨rfl, hb6⟩
      have ho6 := ho4.below hb6
      have hb7 := hb5.trans (hb6.mono hb5.size)
      clear ho4 hb5 hb6
      go_wp2_with fail
      go_roundw
      case rel => exact ⟨n, f - 1, l ++ [p], rfl, Lib.hid (by rw [HL.out, HS.out]; simp), by omega, by simp; omega, hn2, ho6, hb7⟩
      case measure =>
        show atM s.size (.int .i64 (findR s (n : Int))) < atM s.size (.int .i64 (v : Int))
        exact atM_lt hvs (by
          rcases find_is (s := s) (a := (n : Int)) with hf | ⟨v2, p2, n2, hf, h0, hav3, hvs2, _⟩
          · exact .inl hf
          · exact .inr ⟨v2, hf, by omega⟩)

set_option maxRecDepth 100000 in
set_option maxHeartbeats 800000 in
theorem sAllFrames_c (s : ByteArray) (w : World) (hs : s.size ≤ 1000000) : Calls Try.prog 22 #[.string s] w (RetTs w (allR s)) := by
  have hov : OwnVT (w.alloc (.cells #[] 9)) w.heap.size (.slice (some ⟨w.heap.size, 0, none⟩) 0 0) [] := OwnVF.made0 _ _ w (Nat.le_refl _)
  have hb0 : Below w.heap.size w (w.alloc (.cells #[] 9)) := (Below.refl _ _).alloc (Nat.le_refl _) _
  go_enter Try.func22, Try.ntmps22
  go_wp2_with fail
  refine (sFindFrame_c s 0 _ (by omega)).mono ?_; rintro e w1 ⟨rfl, hb1⟩
  have ho1 := hov.below hb1
  have hbA := hb0.trans (hb1.mono hb0.size)
  clear hov hb0 hb1
  go_wp2_with fail
  go_loopw [3, 4] (fun v i wr => ∃ (a f : Nat) (l : List ByteArray), i = .int .i64 (findR s (a : Nat)) ∧ Hid (allR s = l ++ allL s f a) ∧ s.size + 1 ≤ f + a ∧ l.length ≤ a ∧ a ≤ s.size ∧ OwnVT wr w.heap.size v l ∧ Below w.heap.size w wr) (fun _ i _ => atM s.size i)
  case atStart => exact ⟨0, s.size + 1, [], rfl, Lib.hid rfl, by omega, Nat.le_refl _, Nat.zero_le _, ho1, hbA⟩
  case round =>
    clear ho1 hbA
    obtain ⟨a, f, l, rfl, HL, hfa, hla, has, ho, hb⟩ := hrel
    have hfi := find_is (s := s) (a := (a : Int))
    rcases hfi with hf | ⟨v, p, n, hf, h0, hav, hvs, hq, hn1, hn2, hpay⟩
    · have HS := Lib.hid (allL_stop (s := s) (a := a) (by omega) f)
      rw [hf]
      clear hf
      obtain ⟨a2, n2, c2, hv, ho2⟩ := ho.own (by omega)
      subst hv
      go_wp2_with fail
      go_ret
      exact ⟨a2, n2, c2, rfl, by rw [HL.out, HS.out, List.append_nil]; exact ho2, hb⟩
    · have HS := Lib.hid (allL_step (f := f) (by omega) hf hq)
      have HQ := Lib.hid hq
      have hbt : bitsB s = true := by obtain ⟨_, _, _, _, _, _, h⟩ := parse_is hq; exact h
      have h600 := bits_le hbt
      have hav2 : a ≤ v := by omega
      rw [hf]
      have hzr := hb.size
      have hvn : v + 23 ≤ n := by omega
      clear hf hq hpay hbt h0 hav hn1
      go_wp2_with fail
      refine (sParseFrame_c s (v : Int) _ (by omega)).mono ?_; rintro e w3 ⟨rfl, hb3⟩
      have ho3 := ho.below hb3
      have hbA := hb.trans (hb3.mono hzr)
      clear ho hb hb3
      rw [HQ.out]
      simp only [Option.map_some, Option.getD_some, Option.isSome_some]
      have hz3 := hbA.size
      go_wp2_with (at_builtin; refine wp_app1F 32 9 16 ByteArray.empty Try.underlying32 info_str rfl (by decide) (fun _ => rfl) w3 rfl _ _ rfl w.heap.size _ _ _ rfl (by exact ho3) rfl (by omega) hz3 ?_; intro v' w4 ho4 _ hb4)
      have hb5 := hbA.trans hb4
      clear hbA hb4 ho3
      go_wp2_with fail
      refine (sFindFrame_c s (n : Int) _ (by omega)).mono ?_; rintro e w5 ⟨rfl, hb6⟩
      have ho6 := ho4.below hb6
      have hb7 := hb5.trans (hb6.mono hb5.size)
      clear ho4 hb5 hb6
      go_wp2_with fail
      go_roundw
      case rel => exact ⟨n, f - 1, l ++ [p], rfl, Lib.hid (by rw [HL.out, HS.out]; simp), by omega, by simp; omega, hn2, ho6, hb7⟩
      case measure =>
        show atM s.size (.int .i64 (findR s (n : Int))) < atM s.size (.int .i64 (v : Int))
        exact atM_lt hvs (by
          rcases find_is (s := s) (a := (n : Int)) with hf | ⟨v2, p2, n2, hf, h0, hav3, hvs2, _⟩
          · exact .inl hf
          · exact .inr ⟨v2, hf, by omega⟩)

set_option maxHeartbeats 800000 in
theorem ssTexts_c {ao bo : Option Addr} {n m c d : Nat} {l : List ByteArray} {w : World} (h : RdT w ao n l) (h' : RdT w bo m l) :
    Calls Try.prog 21 #[.slice ao n c, .slice bo m d] w fun e w' => e = .returned (.bool true) ∧ Qw w w' := by
  have hs := h.2.1
  obtain rfl : n = m := by rw [h.1, h'.1]
  go_enter Try.func21, Try.ntmps21
  go_wp2_with fail
  go_loopw [5] (fun i wr => ∃ k : Nat, k ≤ n ∧ i = .int .i64 k ∧ Qw w wr) (fun i _ => n - (intOf i).toNat)
  case atStart => exact ⟨0, Nat.zero_le _, rfl, Qw.refl _⟩
  case round =>
    obtain ⟨k, hk, rfl, hq⟩ := hrel
    by_cases hlt : k < n
    · obtain ⟨b1, o1, rfl, hl, hc⟩ := (h.qw hq).at hlt
      obtain ⟨b2, o2, rfl, hl', hc'⟩ := (h'.qw hq).at hlt
      clear h h'
      go_wp2_with fail
      go_quiet (fail)
      go_wp2_with fail
      go_roundw
      case rel => exact ⟨k + 1, by omega, by go_num, hq.trans (Qw.drewN _ _)⟩
      case measure => simp [intOf]; omega
    · go_wp2_with fail
      go_ret
      exact ⟨rfl, hq⟩

/-- n zeros. -/
def zerosT (n : Nat) : ByteArray := text (List.replicate n 48)
theorem zerosT_size (n : Nat) : (zerosT n).size = n := by unfold zerosT; rw [text_size, List.length_replicate]
theorem zerosT_bits (n : Nat) : allS bitC (zerosT n) = true := by
  unfold allS zerosT text
  rw [List.all_eq_true]
  intro c hc
  simp only [List.mem_map] at hc
  obtain ⟨x, hx, rfl⟩ := hc
  rw [List.eq_of_mem_replicate hx]; rfl
set_option maxHeartbeats 800000 in
theorem ssZeros_c (n : Nat) (w : World) (hn : n ≤ 1000) : Calls Try.prog 23 #[.int .i64 n] w fun e w' => e = .returned (.string (zerosT n)) ∧ Below w.heap.size w w' := by
  go_enter Try.func23, Try.ntmps23
  go_wp2_with (at_make; refine wp_make0B w rfl _ _ rfl .i64 .i64 n _ rfl rfl rfl (by omega) ?_; intro w1 ho0 hb0)
  go_loopw [3, 4] (fun v i wr => ∃ k : Nat, k ≤ n ∧ i = .int .i64 (k : Nat) ∧ OwnVB wr w.heap.size v (List.replicate k (48 : Int)) ∧ Below w.heap.size w wr) (fun _ i _ => n - (intOf i).toNat)
  case atStart => exact ⟨0, Nat.zero_le _, rfl, ho0, hb0⟩
  case round =>
    clear ho0 hb0
    obtain ⟨k, hk, rfl, ho, hb⟩ := hrel
    have hz := hb.size
    by_cases hlt : k < n
    · have hkl : (List.replicate k (48 : Int)).length = k := List.length_replicate
      have HR := Lib.hid (show List.replicate k (48 : Int) ++ [48] = List.replicate (k + 1) 48 by rw [List.replicate_succ'])
      go_wp2_with (at_builtin; refine wp_app1F 22 5 1 (0 : Int) Try.underlying22 info_u8 rfl (by decide) (fun _ => rfl) wr rfl _ _ rfl w.heap.size _ (List.replicate k (48 : Int)) 48 rfl (by exact ho) rfl (by omega) hz ?_; intro v' w5 ho3 _ hb5)
      rw [HR.out] at ho3
      go_roundw
      case rel => exact ⟨k + 1, by omega, by go_num, ho3, hb.trans hb5⟩
      case measure => simp [intOf]; omega
    · obtain rfl : k = n := by omega
      obtain ⟨a2, n2, c2, hv, ho2⟩ := OwnVF.own ho (by rw [List.length_replicate]; omega)
      subst hv
      have hrd := ho2.rd
      go_wp2_with (with_reducible refine wp_text 22 5 9 Try.underlying22 Try.underlying5 Try.underlying9 _ rfl (.tmp 15) rfl rfl hrd ?_)
      go_ret
      exact ⟨rfl, hb⟩

end Go.Proofs.Ytaoahgngpjoekaa
