/- CopiesNeeded of the program and of the reference. No condition beyond lengths. -/
import Derived.Test.YtaoahgngpjoekaaDoorEb
namespace Go.Proofs.YtaoahgngpjoekaaDoor
open Go.RowKit

theorem combF_len : ∀ (l : List ByteArray) (O X : List Int), combF O l = some X → X.length ≤ O.length
  | [], O, X, h => by rw [combF] at h; cases h; exact Nat.le_refl _
  | s :: l, O, X, h => by
    rw [combF] at h
    by_cases hf : fitB O s = true
    · rw [if_pos hf] at h
      have := combF_len l _ X h
      rw [List.length_zipWith] at this; omega
    · rw [if_neg hf] at h; cases h
theorem combR_size {l : List ByteArray} {m : Nat} (h : ∀ s ∈ l, s.size ≤ m) : ((combR l).getD ByteArray.empty).size ≤ m := by
  unfold combR
  by_cases h1 : 1 ≤ l.length ∧ l.length ≤ 16
  · rw [if_pos h1]
    have h0 : 0 < l.length := by omega
    rcases hc : combF (codes (l.getD 0 ByteArray.empty)) l with _ | X
    · exact Nat.zero_le _
    · have := combF_len l _ X hc
      rw [codes_length] at this
      have e : l.getD 0 ByteArray.empty = l[0] := by simp [List.getD, h0]
      rw [e] at this
      have h2 := h _ (List.getElem_mem h0)
      show (text X).size ≤ m
      rw [text_size]; omega
  · rw [if_neg h1]; exact Nat.zero_le _

/-- The first k copies. -/
def cpL (s : ByteArray) (l j : List Int) (k : Nat) : List ByteArray := (List.range k).map fun i => sendT s l j (i * s.size)
theorem cpL_succ (s : ByteArray) (l j : List Int) (k : Nat) : cpL s l j (k + 1) = cpL s l j k ++ [sendT s l j (k * s.size)] := by simp [cpL, List.range_succ]
theorem cpL_length (s : ByteArray) (l j : List Int) (k : Nat) : (cpL s l j k).length = k := by simp [cpL]
theorem cpL_small (s : ByteArray) (l j : List Int) (k : Nat) : ∀ u ∈ cpL s l j k, u.size ≤ s.size := by
  intro u hu
  obtain ⟨i, _, rfl⟩ := List.mem_map.1 hu
  unfold sendT; rw [text_size, sendL_length]; exact Nat.le_refl _
/-- What k copies together tell. -/
def cpAll (s : ByteArray) (l j : List Int) (k : Nat) : ByteArray := (combR (cpL s l j k)).getD ByteArray.empty
theorem cpAll_size (s : ByteArray) (l j : List Int) (k : Nat) : (cpAll s l j k).size ≤ s.size := combR_size (cpL_small s l j k)
def cpnF (s : ByteArray) (l j : List Int) : Nat → Nat → Int
  | 0, _ => -1
  | f + 1, k => if (lostR (cpAll s l j (k + 1)) == 0) = true then ((k + 1 : Nat) : Int) else cpnF s l j f (k + 1)
theorem cpnF_yes {s : ByteArray} {l j : List Int} {f k : Nat} (hf : 0 < f) (h : (lostR (cpAll s l j (k + 1)) == 0) = true) : cpnF s l j f k = ((k + 1 : Nat) : Int) := by
  obtain ⟨g, rfl⟩ : ∃ g, f = g + 1 := ⟨f - 1, by omega⟩
  rw [cpnF, if_pos h]
theorem cpnF_no {s : ByteArray} {l j : List Int} {f k : Nat} (hf : 0 < f) (h : (lostR (cpAll s l j (k + 1)) == 0) = false) : cpnF s l j f k = cpnF s l j (f - 1) (k + 1) := by
  obtain ⟨g, rfl⟩ : ∃ g, f = g + 1 := ⟨f - 1, by omega⟩
  rw [cpnF, if_neg (by rw [h]; decide)]; rfl
def cpnR (s : ByteArray) (l j : List Int) (m : Int) : Int := if (readyB s l j && inB m 1 16) = true then cpnF s l j m.toNat 0 else -1
theorem cpnR_yes {s : ByteArray} {l j : List Int} {m : Int} (h1 : readyB s l j = true) (h2 : inB m 1 16 = true) : cpnR s l j m = cpnF s l j m.toNat 0 := by unfold cpnR; rw [h1, h2]; rfl
theorem cpnR_no1 {s : ByteArray} {l j : List Int} {m : Int} (h1 : readyB s l j = false) : cpnR s l j m = -1 := by unfold cpnR; rw [h1]; rfl
theorem cpnR_no2 {s : ByteArray} {l j : List Int} {m : Int} (h2 : inB m 1 16 = false) : cpnR s l j m = -1 := by unfold cpnR; rw [h2, Bool.and_false]; rfl
theorem inB_16 {m : Int} (h : inB m 1 16 = true) : ∃ M : Nat, m = (M : Int) ∧ 1 ≤ M ∧ M ≤ 16 := by
  unfold inB at h; simp only [Bool.and_eq_true, decide_eq_true_eq] at h
  exact ⟨m.toNat, by omega, by omega, by omega⟩

set_option maxRecDepth 100000 in
set_option maxHeartbeats 1600000 in
theorem CopiesNeeded_c {ao bo : Option Addr} {n m c d : Nat} {l j : List Int} (s : ByteArray) (most : Int) {w : World} (h : Rd w ao n l) (h' : Rd w bo m j) (hm : MaxOk w) :
    Calls Tryd.prog 5 #[.string s, .slice ao n c, .slice bo m d, .int .i64 most] w fun e w' => e = .returned (.int .i64 (cpnR s l j most)) ∧ Below w.heap.size w w' := by
  by_cases h1 : readyB s l j = true
  · have hS := Lib.hid (show sendR s l j = some (sendT s l j 0) by simp [sendR, h1])
    by_cases h2 : inB most 1 16 = true
    · have hr := Lib.hid (cpnR_yes h1 h2)
      obtain ⟨M, rfl, hM1, hM16⟩ := inB_16 h2
      have h0 : 0 < n := by
        have := h.1
        unfold readyB at h1
        simp only [Bool.and_eq_true, decide_eq_true_eq] at h1
        have := h1.1.2; omega
      have h600 : s.size ≤ 600 := by
        unfold readyB at h1
        simp only [Bool.and_eq_true] at h1
        exact bitsB_600 h1.1.1.1
      have h2' : chB (M : Int) = true := h2
      clear h1 h2
      go_enter Tryd.func5, Tryd.ntmps5
      go_wp2_with fail
      refine (SendHops_c s h h').mono ?_; rintro e w1 ⟨rfl, hb1⟩
      rw [hS.out]
      go_wp2_with fail
      refine (channelsValid_c _ _).mono ?_; rintro e w' ⟨rfl, rfl⟩
      rw [h2']
      clear h2'
      have hz1 := hb1.size
      have hov : OwnVT (w1.alloc (.cells #[] 9)) w.heap.size (.slice (some ⟨w1.heap.size, 0, none⟩) 0 0) [] := (OwnVF.made0 _ _ w1 (Nat.le_refl _)).mono hz1
      have hb2 := hb1.alloc hb1.size (.cells #[] 9)
      clear hb1
      go_wp2_with fail
      go_loopw [11, 31] (fun v i wr => ∃ k : Nat, k ≤ M ∧ i = .int .i64 (k : Nat) ∧ Hid (cpnF s l j M 0 = cpnF s l j (M - k) k) ∧ OwnVT wr w.heap.size v (cpL s l j k) ∧ Below w.heap.size w wr) (fun _ i _ => M - (intOf i).toNat)
      case atStart => exact ⟨0, Nat.zero_le _, rfl, Lib.hid rfl, hov, hb2⟩
      case round =>
        clear hov hb2 hz1
        obtain ⟨k, hk, rfl, HF, ho, hb⟩ := hrel
        by_cases hlt : k < M
        · obtain ⟨P, hP⟩ : ∃ P, P = k * s.size := ⟨_, rfl⟩
          have hPl : P ≤ 9600 := by
            rw [hP]; exact Nat.le_trans (Nat.mul_le_mul (show k ≤ 16 by omega) h600) (by decide)
          have hPI : (k : Int) * (s.size : Int) = (P : Int) := by rw [hP, Int.natCast_mul]
          have hw1 : IntKind.i64.wrap ((k : Int) * (s.size : Int)) = (P : Int) := by rw [hPI]; exact IntWalk.i64_in _ (by omega)
          have hw2 : wrap64 ((k : Int) * (s.size : Int)) = (P : Int) := by rw [hPI]; exact IntWalk.wrap64_in _ (by omega)
          have HP := Lib.hid hP
          have HL := Lib.hid (cpL_succ s l j k)
          have hLN := cpL_length s l j k
          have hzr := hb.size
          have hR := h.below hb
          have hR' := h'.below hb
          have hmr := hm.below hb
          clear hP hPI
          go_wp2_with fail
          refine (sendFrom_c s P hR hR' h0 (by omega) (by omega)).mono ?_; rintro e w3 ⟨rfl, hb3⟩
          have ho3 := ho.below hb3
          have hbA := hb.trans (hb3.mono hzr)
          have hm3 := hmr.below hb3
          clear hw1 hw2 ho hb hb3 hmr hR hR'
          have hz3 := hbA.size
          go_wp2_with (at_builtin; refine wp_app1F 29 9 16 ByteArray.empty Tryd.underlying29 info_str rfl (by decide) (fun _ => rfl) w3 rfl _ _ rfl w.heap.size _ _ _ rfl (by exact ho3) rfl (by omega) hz3 ?_; intro v' w4 ho4 _ hb4)
          rw [HP.out, ← HL.out] at ho4
          have hb5 := hbA.trans hb4
          have hm4 := hm.below hb5
          obtain ⟨a5, n5, c5, hv5, ho5⟩ := ho4.own (by rw [cpL_length]; omega)
          subst hv5
          clear hbA hb4 ho3 hm3
          go_wp2_with fail
          refine (CombineCopies_c ho5.rd hm4 (fun u hu => Nat.le_trans (cpL_small s l j _ u hu) (by omega))).mono ?_; rintro e w6 ⟨rfl, hb6⟩
          have ho6 := ho4.below hb6
          have hb7 := hb5.trans (hb6.mono hb5.size)
          have hm6 := hm.below hb7
          clear ho4 ho5 hb5 hb6 hm4
          have hu6 : ((combR (cpL s l j (k + 1))).getD ByteArray.empty) = cpAll s l j (k + 1) := rfl
          rw [hu6]
          have hsu := cpAll_size s l j (k + 1)
          have HY := Lib.hid (cpnF_yes (s := s) (l := l) (j := j) (f := M - k) (k := k) (by omega))
          have HX := Lib.hid (cpnF_no (s := s) (l := l) (j := j) (f := M - k) (k := k) (by omega))
          generalize cpAll s l j (k + 1) = u at *
          clear hu6
          go_wp2_with fail
          refine (LostBits_c u _ hm6 (by omega)).mono ?_; rintro e w7 ⟨rfl, hb8⟩
          have ho7 := ho6.below hb8
          have hb9 := hb7.trans (hb8.mono hb7.size)
          clear ho6 hb7 hb8 hm6
          by_cases h0 : (lostR u == 0) = true
          · have HZ := Lib.hid (HY.out h0)
            go_wp2_with fail
            go_ret
            exact ⟨by rw [hr.out, show ((M : Nat) : Int).toNat = M from rfl, HF.out, HZ.out]; rfl, hb9⟩
          · have h0' : (lostR u == 0) = false := by simpa using h0
            have HZ := Lib.hid (HX.out h0')
            clear h0
            go_wp2_with fail
            go_roundw
            case rel => exact ⟨k + 1, by omega, by go_num, Lib.hid (by rw [HF.out, HZ.out]; rfl), ho7, hb9⟩
            case measure => simp [intOf]; omega
        · obtain rfl : k = M := by omega
          go_wp2_with fail
          go_ret
          exact ⟨by rw [hr.out, show ((k : Nat) : Int).toNat = k from rfl, HF.out, Nat.sub_self]; rfl, hb⟩
    · have h2' : inB most 1 16 = false := by simpa using h2
      have hr := Lib.hid (cpnR_no2 (s := s) (l := l) (j := j) h2')
      have h3 : chB most = false := h2'
      clear h2 h2'
      go_enter Tryd.func5, Tryd.ntmps5
      go_wp2_with fail
      refine (SendHops_c s h h').mono ?_; rintro e w1 ⟨rfl, hb1⟩
      rw [hS.out]
      go_wp2_with fail
      refine (channelsValid_c _ _).mono ?_; rintro e w' ⟨rfl, rfl⟩
      rw [h3]
      go_wp2_with fail
      go_ret
      exact ⟨by rw [hr.out]; rfl, hb1⟩
  · have h1' : readyB s l j = false := by simpa using h1
    have hS := Lib.hid (show sendR s l j = none by simp [sendR, h1'])
    have hr := Lib.hid (cpnR_no1 (m := most) h1')
    clear h1 h1'
    go_enter Tryd.func5, Tryd.ntmps5
    go_wp2_with fail
    refine (SendHops_c s h h').mono ?_; rintro e w1 ⟨rfl, hb1⟩
    rw [hS.out]
    go_wp2_with fail
    go_ret
    exact ⟨by rw [hr.out]; rfl, hb1⟩

set_option maxRecDepth 100000 in
set_option maxHeartbeats 1600000 in
theorem sCopiesNeeded_c {ao bo : Option Addr} {n m c d : Nat} {l j : List Int} (s : ByteArray) (most : Int) {w : World} (h : Rd w ao n l) (h' : Rd w bo m j) (hsz : s.size ≤ 1099511627776) :
    Calls Tryd.prog 6 #[.string s, .slice ao n c, .slice bo m d, .int .i64 most] w fun e w' => e = .returned (.int .i64 (cpnR s l j most)) ∧ Below w.heap.size w w' := by
  by_cases h1 : readyB s l j = true
  · by_cases h2 : inB most 1 16 = true
    · have hr := Lib.hid (cpnR_yes h1 h2)
      obtain ⟨M, rfl, hM1, hM16⟩ := inB_16 h2
      have h0 : 0 < n := by
        have := h.1
        have h1 := h1
        unfold readyB at h1
        simp only [Bool.and_eq_true, decide_eq_true_eq] at h1
        have := h1.1.2; omega
      have h600 : s.size ≤ 600 := by
        have h1 := h1
        unfold readyB at h1
        simp only [Bool.and_eq_true] at h1
        exact bitsB_600 h1.1.1.1
      go_enter Tryd.func6, Tryd.ntmps6
      go_wp2_with fail
      refine (l7Ready_c s h h' hsz).mono ?_; rintro e w' ⟨rfl, rfl⟩
      rw [h1]
      go_wp2_with fail
      refine (l1In_c _ _ _ _).mono ?_; rintro e w' ⟨rfl, rfl⟩
      rw [h2]
      clear h1 h2
      have hov : OwnVT (w.alloc (.cells #[] 9)) w.heap.size (.slice (some ⟨w.heap.size, 0, none⟩) 0 0) [] := OwnVF.made0 _ _ w (Nat.le_refl _)
      have hb2 : Below w.heap.size w (w.alloc (.cells #[] 9)) := (Below.refl _ _).alloc (Nat.le_refl _) _
      go_wp2_with fail
      go_loopw [9, 10] (fun v i wr => ∃ k : Nat, k ≤ M ∧ i = .int .i64 ((k + 1 : Nat) : Int) ∧ Hid (cpnF s l j M 0 = cpnF s l j (M - k) k) ∧ OwnVT wr w.heap.size v (cpL s l j k) ∧ Below w.heap.size w wr) (fun _ i _ => M + 1 - (intOf i).toNat)
      case atStart => exact ⟨0, Nat.zero_le _, rfl, Lib.hid rfl, hov, hb2⟩
      case round =>
        clear hov hb2
        obtain ⟨k, hk, rfl, HF, ho, hb⟩ := hrel
        by_cases hlt : k < M
        · obtain ⟨P, hP⟩ : ∃ P, P = k * s.size := ⟨_, rfl⟩
          have hPl : P ≤ 9600 := by
            rw [hP]; exact Nat.le_trans (Nat.mul_le_mul (show k ≤ 16 by omega) h600) (by decide)
          have hPI : (k : Int) * (s.size : Int) = (P : Int) := by rw [hP, Int.natCast_mul]
          have hw1 : IntKind.i64.wrap ((k : Int) * (s.size : Int)) = (P : Int) := by rw [hPI]; exact IntWalk.i64_in _ (by omega)
          have hw2 : wrap64 ((k : Int) * (s.size : Int)) = (P : Int) := by rw [hPI]; exact IntWalk.wrap64_in _ (by omega)
          have HP := Lib.hid hP
          have HL := Lib.hid (cpL_succ s l j k)
          have hLN := cpL_length s l j k
          have hzr := hb.size
          have hR := h.below hb
          have hR' := h'.below hb
          have hk1 : IntKind.i64.wrap (((k + 1 : Nat) : Int) - 1) = (k : Int) := by rw [IntWalk.i64_in _ (by omega)]; omega
          clear hP hPI
          go_wp2_with fail
          refine (l7Send_c s P hR hR' h0 (by omega) (by omega)).mono ?_; rintro e w3 ⟨rfl, hb3⟩
          have ho3 := ho.below hb3
          have hbA := hb.trans (hb3.mono hzr)
          clear hw1 hw2 ho hb hb3 hR hR' hk1
          have hz3 := hbA.size
          go_wp2_with (at_builtin; refine wp_app1F 29 9 16 ByteArray.empty Tryd.underlying29 info_str rfl (by decide) (fun _ => rfl) w3 rfl _ _ rfl w.heap.size _ _ _ rfl (by exact ho3) rfl (by omega) hz3 ?_; intro v' w4 ho4 _ hb4)
          rw [HP.out, ← HL.out] at ho4
          have hb5 := hbA.trans hb4
          obtain ⟨a5, n5, c5, hv5, ho5⟩ := ho4.own (by rw [cpL_length]; omega)
          subst hv5
          clear hbA hb4 ho3
          go_wp2_with fail
          refine (sCombineCopies_c ho5.rd (fun u hu => Nat.le_trans (cpL_small s l j _ u hu) (by omega))).mono ?_; rintro e w6 ⟨rfl, hb6⟩
          have ho6 := ho4.below hb6
          have hb7 := hb5.trans (hb6.mono hb5.size)
          clear ho4 ho5 hb5 hb6
          have hu6 : ((combR (cpL s l j (k + 1))).getD ByteArray.empty) = cpAll s l j (k + 1) := rfl
          rw [hu6]
          have hsu := cpAll_size s l j (k + 1)
          have HY := Lib.hid (cpnF_yes (s := s) (l := l) (j := j) (f := M - k) (k := k) (by omega))
          have HX := Lib.hid (cpnF_no (s := s) (l := l) (j := j) (f := M - k) (k := k) (by omega))
          generalize cpAll s l j (k + 1) = u at *
          clear hu6
          go_wp2_with fail
          refine (sLostBits_c u _ (by omega)).mono ?_; rintro e w7 ⟨rfl, rfl⟩
          by_cases h0 : (lostR u == 0) = true
          · have HZ := Lib.hid (HY.out h0)
            go_wp2_with fail
            go_ret
            exact ⟨by rw [hr.out, show ((M : Nat) : Int).toNat = M from rfl, HF.out, HZ.out]; rfl, hb7⟩
          · have h0' : (lostR u == 0) = false := by simpa using h0
            have HZ := Lib.hid (HX.out h0')
            clear h0
            go_wp2_with fail
            go_roundw
            case rel => exact ⟨k + 1, by omega, by go_num, Lib.hid (by rw [HF.out, HZ.out]; rfl), ho6, hb7⟩
            case measure => simp [intOf]; omega
        · obtain rfl : k = M := by omega
          go_wp2_with fail
          go_ret
          exact ⟨by rw [hr.out, show ((k : Nat) : Int).toNat = k from rfl, HF.out, Nat.sub_self]; rfl, hb⟩
    · have h2' : inB most 1 16 = false := by simpa using h2
      have hr := Lib.hid (cpnR_no2 (s := s) (l := l) (j := j) h2')
      clear h2
      go_enter Tryd.func6, Tryd.ntmps6
      go_wp2_with fail
      refine (l7Ready_c s h h' hsz).mono ?_; rintro e w' ⟨rfl, rfl⟩
      rw [h1]
      go_wp2_with fail
      refine (l1In_c _ _ _ _).mono ?_; rintro e w' ⟨rfl, rfl⟩
      rw [h2']
      go_wp2_with fail
      go_ret
      exact ⟨by rw [hr.out]; rfl, Below.refl _ _⟩
  · have h1' : readyB s l j = false := by simpa using h1
    have hr := Lib.hid (cpnR_no1 (m := most) h1')
    clear h1
    go_enter Tryd.func6, Tryd.ntmps6
    go_wp2_with fail
    refine (l7Ready_c s h h' hsz).mono ?_; rintro e w' ⟨rfl, rfl⟩
    rw [h1']
    go_wp2_with fail
    go_ret
    exact ⟨by rw [hr.out]; rfl, Below.refl _ _⟩

end Go.Proofs.YtaoahgngpjoekaaDoor
