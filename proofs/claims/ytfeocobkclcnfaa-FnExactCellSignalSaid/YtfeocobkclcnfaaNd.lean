/- SendAll of the program and of the reference, for users with a code, a gain of at most 1000 and no delay. No other condition beyond lengths. -/
import Derived.Test.YtfeocobkclcnfaaNc
import Derived.Deep.RegionHeld3
namespace Go.Proofs.Ytfeocobkclcnfaa
open Go.RowKit

/-- A user that a cell makes: a code, any data, a gain, no delay. -/
def uIn (u : Stn) : Prop := seqB u.nm = true ∧ (0 ≤ u.g ∧ u.g ≤ 1000) ∧ u.l = 0
theorem usrOk_in {u : Stn} (h : uIn u) : usrOk u = (bitsB u.ph && decide (u.ph.size * u.nm.size ≤ 3000)) := by
  obtain ⟨h1, h2, h3⟩ := h
  unfold usrOk
  rw [h1, h3, inB_true h2.1 h2.2, inB_true (by omega : (0 : Int) ≤ 0) (by omega : (0 : Int) ≤ 1000)]
  have e : (u.ph.size : Int) * u.nm.size = ((u.ph.size * u.nm.size : Nat) : Int) := by simp
  rw [e, Int.add_zero, Bool.true_and, Bool.and_true, Bool.and_true]
  congr 1
  exact decide_eq_decide.2 (by omega)
theorem usrOk_1 {u : Stn} (h : uIn u) (h1 : bitsB u.ph = false) : usrOk u = false := by rw [usrOk_in h, h1]; rfl
theorem usrOk_2 {u : Stn} (h : uIn u) (h1 : ¬ u.ph.size * u.nm.size ≤ 3000) : usrOk u = false := by rw [usrOk_in h, decide_eq_false h1, Bool.and_false]
theorem usrOk_y {u : Stn} (h : uIn u) (h1 : bitsB u.ph = true) (h2 : u.ph.size * u.nm.size ≤ 3000) : usrOk u = true := by rw [usrOk_in h, decide_eq_true h2, h1]; rfl

set_option maxRecDepth 100000 in
set_option maxHeartbeats 1600000 in
theorem UserValid_c (s d : ByteArray) (g : Int) (w : World) (h : uIn ⟨s, d, g, 0⟩) : Calls Try.prog 91 #[.agg #[.string s, .string d, .int .i64 g, .int .i64 0]] w fun e w' => e = .returned (.bool (usrOk ⟨s, d, g, 0⟩)) ∧ Below w.heap.size w w' := by
  have h1 : seqB s = true := h.1
  have hg0 : 0 ≤ g := h.2.1.1
  have hg1 : g ≤ 1000 := h.2.1.2
  have hB := Box.new w #[.string s, .string d, .int .i64 g, .int .i64 0] 61
  have hb0 : Below w.heap.size w (w.alloc (.cells #[.string s, .string d, .int .i64 g, .int .i64 0] 61)) := (Below.refl _ _).alloc (Nat.le_refl _) _
  have c0 := hB.cell (i := 0) rfl
  have c1 := hB.cell (i := 1) rfl
  have c2 := hB.cell (i := 2) rfl
  have c3 := hB.cell (i := 3) rfl
  by_cases h2 : bitsB d = true
  · have hd6 := bitsB_600 h2
    obtain ⟨hs1, hs2⟩ := seqB_size h1
    obtain ⟨m, hm⟩ : ∃ m, d.size * s.size = m := ⟨_, rfl⟩
    have hm2 : m ≤ 600 * 255 := by rw [← hm]; exact Nat.mul_le_mul hd6 hs2
    have b0 : IntKind.i64.wrap ((d.size : Int) * (s.size : Int)) = (m : Int) := wr_mulN hm (by omega)
    have b1 : IntKind.i64.wrap ((m : Int) + 0) = (m : Int) := by rw [Int.add_zero]; exact IntWalk.i64_in _ (by omega)
    by_cases h3 : m ≤ 3000
    · have hr := Lib.hid (usrOk_y h h2 (by show d.size * s.size ≤ 3000; rw [hm]; exact h3))
      have h3' : (m : Int) ≤ 3000 := by omega
      clear hB hm h
      go_enter Try.func91, Try.ntmps91
      go_wp2_with fail
      refine (SequenceValid_c _ _).mono ?_; rintro e w' ⟨rfl, rfl⟩
      rw [h1]
      go_wp2_with fail
      refine (isBits_c _ _).mono ?_; rintro e w' ⟨rfl, rfl⟩
      rw [h2]
      clear h1 h2
      go_wp2_with fail
      go_ret
      exact ⟨ret_b hr.out.symm, hb0⟩
    · have hr := Lib.hid (usrOk_2 h (by show ¬ d.size * s.size ≤ 3000; rw [hm]; exact h3))
      have h3' : ¬ (m : Int) ≤ 3000 := by omega
      clear hB hm h h3
      go_enter Try.func91, Try.ntmps91
      go_wp2_with fail
      refine (SequenceValid_c _ _).mono ?_; rintro e w' ⟨rfl, rfl⟩
      rw [h1]
      go_wp2_with fail
      refine (isBits_c _ _).mono ?_; rintro e w' ⟨rfl, rfl⟩
      rw [h2]
      clear h1 h2
      go_wp2_with fail
      go_ret
      exact ⟨ret_b (by rw [hr.out]; exact decide_eq_false (by omega)), hb0⟩
  · have h2' : bitsB d = false := by simpa using h2
    have hr := Lib.hid (usrOk_1 h h2')
    clear hB h
    go_enter Try.func91, Try.ntmps91
    go_wp2_with fail
    refine (SequenceValid_c _ _).mono ?_; rintro e w' ⟨rfl, rfl⟩
    rw [h1]
    go_wp2_with fail
    refine (isBits_c _ _).mono ?_; rintro e w' ⟨rfl, rfl⟩
    rw [h2']
    clear h1 h2 h2'
    go_wp2_with fail
    go_ret
    exact ⟨ret_b hr.out.symm, hb0⟩

set_option maxRecDepth 100000 in
set_option maxHeartbeats 1600000 in
theorem sUserValid_c (s d : ByteArray) (g : Int) (w : World) (h : uIn ⟨s, d, g, 0⟩) (hdz : d.size ≤ 1099511627776) : Calls Try.prog 85 #[.agg #[.string s, .string d, .int .i64 g, .int .i64 0]] w fun e w' => e = .returned (.bool (usrOk ⟨s, d, g, 0⟩)) ∧ Below w.heap.size w w' := by
  have h1 : seqB s = true := h.1
  have HG1 := Lib.hid (inB_true h.2.1.1 h.2.1.2)
  have HG2 := Lib.hid (inB_true (by omega : (0 : Int) ≤ 0) (by omega : (0 : Int) ≤ 1000))
  have hB := Box.new w #[.string s, .string d, .int .i64 g, .int .i64 0] 61
  have hb0 : Below w.heap.size w (w.alloc (.cells #[.string s, .string d, .int .i64 g, .int .i64 0] 61)) := (Below.refl _ _).alloc (Nat.le_refl _) _
  have c0 := hB.cell (i := 0) rfl
  have c1 := hB.cell (i := 1) rfl
  have c2 := hB.cell (i := 2) rfl
  have c3 := hB.cell (i := 3) rfl
  obtain ⟨hs1, hs2⟩ := seqB_size h1
  by_cases h2 : bitsB d = true
  · have hd6 := bitsB_600 h2
    obtain ⟨m, hm⟩ : ∃ m, d.size * s.size = m := ⟨_, rfl⟩
    have hm2 : m ≤ 600 * 255 := by rw [← hm]; exact Nat.mul_le_mul hd6 hs2
    have b0 : IntKind.i64.wrap ((d.size : Int) * (s.size : Int)) = (m : Int) := wr_mulN hm (by omega)
    have b1 : IntKind.i64.wrap ((m : Int) + 0) = (m : Int) := by rw [Int.add_zero]; exact IntWalk.i64_in _ (by omega)
    by_cases h3 : m ≤ 3000
    · have hr := Lib.hid (usrOk_y h h2 (by show d.size * s.size ≤ 3000; rw [hm]; exact h3))
      have h3' : (m : Int) ≤ 3000 := by omega
      clear hB hm h
      go_enter Try.func85, Try.ntmps85
      go_wp2_with fail
      refine (sSequenceValid_c _ _ (by omega)).mono ?_; rintro e w' ⟨rfl, rfl⟩
      rw [h1]
      go_wp2_with fail
      refine (l1Bits_c _ _ hdz).mono ?_; rintro e w' ⟨rfl, rfl⟩
      rw [h2]
      clear h1 h2
      go_wp2_with fail
      refine (l1In_c _ _ _ _).mono ?_; rintro e w' ⟨rfl, rfl⟩
      rw [HG1.out]
      go_wp2_with fail
      refine (l1In_c _ _ _ _).mono ?_; rintro e w' ⟨rfl, rfl⟩
      rw [HG2.out]
      go_wp2_with fail
      go_ret
      exact ⟨ret_b hr.out.symm, hb0⟩
    · have hr := Lib.hid (usrOk_2 h (by show ¬ d.size * s.size ≤ 3000; rw [hm]; exact h3))
      have h3' : ¬ (m : Int) ≤ 3000 := by omega
      clear hB hm h h3
      go_enter Try.func85, Try.ntmps85
      go_wp2_with fail
      refine (sSequenceValid_c _ _ (by omega)).mono ?_; rintro e w' ⟨rfl, rfl⟩
      rw [h1]
      go_wp2_with fail
      refine (l1Bits_c _ _ hdz).mono ?_; rintro e w' ⟨rfl, rfl⟩
      rw [h2]
      clear h1 h2
      go_wp2_with fail
      refine (l1In_c _ _ _ _).mono ?_; rintro e w' ⟨rfl, rfl⟩
      rw [HG1.out]
      go_wp2_with fail
      refine (l1In_c _ _ _ _).mono ?_; rintro e w' ⟨rfl, rfl⟩
      rw [HG2.out]
      go_wp2_with fail
      go_ret
      exact ⟨ret_b (by rw [hr.out]; exact decide_eq_false (by omega)), hb0⟩
  · have h2' : bitsB d = false := by simpa using h2
    have hr := Lib.hid (usrOk_1 h h2')
    clear hB h
    go_enter Try.func85, Try.ntmps85
    go_wp2_with fail
    refine (sSequenceValid_c _ _ (by omega)).mono ?_; rintro e w' ⟨rfl, rfl⟩
    rw [h1]
    go_wp2_with fail
    refine (l1Bits_c _ _ hdz).mono ?_; rintro e w' ⟨rfl, rfl⟩
    rw [h2']
    clear h1 h2 h2'
    go_wp2_with fail
    go_ret
    exact ⟨ret_b hr.out.symm, hb0⟩

def UIn (us : List Stn) : Prop := ∀ i (h : i < us.length), uIn (us[i]'h)
theorem stn_zero {u : Stn} (h : uIn u) : u = ⟨u.nm, u.ph, u.g, 0⟩ := by
  obtain ⟨_, _, h3⟩ := h
  rw [← h3]
theorem all_take_succ {us : List Stn} {k : Nat} (hk : k < us.length) (h : (us.take k).all usrOk = true) (h1 : usrOk us[k] = true) : (us.take (k + 1)).all usrOk = true := by
  rw [List.take_succ_eq_append_getElem hk, List.all_append, h]; simp [h1]
theorem usersB_mk {us : List Stn} {k : Nat} (hk : us.length ≤ k) (h8 : us.length ≤ 8) (h : (us.take k).all usrOk = true) : usersB us = true := by
  rw [List.take_of_length_le hk] at h
  unfold usersB; rw [decide_eq_true h8, h]; rfl

set_option maxHeartbeats 1600000 in
theorem usersValid_c {ao : Option Addr} {n c : Nat} {us : List Stn} {w : World} (h : RdS w ao n us) (hi : UIn us) : Calls Try.prog 64 #[.slice ao n c] w fun e w' => e = .returned (.bool (usersB us)) ∧ Below w.heap.size w w' := by
  have hs := h.2.1
  have HI := Lib.hid hi; clear hi
  by_cases h8 : n ≤ 8
  · have HN := Lib.hid h.1
    have h8' : ¬ (8 : Int) < (n : Int) := by omega
    go_enter Try.func64, Try.ntmps64
    go_wp2_with fail
    go_loopw [10] (fun i wr => ∃ k : Nat, k ≤ n ∧ i = .int .i64 k ∧ Hid ((us.take k).all usrOk = true) ∧ Below w.heap.size w wr) (fun i _ => n - (intOf i).toNat)
    case atStart => exact ⟨0, Nat.zero_le _, rfl, Lib.hid rfl, Below.refl _ _⟩
    case round =>
      obtain ⟨k, hk, rfl, HA, hb⟩ := hrel
      obtain ⟨wo, hwo⟩ : ∃ wo : World, wo = wr := ⟨_, rfl⟩
      subst hwo
      by_cases hlt : k < n
      · obtain ⟨bk, off, rfl, hl, hc0, hc1, hc2, hc3⟩ := (h.below hb).at hlt
        have hu := HI.out k hl
        have hl0 : us[k].l = 0 := hu.2.2
        rw [hl0] at hc3
        have HU := Lib.hid (stn_zero hu)
        have hu2 : uIn ⟨us[k].nm, us[k].ph, us[k].g, 0⟩ := ⟨hu.1, hu.2.1, rfl⟩
        have HE := Lib.hid (show usrOk ⟨us[k].nm, us[k].ph, us[k].g, 0⟩ = usrOk us[k] by rw [← HU.out])
        have hz := hb.size
        have hB1 := hb.alloc hz (.cells #[.string us[k].nm, .string us[k].ph, .int .i64 us[k].g, .int .i64 0] 61)
        clear hl0 hu
        go_wp2_with fail
        refine (UserValid_c us[k].nm us[k].ph us[k].g _ hu2).mono ?_; rintro e w2 ⟨rfl, hb2⟩
        rw [HE.out]
        have hB2 := hB1.trans (hb2.mono hB1.size)
        clear hB1 hb2 hc0 hc1 hc2 hc3
        by_cases h1 : usrOk us[k] = true
        · rw [h1]
          have HT := Lib.hid (all_take_succ hl HA.out h1)
          clear h1
          go_wp2_with fail
          go_roundw
          case rel => exact ⟨k + 1, by omega, by go_num, HT, hB2⟩
          case measure => simp [intOf]; omega
        · have h1' : usrOk us[k] = false := by simpa using h1
          rw [h1']
          have hr := Lib.hid (usersB_bad hl h1')
          clear h1 h1'
          go_wp2_with fail
          go_ret
          exact ⟨ret_b hr.out.symm, hB2⟩
      · have hr := Lib.hid (usersB_mk (us := us) (k := k) (by have := HN.out; omega) (by have := HN.out; omega) HA.out)
        go_wp2_with fail
        go_ret
        exact ⟨ret_b hr.out.symm, hb⟩
  · have hr := Lib.hid (usersB_long (us := us) (by have := h.1; omega))
    have h8' : (8 : Int) < (n : Int) := by omega
    clear h8
    go_enter Try.func64, Try.ntmps64
    go_wp2_with fail
    go_ret
    exact ⟨ret_b hr.out.symm, Below.refl _ _⟩

set_option maxHeartbeats 1600000 in
theorem l4Users_c {ao : Option Addr} {n c : Nat} {us : List Stn} {w : World} (h : RdS w ao n us) (hi : UIn us) (h8 : n ≤ 8) (hz : ∀ i (h : i < us.length), (us[i]'h).ph.size ≤ 1099511627776) : Calls Try.prog 61 #[.slice ao n c] w fun e w' => e = .returned (.bool (usersB us)) ∧ Below w.heap.size w w' := by
  have hs := h.2.1
  have HI := Lib.hid hi; clear hi
  have HZ := Lib.hid hz; clear hz
  have HN := Lib.hid h.1
  go_enter Try.func61, Try.ntmps61
  go_wp2
  go_loopw [3] (fun i wr => ∃ k : Nat, k ≤ n ∧ i = .int .i64 k ∧ Hid ((us.take k).all usrOk = true) ∧ Below w.heap.size w wr) (fun i _ => n - (intOf i).toNat)
  case atStart => exact ⟨0, Nat.zero_le _, rfl, Lib.hid rfl, Below.refl _ _⟩
  case round =>
    obtain ⟨k, hk, rfl, HA, hb⟩ := hrel
    obtain ⟨wo, hwo⟩ : ∃ wo : World, wo = wr := ⟨_, rfl⟩
    subst hwo
    by_cases hlt : k < n
    · obtain ⟨bk, off, rfl, hl, hc0, hc1, hc2, hc3⟩ := (h.below hb).at hlt
      have hu := HI.out k hl
      have hl0 : us[k].l = 0 := hu.2.2
      rw [hl0] at hc3
      have HU := Lib.hid (stn_zero hu)
      have hu2 : uIn ⟨us[k].nm, us[k].ph, us[k].g, 0⟩ := ⟨hu.1, hu.2.1, rfl⟩
      have HE := Lib.hid (show usrOk ⟨us[k].nm, us[k].ph, us[k].g, 0⟩ = usrOk us[k] by rw [← HU.out])
      clear hl0 hu
      go_wp2_with fail
      refine (sUserValid_c us[k].nm us[k].ph us[k].g _ hu2 (HZ.out k hl)).mono ?_; rintro e w2 ⟨rfl, hb2⟩
      rw [HE.out]
      have hB2 := hb.trans (hb2.mono hb.size)
      clear hb2 hc0 hc1 hc2 hc3
      by_cases h1 : usrOk us[k] = true
      · rw [h1]
        have HT := Lib.hid (all_take_succ hl HA.out h1)
        clear h1
        go_wp2_with fail
        go_roundw
        case rel => exact ⟨k + 1, by omega, by go_num, HT, hB2⟩
        case measure => simp [intOf]; omega
      · have h1' : usrOk us[k] = false := by simpa using h1
        rw [h1']
        have hr := Lib.hid (usersB_bad hl h1')
        clear h1 h1'
        go_wp2_with fail
        go_ret
        exact ⟨ret_b hr.out.symm, hB2⟩
    · have hr := Lib.hid (usersB_mk (us := us) (k := k) (by have := HN.out; omega) (by have := HN.out; omega) HA.out)
      have h8' : (n : Int) ≤ 8 := by omega
      go_wp2_with fail
      go_ret
      exact ⟨ret_b hr.out.symm, hb⟩

end Go.Proofs.Ytfeocobkclcnfaa
