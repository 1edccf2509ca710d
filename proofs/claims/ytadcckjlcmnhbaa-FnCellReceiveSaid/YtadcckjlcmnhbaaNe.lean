/- SendAll of the program and of the reference, for users with a code, a gain of at most 1000 and no delay. No other condition beyond lengths. -/
import Derived.Test.YtadcckjlcmnhbaaNc
import Derived.Deep.RegionHeld3
namespace Go.Proofs.Ytadcckjlcmnhbaa
open Go.RowKit

/-- A user that a cell makes: a code, any data, a gain, no delay. -/
def uIn (u : Stn) : Prop := seqB u.nm = true ∧ (0 ≤ u.g ∧ u.g ≤ 1000) ∧ u.l = 0
theorem usrOk_in {u : Stn} (h : uIn u) : usrOk u = (bitsB u.ph && decide (u.ph.size * u.nm.size ≤ 3000)) := by
  obtain ⟨h1, h2, h3⟩ := h
  unfold usrOk
  rw [h1, h3, inB_true h2.1 h2.2, inB_true (by omega : (0 : Int) ≤ 0) (by omega : (0 : Int) ≤ 1000)]
  have e : (u.ph.size : Int) * u.nm.size = ((u.ph.size * u.nm.size : Nat) : Int) := by simp
  rw [e, Int.add_zero, Bool.true_and, Bool.and_true, Bool.and_true]
  congr 1
  exact decide_eq_decide.2 (by omega)
theorem usrOk_1 {u : Stn} (h : uIn u) (h1 : bitsB u.ph = false) : usrOk u = false := by rw [usrOk_in h, h1]; rfl
theorem usrOk_2 {u : Stn} (h : uIn u) (h1 : ¬ u.ph.size * u.nm.size ≤ 3000) : usrOk u = false := by rw [usrOk_in h, decide_eq_false h1, Bool.and_false]
theorem usrOk_y {u : Stn} (h : uIn u) (h1 : bitsB u.ph = true) (h2 : u.ph.size * u.nm.size ≤ 3000) : usrOk u = true := by rw [usrOk_in h, decide_eq_true h2, h1]; rfl

set_option maxRecDepth 100000 in
set_option maxHeartbeats 1600000 in
theorem UserValid_c (s d : ByteArray) (g : Int) (w : World) (h : uIn ⟨s, d, g, 0⟩) : Calls Try.prog 118 #[.agg #[.string s, .string d, .int .i64 g, .int .i64 0]] w fun e w' => e = .returned (.bool (usrOk ⟨s, d, g, 0⟩)) ∧ Below w.heap.size w w' := by
  have h1 : seqB s = true := h.1
  have hg0 : 0 ≤ g := h.2.1.1
  have hg1 : g ≤ 1000 := h.2.1.2
  have hB := Box.new w #[.string s, .string d, .int .i64 g, .int .i64 0] 60
  have hb0 : Below w.heap.size w (w.alloc (.cells #[.string s, .string d, .int .i64 g, .int .i64 0] 60)) := (Below.refl _ _).alloc (Nat.le_refl _) _
  have c0 := hB.cell (i := 0) rfl
  have c1 := hB.cell (i := 1) rfl
  have c2 := hB.cell (i := 2) rfl
  have c3 := hB.cell (i := 3) rfl
  by_cases h2 : bitsB d = true
  · have hd6 := bitsB_sz600 h2
    obtain ⟨hs1, hs2⟩ := seqB_size h1
    obtain ⟨m, hm⟩ : ∃ m, d.size * s.size = m := ⟨_, rfl⟩
    have hm2 : m ≤ 600 * 255 := by rw [← hm]; exact Nat.mul_le_mul hd6 hs2
    have b0 : IntKind.i64.wrap ((d.size : Int) * (s.size : Int)) = (m : Int) := wr_mulN hm (by omega)
    have b1 : IntKind.i64.wrap ((m : Int) + 0) = (m : Int) := by rw [Int.add_zero]; exact IntWalk.i64_in _ (by omega)
    by_cases h3 : m ≤ 3000
    · have hr := Lib.hid (usrOk_y h h2 (by show d.size * s.size ≤ 3000; rw [hm]; exact h3))
      have h3' : (m : Int) ≤ 3000 := by omega
      clear hB hm h
      go_enter Try.func118, Try.ntmps118
      go_wp2_with fail
      refine (SequenceValid_c _ _).mono ?_; rintro e w' ⟨rfl, rfl⟩
      rw [h1]
      go_wp2_with fail
      refine (isBits_c _ _).mono ?_; rintro e w' ⟨rfl, rfl⟩
      rw [h2]
      clear h1 h2
      go_wp2_with fail
      go_ret
      exact ⟨ret_b hr.out.symm, hb0⟩
    · have hr := Lib.hid (usrOk_2 h (by show ¬ d.size * s.size ≤ 3000; rw [hm]; exact h3))
      have h3' : ¬ (m : Int) ≤ 3000 := by omega
      clear hB hm h h3
      go_enter Try.func118, Try.ntmps118
      go_wp2_with fail
      refine (SequenceValid_c _ _).mono ?_; rintro e w' ⟨rfl, rfl⟩
      rw [h1]
      go_wp2_with fail
      refine (isBits_c _ _).mono ?_; rintro e w' ⟨rfl, rfl⟩
      rw [h2]
      clear h1 h2
      go_wp2_with fail
      go_ret
      exact ⟨ret_b (by rw [hr.out]; exact decide_eq_false (by omega)), hb0⟩
  · have h2' : bitsB d = false := by simpa using h2
    have hr := Lib.hid (usrOk_1 h h2')
    clear hB h
    go_enter Try.func118, Try.ntmps118
    go_wp2_with fail
    refine (SequenceValid_c _ _).mono ?_; rintro e w' ⟨rfl, rfl⟩
    rw [h1]
    go_wp2_with fail
    refine (isBits_c _ _).mono ?_; rintro e w' ⟨rfl, rfl⟩
    rw [h2']
    clear h1 h2 h2'
    go_wp2_with fail
    go_ret
    exact ⟨ret_b hr.out.symm, hb0⟩

set_option maxRecDepth 100000 in
set_option maxHeartbeats 1600000 in
theorem sUserValid_c (s d : ByteArray) (g : Int) (w : World) (h : uIn ⟨s, d, g, 0⟩) (hdz : d.size ≤ 1099511627776) : Calls Try.prog 122 #[.agg #[.string s, .string d, .int .i64 g, .int .i64 0]] w fun e w' => e = .returned (.bool (usrOk ⟨s, d, g, 0⟩)) ∧ Below w.heap.size w w' := by
  have h1 : seqB s = true := h.1
  have HG1 := Lib.hid (inB_true h.2.1.1 h.2.1.2)
  have HG2 := Lib.hid (inB_true (by omega : (0 : Int) ≤ 0) (by omega : (0 : Int) ≤ 1000))
  have hB := Box.new w #[.string s, .string d, .int .i64 g, .int .i64 0] 60
  have hb0 : Below w.heap.size w (w.alloc (.cells #[.string s, .string d, .int .i64 g, .int .i64 0] 60)) := (Below.refl _ _).alloc (Nat.le_refl _) _
  have c0 := hB.cell (i := 0) rfl
  have c1 := hB.cell (i := 1) rfl
  have c2 := hB.cell (i := 2) rfl
  have c3 := hB.cell (i := 3) rfl
  obtain ⟨hs1, hs2⟩ := seqB_size h1
  by_cases h2 : bitsB d = true
  · have hd6 := bitsB_sz600 h2
    obtain ⟨m, hm⟩ : ∃ m, d.size * s.size = m := ⟨_, rfl⟩
    have hm2 : m ≤ 600 * 255 := by rw [← hm]; exact Nat.mul_le_mul hd6 hs2
    have b0 : IntKind.i64.wrap ((d.size : Int) * (s.size : Int)) = (m : Int) := wr_mulN hm (by omega)
    have b1 : IntKind.i64.wrap ((m : Int) + 0) = (m : Int) := by rw [Int.add_zero]; exact IntWalk.i64_in _ (by omega)
    by_cases h3 : m ≤ 3000
    · have hr := Lib.hid (usrOk_y h h2 (by show d.size * s.size ≤ 3000; rw [hm]; exact h3))
      have h3' : (m : Int) ≤ 3000 := by omega
      clear hB hm h
      go_enter Try.func122, Try.ntmps122
      go_wp2_with fail
      refine (sSequenceValid_c _ _ (by omega)).mono ?_; rintro e w' ⟨rfl, rfl⟩
      rw [h1]
      go_wp2_with fail
      refine (l1Bits_c _ _ hdz).mono ?_; rintro e w' ⟨rfl, rfl⟩
      rw [h2]
      clear h1 h2
      go_wp2_with fail
      refine (l1In_c _ _ _ _).mono ?_; rintro e w' ⟨rfl, rfl⟩
      rw [HG1.out]
      go_wp2_with fail
      refine (l1In_c _ _ _ _).mono ?_; rintro e w' ⟨rfl, rfl⟩
      rw [HG2.out]
      go_wp2_with fail
      go_ret
      exact ⟨ret_b hr.out.symm, hb0⟩
    · have hr := Lib.hid (usrOk_2 h (by show ¬ d.size * s.size ≤ 3000; rw [hm]; exact h3))
      have h3' : ¬ (m : Int) ≤ 3000 := by omega
      clear hB hm h h3
      go_enter Try.func122, Try.ntmps122
      go_wp2_with fail
      refine (sSequenceValid_c _ _ (by omega)).mono ?_; rintro e w' ⟨rfl, rfl⟩
      rw [h1]
      go_wp2_with fail
      refine (l1Bits_c _ _ hdz).mono ?_; rintro e w' ⟨rfl, rfl⟩
      rw [h2]
      clear h1 h2
      go_wp2_with fail
      refine (l1In_c _ _ _ _).mono ?_; rintro e w' ⟨rfl, rfl⟩
      rw [HG1.out]
      go_wp2_with fail
      refine (l1In_c _ _ _ _).mono ?_; rintro e w' ⟨rfl, rfl⟩
      rw [HG2.out]
      go_wp2_with fail
      go_ret
      exact ⟨ret_b (by rw [hr.out]; exact decide_eq_false (by omega)), hb0⟩
  · have h2' : bitsB d = false := by simpa using h2
    have hr := Lib.hid (usrOk_1 h h2')
    clear hB h
    go_enter Try.func122, Try.ntmps122
    go_wp2_with fail
    refine (sSequenceValid_c _ _ (by omega)).mono ?_; rintro e w' ⟨rfl, rfl⟩
    rw [h1]
    go_wp2_with fail
    refine (l1Bits_c _ _ hdz).mono ?_; rintro e w' ⟨rfl, rfl⟩
    rw [h2']
    clear h1 h2 h2'
    go_wp2_with fail
    go_ret
    exact ⟨ret_b hr.out.symm, hb0⟩

def UIn (us : List Stn) : Prop := ∀ i (h : i < us.length), uIn (us[i]'h)
theorem stn_zero {u : Stn} (h : uIn u) : u = ⟨u.nm, u.ph, u.g, 0⟩ := by
  obtain ⟨_, _, h3⟩ := h
  rw [← h3]
theorem all_take_succ {us : List Stn} {k : Nat} (hk : k < us.length) (h : (us.take k).all usrOk = true) (h1 : usrOk us[k] = true) : (us.take (k + 1)).all usrOk = true := by
  rw [List.take_succ_eq_append_getElem hk, List.all_append, h]; simp [h1]
theorem usersB_mk {us : List Stn} {k : Nat} (hk : us.length ≤ k) (h8 : us.length ≤ 8) (h : (us.take k).all usrOk = true) : usersB us = true := by
  rw [List.take_of_length_le hk] at h
  unfold usersB; rw [decide_eq_true h8, h]; rfl

set_option maxHeartbeats 1600000 in
theorem usersValid_c {ao : Option Addr} {n c : Nat} {us : List Stn} {w : World} (h : RdS w ao n us) (hi : UIn us) : Calls Try.prog 71 #[.slice ao n c] w fun e w' => e = .returned (.bool (usersB us)) ∧ Below w.heap.size w w' := by
  have hs := h.2.1
  have HI := Lib.hid hi; clear hi
  by_cases h8 : n ≤ 8
  · have HN := Lib.hid h.1
    have h8' : ¬ (8 : Int) < (n : Int) := by omega
    go_enter Try.func71, Try.ntmps71
    go_wp2_with fail
    go_loopw [10] (fun i wr => ∃ k : Nat, k ≤ n ∧ i = .int .i64 k ∧ Hid ((us.take k).all usrOk = true) ∧ Below w.heap.size w wr) (fun i _ => n - (intOf i).toNat)
    case atStart => exact ⟨0, Nat.zero_le _, rfl, Lib.hid rfl, Below.refl _ _⟩
    case round =>
      obtain ⟨k, hk, rfl, HA, hb⟩ := hrel
      obtain ⟨wo, hwo⟩ : ∃ wo : World, wo = wr := ⟨_, rfl⟩
      subst hwo
      by_cases hlt : k < n
      · obtain ⟨bk, off, rfl, hl, hc0, hc1, hc2, hc3⟩ := (h.below hb).at hlt
        have hu := HI.out k hl
        have hl0 : us[k].l = 0 := hu.2.2
        rw [hl0] at hc3
        have HU := Lib.hid (stn_zero hu)
        have hu2 : uIn ⟨us[k].nm, us[k].ph, us[k].g, 0⟩ := ⟨hu.1, hu.2.1, rfl⟩
        have HE := Lib.hid (show usrOk ⟨us[k].nm, us[k].ph, us[k].g, 0⟩ = usrOk us[k] by rw [← HU.out])
        have hz := hb.size
        have hB1 := hb.alloc hz (.cells #[.string us[k].nm, .string us[k].ph, .int .i64 us[k].g, .int .i64 0] 60)
        clear hl0 hu
        go_wp2_with fail
        refine (UserValid_c us[k].nm us[k].ph us[k].g _ hu2).mono ?_; rintro e w2 ⟨rfl, hb2⟩
        rw [HE.out]
        have hB2 := hB1.trans (hb2.mono hB1.size)
        clear hB1 hb2 hc0 hc1 hc2 hc3
        by_cases h1 : usrOk us[k] = true
        · rw [h1]
          have HT := Lib.hid (all_take_succ hl HA.out h1)
          clear h1
          go_wp2_with fail
          go_roundw
          case rel => exact ⟨k + 1, by omega, by go_num, HT, hB2⟩
          case measure => simp [intOf]; omega
        · have h1' : usrOk us[k] = false := by simpa using h1
          rw [h1']
          have hr := Lib.hid (usersB_bad hl h1')
          clear h1 h1'
          go_wp2_with fail
          go_ret
          exact ⟨ret_b hr.out.symm, hB2⟩
      · have hr := Lib.hid (usersB_mk (us := us) (k := k) (by have := HN.out; omega) (by have := HN.out; omega) HA.out)
        go_wp2_with fail
        go_ret
        exact ⟨ret_b hr.out.symm, hb⟩
  · have hr := Lib.hid (usersB_long (us := us) (by have := h.1; omega))
    have h8' : (8 : Int) < (n : Int) := by omega
    clear h8
    go_enter Try.func71, Try.ntmps71
    go_wp2_with fail
    go_ret
    exact ⟨ret_b hr.out.symm, Below.refl _ _⟩

set_option maxHeartbeats 1600000 in
theorem l4Users_c {ao : Option Addr} {n c : Nat} {us : List Stn} {w : World} (h : RdS w ao n us) (hi : UIn us) (h8 : n ≤ 8) (hz : ∀ i (h : i < us.length), (us[i]'h).ph.size ≤ 1099511627776) : Calls Try.prog 79 #[.slice ao n c] w fun e w' => e = .returned (.bool (usersB us)) ∧ Below w.heap.size w w' := by
  have hs := h.2.1
  have HI := Lib.hid hi; clear hi
  have HZ := Lib.hid hz; clear hz
  have HN := Lib.hid h.1
  go_enter Try.func79, Try.ntmps79
  go_wp2
  go_loopw [3] (fun i wr => ∃ k : Nat, k ≤ n ∧ i = .int .i64 k ∧ Hid ((us.take k).all usrOk = true) ∧ Below w.heap.size w wr) (fun i _ => n - (intOf i).toNat)
  case atStart => exact ⟨0, Nat.zero_le _, rfl, Lib.hid rfl, Below.refl _ _⟩
  case round =>
    obtain ⟨k, hk, rfl, HA, hb⟩ := hrel
    obtain ⟨wo, hwo⟩ : ∃ wo : World, wo = wr := ⟨_, rfl⟩
    subst hwo
    by_cases hlt : k < n
    · obtain ⟨bk, off, rfl, hl, hc0, hc1, hc2, hc3⟩ := (h.below hb).at hlt
      have hu := HI.out k hl
      have hl0 : us[k].l = 0 := hu.2.2
      rw [hl0] at hc3
      have HU := Lib.hid (stn_zero hu)
      have hu2 : uIn ⟨us[k].nm, us[k].ph, us[k].g, 0⟩ := ⟨hu.1, hu.2.1, rfl⟩
      have HE := Lib.hid (show usrOk ⟨us[k].nm, us[k].ph, us[k].g, 0⟩ = usrOk us[k] by rw [← HU.out])
      clear hl0 hu
      go_wp2_with fail
      refine (sUserValid_c us[k].nm us[k].ph us[k].g _ hu2 (HZ.out k hl)).mono ?_; rintro e w2 ⟨rfl, hb2⟩
      rw [HE.out]
      have hB2 := hb.trans (hb2.mono hb.size)
      clear hb2 hc0 hc1 hc2 hc3
      by_cases h1 : usrOk us[k] = true
      · rw [h1]
        have HT := Lib.hid (all_take_succ hl HA.out h1)
        clear h1
        go_wp2_with fail
        go_roundw
        case rel => exact ⟨k + 1, by omega, by go_num, HT, hB2⟩
        case measure => simp [intOf]; omega
      · have h1' : usrOk us[k] = false := by simpa using h1
        rw [h1']
        have hr := Lib.hid (usersB_bad hl h1')
        clear h1 h1'
        go_wp2_with fail
        go_ret
        exact ⟨ret_b hr.out.symm, hB2⟩
    · have hr := Lib.hid (usersB_mk (us := us) (k := k) (by have := HN.out; omega) (by have := HN.out; omega) HA.out)
      have h8' : (n : Int) ≤ 8 := by omega
      go_wp2_with fail
      go_ret
      exact ⟨ret_b hr.out.symm, hb⟩

theorem usrOk_more {u : Stn} (h : usrOk u = true) : sprR u.ph u.nm = some (spreadL (codes u.ph) (codes u.nm)) ∧ sigB (spreadL (codes u.ph) (codes u.nm)) = true ∧ sclR (spreadL (codes u.ph) (codes u.nm)) u.g = some (usrL u) ∧ sigB (usrL u) = true := by
  obtain ⟨h1, h2, h3, h4, h5⟩ := usrOk_parts h
  have e : (u.ph.size : Int) * u.nm.size = ((u.ph.size * u.nm.size : Nat) : Int) := by simp
  have hle : u.ph.size * u.nm.size ≤ 3000 := by omega
  have hs1 : sigB (spreadL (codes u.ph) (codes u.nm)) = true := sigB_mk (by rw [spreadL_len, codes_length, codes_length]; exact hle) (bdL_mono (spreadL_bd _ _) (by omega))
  have hs2 : sigB (usrL u) = true := sigB_mk (usrOk_len h) (bdL_mono (usrOk_bd h) (by omega))
  exact ⟨sprR_yes h2 h1 hle, hs1, sclR_yes hs1 (inB_true (by omega) (by omega)) hs2, hs2⟩
theorem box4 {w : World} {b : Nat} {x y : ByteArray} {g l : Int} {t : TypeId} (h : Box w b #[.string x, .string y, .int .i64 g, .int .i64 l] t) : w.cell? ⟨b, 0, none⟩ = some (.string x) ∧ w.cell? ⟨b, 1, none⟩ = some (.string y) ∧ w.cell? ⟨b, 2, none⟩ = some (.int .i64 g) ∧ w.cell? ⟨b, 3, none⟩ = some (.int .i64 l) :=
  ⟨h.cell (i := 0) rfl, h.cell (i := 1) rfl, h.cell (i := 2) rfl, h.cell (i := 3) rfl⟩
theorem retIntsB_is {w w' : World} {r : Option (List Int)} {l : List Int} {e : Ending} (h : RetIntsB w r e w') (hr : r = some l) : ∃ ao n c, e = .returned (.tuple #[.slice ao n c, .bool true]) ∧ Own w' w.heap.size ao n c l ∧ Below w.heap.size w w' := by
  subst hr; exact h

set_option maxRecDepth 100000 in
set_option maxHeartbeats 1600000 in
theorem SendAll_c {ao : Option Addr} {n c : Nat} {us : List Stn} {w : World} (h : RdS w ao n us) (hi : UIn us) : Calls Try.prog 29 #[.slice ao n c] w (RetIntsB w (sndR us)) := by
  have hs := h.2.1
  by_cases h1 : usersB us = true
  · have hr := Lib.hid (sndR_yes h1)
    have HOK := Lib.hid (fun k (hk : k < us.length) => usersB_at h1 hk)
    have HI := Lib.hid hi
    have HSG := Lib.hid (fun k (hk : k ≤ us.length) => sgnlL_sig h1 hk)
    have HN := Lib.hid h.1
    go_enter Try.func29, Try.ntmps29
    go_wp2_with fail
    refine (usersValid_c h hi).mono ?_; rintro e w1 ⟨rfl, hb1⟩
    rw [h1]
    have hA := h.below hb1
    clear h1 h hi
    have hz1 := hb1.size
    have ho0 : OwnV (w1.alloc (.cells #[] 3)) w.heap.size (.slice (some ⟨w1.heap.size, 0, none⟩) 0 0) [] := OwnV.made0 w1 hz1
    have hb0 := hb1.alloc hz1 (.cells #[] 3)
    have hA0 := hA.below ((Below.refl w1.heap.size w1).alloc (Nat.le_refl _) (.cells #[] 3))
    have hbX : Below w1.heap.size w1 (w1.alloc (.cells #[] 3)) := (Below.refl w1.heap.size w1).alloc (Nat.le_refl _) (.cells #[] 3)
    go_wp2_with fail
    go_loopw [4, 19] (fun v i wr => ∃ k : Nat, k ≤ n ∧ i = .int .i64 k ∧ OwnV wr w.heap.size v (sgnlL (us.take k)) ∧ RdS wr ao n us ∧ Below w.heap.size w wr) (fun _ i _ => n - (intOf i).toNat)
    case atStart => exact ⟨0, Nat.zero_le _, rfl, ho0, hA0, hb0⟩
    case round =>
      clear ho0 hb0 hA0 hbX hA hb1
      obtain ⟨k, hk, rfl, hov, hA, hb⟩ := hrel
      obtain ⟨wo, hwo⟩ : ∃ wo : World, wo = wr := ⟨_, rfl⟩
      subst hwo
      by_cases hlt : k < n
      · obtain ⟨bk, off, rfl, hl, hc0, hc1, hc2, hc3⟩ := hA.at hlt
        have hu := HI.out k hl
        have hl0 : us[k].l = 0 := hu.2.2
        rw [hl0] at hc3
        obtain ⟨q1, q2, q3, q4⟩ := usrOk_more (HOK.out k hl)
        have Q1 := Lib.hid q1
        have Q2 := Lib.hid q2
        have Q3 := Lib.hid q3
        have Q4 := Lib.hid q4
        have HT := Lib.hid (sgnlL_take hl)
        have S1 := Lib.hid (HSG.out k (by omega))
        have S2 := Lib.hid (HSG.out (k + 1) (by omega))
        clear q1 q2 q3 q4 hl0 hu
        have hlen : (sgnlL (us.take k)).length ≤ 1099511627776 := by have := sigB_len S1.out; omega
        obtain ⟨av, nv, cv, rfl, ho⟩ := hov.own hlen
        have hz := hb.size
        have hBx0 := Box.new wo #[.string us[k].nm, .string us[k].ph, .int .i64 us[k].g, .int .i64 0] 60
        have hD0 : Below wo.heap.size wo (wo.alloc (.cells #[.string us[k].nm, .string us[k].ph, .int .i64 us[k].g, .int .i64 0] 60)) := (Below.refl _ _).alloc (Nat.le_refl _) _
        have d0 := hBx0.cell (i := 0) rfl
        have d1 := hBx0.cell (i := 1) rfl
        have hzb := hBx0.lt
        go_wp2_with fail
        refine (SpreadBits_c us[k].ph us[k].nm _).mono ?_; rintro e w2 hret
        obtain ⟨a2, n2, c2, rfl, ho2, hb2⟩ := retIntsB_is hret Q1.out
        have hBx2 := hBx0.below hb2 hzb
        have hD2 := hD0.trans (hb2.mono hD0.size)
        clear hc0 hc1 hc2 hc3 d0 d1
        have d2 := hBx2.cell (i := 2) rfl
        go_wp2_with fail
        refine (ScaleSignal_c us[k].g ho2.rd).mono ?_; rintro e w3 hret
        obtain ⟨a3, n3, c3, rfl, ho3, hb3⟩ := retIntsB_is hret Q3.out
        have hBx3 := hBx2.below hb3 hBx2.lt
        have hD3 := hD2.trans (hb3.mono hD2.size)
        clear d2 hb2 hb3
        have d3 := hBx3.cell (i := 3) rfl
        go_wp2_with fail
        refine (DelaySignal0_c ho3.rd Q4.out).mono ?_; rintro e w4 hret
        obtain ⟨a4, n4, c4, rfl, ho4, hb4⟩ := hret.some
        have hD4 := hD3.trans (hb4.mono hD3.size)
        have ho5 := ho.below hD4
        clear d3 hb4
        go_wp2_with fail
        refine (AddSignals_c ho5.rd ho4.rd S1.out Q4.out (by rw [← HT.out]; exact S2.out)).mono ?_; rintro e w5 hret
        obtain ⟨a6, n6, c6, rfl, ho6, hb6⟩ := hret.some
        have hD6 := hD4.trans (hb6.mono hD4.size)
        have hB6 := hb.trans (hD6.mono hz)
        have hA6 := hA.below hD6
        have hov6 : OwnV w5 w.heap.size (.slice a6 n6 c6) (sgnlL (us.take (k + 1))) := by
          rw [HT.out]
          have := (ho6.mono (Nat.le_trans hz hD4.size)).2.2
          unfold OwnV
          rw [← ho6.1]; exact this
        clear hb6 hov hA hBx0 hBx2 hBx3
        go_wp2_with fail
        go_roundw
        case rel => exact ⟨k + 1, by omega, by go_num, hov6, hA6, hB6⟩
        case measure => simp [intOf]; omega
      · obtain rfl : k = n := by omega
        rw [List.take_of_length_le (by rw [← HN.out]; exact Nat.le_refl _)] at hov
        have S1 := HSG.out us.length (Nat.le_refl _)
        rw [List.take_length] at S1
        obtain ⟨av, nv, cv, rfl, ho⟩ := hov.own (by have := sigB_len S1; omega)
        clear S1
        go_wp2_with fail
        go_ret2
        exact ⟨_, _, _, by rw [hr.out]; rfl, by rw [hr.out]; exact ho, hb⟩
  · have h1' : usersB us = false := by simpa using h1
    have hr := Lib.hid (sndR_no h1')
    go_enter Try.func29, Try.ntmps29
    go_wp2_with fail
    refine (usersValid_c h hi).mono ?_; rintro e w1 ⟨rfl, hb1⟩
    rw [h1']
    clear h1 h1'
    go_wp2_with fail
    go_ret2
    exact retIntsB_nil hr.out hb1

set_option maxRecDepth 100000 in
set_option maxHeartbeats 1600000 in
theorem l4Send_c {ao : Option Addr} {n c : Nat} {us : List Stn} {w : World} (h : RdS w ao n us) (hi : UIn us) (h1 : usersB us = true) : Calls Try.prog 80 #[.slice ao n c] w (RetInts w (sgnlL us)) := by
  have hs := h.2.1
  have HOK := Lib.hid (fun k (hk : k < us.length) => usersB_at h1 hk)
  have HI := Lib.hid hi
  have HSG := Lib.hid (fun k (hk : k ≤ us.length) => sgnlL_sig h1 hk)
  have HN := Lib.hid h.1
  have ho0 : OwnV (w.alloc (.cells #[] 3)) w.heap.size (.slice (some ⟨w.heap.size, 0, none⟩) 0 0) [] := OwnV.made0 w (Nat.le_refl _)
  have hb0 : Below w.heap.size w (w.alloc (.cells #[] 3)) := (Below.refl _ _).alloc (Nat.le_refl _) _
  clear h1 hi
  go_enter Try.func80, Try.ntmps80
  go_wp2
  go_loopw [3, 4] (fun v i wr => ∃ k : Nat, k ≤ n ∧ i = .int .i64 k ∧ OwnV wr w.heap.size v (sgnlL (us.take k)) ∧ RdS wr ao n us ∧ Below w.heap.size w wr) (fun _ i _ => n - (intOf i).toNat)
  case atStart => exact ⟨0, Nat.zero_le _, rfl, ho0, h.below hb0, hb0⟩
  case round =>
    clear ho0 hb0 h
    obtain ⟨k, hk, rfl, hov, hA, hb⟩ := hrel
    obtain ⟨wo, hwo⟩ : ∃ wo : World, wo = wr := ⟨_, rfl⟩
    subst hwo
    by_cases hlt : k < n
    · obtain ⟨bk, off, rfl, hl, hc0, hc1, hc2, hc3⟩ := hA.at hlt
      have hu := HI.out k hl
      have hl0 : us[k].l = 0 := hu.2.2
      rw [hl0] at hc3
      have HOKk := HOK.out k hl
      obtain ⟨q1, q2, q3, q4⟩ := usrOk_more HOKk
      obtain ⟨p1, p2, p3, _, _⟩ := usrOk_parts HOKk
      have hp6 := bitsB_sz600 p2
      obtain ⟨_, hn255⟩ := seqB_size p1
      have PB := Lib.hid (seqB_bit p1)
      have P3 : -1000000 ≤ us[k].g ∧ us[k].g ≤ 1000000 := by omega
      have Q2 := Lib.hid q2
      have Q4 := Lib.hid q4
      have HT := Lib.hid (sgnlL_take hl)
      have S1 := Lib.hid (HSG.out k (by omega))
      have HUS := Lib.hid (show scaleL us[k].g (spreadL (codes us[k].ph) (codes us[k].nm)) = usrL us[k] from rfl)
      have HLL := Lib.hid (usrOk_len HOKk)
      clear q1 q2 q3 q4 hl0 hu HOKk p1 p2 p3
      have hlen : (sgnlL (us.take k)).length ≤ 1099511627776 := by have := sigB_len S1.out; omega
      obtain ⟨av, nv, cv, rfl, ho⟩ := hov.own hlen
      have hz := hb.size
      have hBx0 := Box.new wo #[.string us[k].nm, .string us[k].ph, .int .i64 us[k].g, .int .i64 0] 60
      have hD0 : Below wo.heap.size wo (wo.alloc (.cells #[.string us[k].nm, .string us[k].ph, .int .i64 us[k].g, .int .i64 0] 60)) := (Below.refl _ _).alloc (Nat.le_refl _) _
      have hzb := hBx0.lt
      go_wp2_with fail
      obtain ⟨wz, hwz⟩ : ∃ wz : World, wz = (wo.alloc (.cells #[.string us[k].nm, .string us[k].ph, .int .i64 us[k].g, .int .i64 0] 60)).drew := ⟨_, rfl⟩
      have hBz : Box wz wo.heap.size #[.string us[k].nm, .string us[k].ph, .int .i64 us[k].g, .int .i64 0] 60 := by rw [hwz]; exact hBx0
      have hDz : Below wo.heap.size wo wz := by rw [hwz]; exact hD0.drew
      have C0 : (wo.alloc (.cells #[.string us[k].nm, .string us[k].ph, .int .i64 us[k].g, .int .i64 0] 60)).drew.cell? ⟨wo.heap.size, 0, none⟩ = some (.string us[k].nm) ∧ (wo.alloc (.cells #[.string us[k].nm, .string us[k].ph, .int .i64 us[k].g, .int .i64 0] 60)).drew.cell? ⟨wo.heap.size, 1, none⟩ = some (.string us[k].ph) ∧ (wo.alloc (.cells #[.string us[k].nm, .string us[k].ph, .int .i64 us[k].g, .int .i64 0] 60)).drew.cell? ⟨wo.heap.size, 2, none⟩ = some (.int .i64 us[k].g) ∧ (wo.alloc (.cells #[.string us[k].nm, .string us[k].ph, .int .i64 us[k].g, .int .i64 0] 60)).drew.cell? ⟨wo.heap.size, 3, none⟩ = some (.int .i64 0) := ⟨hBx0.cell (i := 0) rfl, hBx0.cell (i := 1) rfl, hBx0.cell (i := 2) rfl, hBx0.cell (i := 3) rfl⟩
      clear hc0 hc1 hc2 hc3
      go_region_held3 (fun w' => w'.cell? ⟨wo.heap.size, 0, none⟩ = some (.string us[k].nm) ∧ w'.cell? ⟨wo.heap.size, 1, none⟩ = some (.string us[k].ph) ∧ w'.cell? ⟨wo.heap.size, 2, none⟩ = some (.int .i64 us[k].g) ∧ w'.cell? ⟨wo.heap.size, 3, none⟩ = some (.int .i64 0)) (with_reducible assumption) (first | (go_at_call 126; refine (l4Spread_c us[k].ph us[k].nm _ hp6 hn255 PB.out).mono ?_; rintro e w2 ⟨a2, n2, c2, rfl, ho2, hb2⟩; rw [← hwz] at hb2; have hBx2 := hBz.below hb2 hBz.lt; have hD2 := hDz.trans (hb2.mono hDz.size); have C1 := box4 hBx2) | (go_at_call 125; refine (l4Scale_c us[k].g ho2.rd Q2.out P3).mono ?_; rintro e w3 ⟨a3, n3, c3, rfl, ho3, hb3⟩; rw [HUS.out] at ho3; have hBx3 := hBx2.below hb3 hBx2.lt; have hD3 := hD2.trans (hb3.mono hD2.size); have C2 := box4 hBx3) | (go_at_call 124; refine (l4Delay0_c ho3.rd (fun h0 => ho3.zeroI h0) (by rw [ho3.1]; have := HLL.out; omega)).mono ?_; rintro e w4 ⟨a4, n4, c4, rfl, ho4, hb4⟩; have hBx4 := hBx3.below hb4 hBx3.lt; have hD4 := hD3.trans (hb4.mono hD3.size); have C3 := box4 hBx4) | (go_at_call 123; refine (l4Add_c (ho.below hD4).rd ho4.rd S1.out Q4.out).mono ?_; rintro e w5 ⟨a6, n6, c6, rfl, ho6, hb6⟩; have hBx5 := hBx4.below hb6 hBx4.lt; have hD6 := hD4.trans (hb6.mono hD4.size); have C4 := box4 hBx5))
      all_goals
        have hB6 := hb.trans (hD6.mono hz)
        have hA6 := hA.below hD6
        have hov6 : OwnV w5 w.heap.size (.slice a6 n6 c6) (sgnlL (us.take (k + 1))) := by
          rw [HT.out]
          have := (ho6.mono (Nat.le_trans hz hD4.size)).2.2
          unfold OwnV
          rw [← ho6.1]; exact this
        clear hwz
        go_wp2_with fail
        go_roundw
        case rel => exact ⟨k + 1, by omega, by go_num, hov6, hA6, hB6⟩
        case measure => simp [intOf]; omega
    · obtain rfl : k = n := by omega
      rw [List.take_of_length_le (by rw [← HN.out]; exact Nat.le_refl _)] at hov
      have S1 := HSG.out us.length (Nat.le_refl _)
      rw [List.take_length] at S1
      obtain ⟨av, nv, cv, rfl, ho⟩ := hov.own (by have := sigB_len S1; omega)
      clear S1
      go_wp2_with fail
      go_ret
      exact ⟨_, _, _, rfl, ho, hb⟩

set_option maxHeartbeats 1600000 in
theorem sSendAll_c {ao : Option Addr} {n c : Nat} {us : List Stn} {w : World} (h : RdS w ao n us) (hi : UIn us) (h8 : n ≤ 8) (hz : ∀ i (h : i < us.length), (us[i]'h).ph.size ≤ 1099511627776) : Calls Try.prog 32 #[.slice ao n c] w (RetIntsB w (sndR us)) := by
  by_cases h1 : usersB us = true
  · have hr := Lib.hid (sndR_yes h1)
    have H1 := Lib.hid h1
    go_enter Try.func32, Try.ntmps32
    go_wp2_with fail
    refine (l4Users_c h hi h8 hz).mono ?_; rintro e w1 ⟨rfl, hb1⟩
    rw [h1]
    clear h1
    go_wp2_with fail
    refine (l4Send_c (h.below hb1) hi H1.out).mono ?_; rintro e w2 ⟨a2, n2, c2, rfl, ho, hb2⟩
    have hb3 := hb1.trans (hb2.mono hb1.size)
    have ho3 := ho.mono hb1.size
    go_wp2_with fail
    go_ret2
    exact ⟨_, _, _, by rw [hr.out]; rfl, by rw [hr.out]; exact ho3, hb3⟩
  · have h1' : usersB us = false := by simpa using h1
    have hr := Lib.hid (sndR_no h1')
    go_enter Try.func32, Try.ntmps32
    go_wp2_with fail
    refine (l4Users_c h hi h8 hz).mono ?_; rintro e w1 ⟨rfl, hb1⟩
    rw [h1']
    clear h1 h1'
    have ho0 : OwnV (w1.alloc (.cells #[] 3)) w.heap.size (.slice (some ⟨w1.heap.size, 0, none⟩) 0 0) [] := OwnV.made0 w1 hb1.size
    have hb3 := hb1.alloc hb1.size (.cells #[] 3)
    go_wp2_with fail
    go_ret2
    exact retIntsB_mk ho0 (by simp) (by rw [hr.out]; rfl) (by rw [hr.out]; rfl) hb3

end Go.Proofs.Ytadcckjlcmnhbaa
