/- Strings: all bytes of a kind; bits, names and paths, of the program and of the reference. -/
import Derived.Test.YtdedcablhahbnaaDoorHv
namespace Go.Proofs.YtdedcablhahbnaaDoor
open Go.RowKit

def allS (p : UInt8 → Bool) (s : ByteArray) : Bool := s.data.toList.all p
def allT (p : UInt8 → Bool) (s : ByteArray) (k : Nat) : Bool := (s.data.toList.take k).all p
theorem take_snocS (s : ByteArray) (k : Nat) (h : k < s.size) : s.data.toList.take (k + 1) = s.data.toList.take k ++ [s[k]] := by
  rw [List.take_succ_eq_append_getElem (by simpa using h)]; rfl
theorem allT_zero (p : UInt8 → Bool) (s : ByteArray) : allT p s 0 = true := rfl
theorem allT_succ {p : UInt8 → Bool} {s : ByteArray} {k : Nat} (hk : k < s.size) (h : allT p s k = true) (h1 : p s[k] = true) : allT p s (k + 1) = true := by
  unfold allT at *
  rw [take_snocS s k hk, List.all_append, h]; simp [h1]
theorem allS_false {p : UInt8 → Bool} {s : ByteArray} {k : Nat} (hk : k < s.size) (h1 : p s[k] = false) : allS p s = false := by
  unfold allS
  rw [List.all_eq_false]
  exact ⟨s[k], by rw [← Array.mem_def]; exact ByteArray.getElem_eq_getElem_data (h := hk) ▸ Array.getElem_mem _, by simp [h1]⟩
theorem allS_whole {p : UInt8 → Bool} {s : ByteArray} {k : Nat} (hk : s.size ≤ k) (h : allT p s k = true) : allS p s = true := by
  unfold allT at h
  rwa [List.take_of_length_le (by simpa using hk)] at h

def letC (c : UInt8) : Bool := inB (c.toNat : Int) 97 122
def bitC (c : UInt8) : Bool := ((c.toNat : Int) == 48) || ((c.toNat : Int) == 49)
def nameB (s : ByteArray) : Bool := inB (s.size : Int) 1 8 && allS letC s
def bitsB (s : ByteArray) : Bool := decide (s.size ≤ 600) && allS bitC s
def pathB (s : ByteArray) : Bool := decide (s.size ≤ 6) && allS bitC s

set_option maxHeartbeats 800000 in
theorem nameValid_c (s : ByteArray) (w : World) : Calls Tryd.prog 38 #[.string s] w fun e w' => e = .returned (.bool (nameB s)) ∧ w = w' := by
  by_cases h1 : (s.size : Int) < 1
  · have hr := Lib.hid (show nameB s = false by unfold nameB; rw [inB_lo h1]; rfl)
    go_enter Tryd.func38, Tryd.ntmps38
    go_wp2
    go_ret
    exact ⟨ret_b hr.out.symm, rfl⟩
  by_cases h2 : (8 : Int) < (s.size : Int)
  · have hr := Lib.hid (show nameB s = false by unfold nameB; rw [inB_hi h2]; rfl)
    go_enter Tryd.func38, Tryd.ntmps38
    go_wp2
    go_ret
    exact ⟨ret_b hr.out.symm, rfl⟩
  have hr := Lib.hid (show nameB s = allS letC s by unfold nameB; rw [inB_true (by omega) (by omega)]; rfl)
  go_enter Tryd.func38, Tryd.ntmps38
  go_wp2
  go_loop [14] (fun i => ∃ k : Nat, k ≤ s.size ∧ i = .int .i64 k ∧ allT letC s k = true) (fun i => s.size - (intOf i).toNat)
  case atStart => exact ⟨0, Nat.zero_le _, rfl, rfl⟩
  case round =>
    obtain ⟨k, hk, rfl, hall⟩ := hrel
    have HA := Lib.hid hall; clear hall
    by_cases hlt : k < s.size
    · by_cases h3 : (s[k].toNat : Int) < 97
      · have HF := Lib.hid (allS_false hlt (show letC s[k] = false from inB_lo h3))
        go_wp2
        go_ret
        exact ⟨ret_b (by rw [hr.out, HF.out]), rfl⟩
      · by_cases h4 : (122 : Int) < (s[k].toNat : Int)
        · have HF := Lib.hid (allS_false hlt (show letC s[k] = false from inB_hi h4))
          go_wp2
          go_ret
          exact ⟨ret_b (by rw [hr.out, HF.out]), rfl⟩
        · have HT := Lib.hid (allT_succ hlt HA.out (show letC s[k] = true from inB_true (by omega) (by omega)))
          go_wp2
          go_round
          case rel => exact ⟨k + 1, by omega, by go_num, HT.out⟩
          case measure => simp [intOf]; omega
    · go_wp2
      go_ret
      exact ⟨ret_b (by rw [hr.out, allS_whole (by omega) HA.out]), rfl⟩

set_option maxHeartbeats 800000 in
theorem l8Name_c (s : ByteArray) (w : World) (hs : s.size ≤ 1099511627776) : Calls Tryd.prog 50 #[.string s] w fun e w' => e = .returned (.bool (nameB s)) ∧ w = w' := by
  have hr := Lib.hid (show nameB s = (inB (s.size : Int) 1 8 && allS letC s) from rfl)
  go_enter Tryd.func50, Tryd.ntmps50
  go_wp2
  go_loop [3] (fun i => ∃ k : Nat, k ≤ s.size ∧ i = .int .i64 k ∧ allT letC s k = true) (fun i => s.size - (intOf i).toNat)
  case atStart => exact ⟨0, Nat.zero_le _, rfl, rfl⟩
  case round =>
    obtain ⟨k, hk, rfl, hall⟩ := hrel
    have HA := Lib.hid hall; clear hall
    by_cases hlt : k < s.size
    · by_cases h3 : (s[k].toNat : Int) < 97
      · have HF := Lib.hid (allS_false hlt (show letC s[k] = false from inB_lo h3))
        go_wp2
        go_ret
        exact ⟨ret_b (by rw [hr.out, HF.out]; simp), rfl⟩
      · by_cases h4 : (122 : Int) < (s[k].toNat : Int)
        · have HF := Lib.hid (allS_false hlt (show letC s[k] = false from inB_hi h4))
          go_wp2
          go_ret
          exact ⟨ret_b (by rw [hr.out, HF.out]; simp), rfl⟩
        · have HT := Lib.hid (allT_succ hlt HA.out (show letC s[k] = true from inB_true (by omega) (by omega)))
          go_wp2
          go_round
          case rel => exact ⟨k + 1, by omega, by go_num, HT.out⟩
          case measure => simp [intOf]; omega
    · go_wp2_with (go_at_call 52; refine (l1In_c _ _ _ _).mono ?_; rintro e w' ⟨rfl, rfl⟩)
      go_ret
      exact ⟨ret_b (by rw [hr.out, allS_whole (by omega) HA.out]; simp), rfl⟩

theorem bitC_not {c : UInt8} (h1 : ((c.toNat : Int) == 48) = false) (h2 : ((c.toNat : Int) == 49) = false) : bitC c = false := by unfold bitC; rw [h1, h2]; rfl
theorem bitC_yes {c : UInt8} (h : ((c.toNat : Int) == 48) = true ∨ ((c.toNat : Int) == 49) = true) : bitC c = true := by
  unfold bitC; rcases h with h | h <;> simp [h]

set_option maxHeartbeats 800000 in
theorem isBits_c (s : ByteArray) (w : World) : Calls Tryd.prog 53 #[.string s] w fun e w' => e = .returned (.bool (bitsB s)) ∧ w = w' := by
  by_cases h2 : (600 : Int) < (s.size : Int)
  · have hr := Lib.hid (show bitsB s = false by unfold bitsB; rw [decide_eq_false (by omega)]; rfl)
    go_enter Tryd.func53, Tryd.ntmps53
    go_wp2
    go_ret
    exact ⟨ret_b hr.out.symm, rfl⟩
  have hr := Lib.hid (show bitsB s = allS bitC s by unfold bitsB; rw [decide_eq_true (by omega)]; rfl)
  go_enter Tryd.func53, Tryd.ntmps53
  go_wp2
  go_loop [9] (fun i => ∃ k : Nat, k ≤ s.size ∧ i = .int .i64 k ∧ allT bitC s k = true) (fun i => s.size - (intOf i).toNat)
  case atStart => exact ⟨0, Nat.zero_le _, rfl, rfl⟩
  case round =>
    obtain ⟨k, hk, rfl, hall⟩ := hrel
    have HA := Lib.hid hall; clear hall
    by_cases hlt : k < s.size
    · by_cases h3 : ((s[k].toNat : Int) == 48) = true
      · have h3' : ((s[k].toNat : Int) != 48) = false := by simp [bne, h3]
        have HT := Lib.hid (allT_succ hlt HA.out (bitC_yes (.inl h3)))
        clear h3
        go_wp2
        go_round
        case rel => exact ⟨k + 1, by omega, by go_num, HT.out⟩
        case measure => simp [intOf]; omega
      · have h3a : ((s[k].toNat : Int) == 48) = false := by simpa using h3
        have h3' : ((s[k].toNat : Int) != 48) = true := by simp [bne, h3a]
        clear h3
        by_cases h4 : ((s[k].toNat : Int) == 49) = true
        · have h4' : ((s[k].toNat : Int) != 49) = false := by simp [bne, h4]
          have HT := Lib.hid (allT_succ hlt HA.out (bitC_yes (.inr h4)))
          clear h4
          go_wp2
          go_round
          case rel => exact ⟨k + 1, by omega, by go_num, HT.out⟩
          case measure => simp [intOf]; omega
        · have h4a : ((s[k].toNat : Int) == 49) = false := by simpa using h4
          have h4' : ((s[k].toNat : Int) != 49) = true := by simp [bne, h4a]
          have HF := Lib.hid (allS_false hlt (bitC_not h3a h4a))
          clear h4
          go_wp2
          go_ret
          exact ⟨ret_b (by rw [hr.out, HF.out]), rfl⟩
    · go_wp2
      go_ret
      exact ⟨ret_b (by rw [hr.out, allS_whole (by omega) HA.out]), rfl⟩

set_option maxHeartbeats 800000 in
theorem l1Bits_c (s : ByteArray) (w : World) (hs : s.size ≤ 1099511627776) : Calls Tryd.prog 67 #[.string s] w fun e w' => e = .returned (.bool (bitsB s)) ∧ w = w' := by
  have hr := Lib.hid (show bitsB s = (decide (s.size ≤ 600) && allS bitC s) from rfl)
  go_enter Tryd.func67, Tryd.ntmps67
  go_wp2
  go_loop [3] (fun i => ∃ k : Nat, k ≤ s.size ∧ i = .int .i64 k ∧ allT bitC s k = true) (fun i => s.size - (intOf i).toNat)
  case atStart => exact ⟨0, Nat.zero_le _, rfl, rfl⟩
  case round =>
    obtain ⟨k, hk, rfl, hall⟩ := hrel
    have HA := Lib.hid hall; clear hall
    by_cases hlt : k < s.size
    · by_cases h3 : ((s[k].toNat : Int) == 48) = true
      · have h3' : ((s[k].toNat : Int) != 48) = false := by simp [bne, h3]
        have HT := Lib.hid (allT_succ hlt HA.out (bitC_yes (.inl h3)))
        clear h3
        go_wp2
        go_round
        case rel => exact ⟨k + 1, by omega, by go_num, HT.out⟩
        case measure => simp [intOf]; omega
      · have h3a : ((s[k].toNat : Int) == 48) = false := by simpa using h3
        have h3' : ((s[k].toNat : Int) != 48) = true := by simp [bne, h3a]
        clear h3
        by_cases h4 : ((s[k].toNat : Int) == 49) = true
        · have h4' : ((s[k].toNat : Int) != 49) = false := by simp [bne, h4]
          have HT := Lib.hid (allT_succ hlt HA.out (bitC_yes (.inr h4)))
          clear h4
          go_wp2
          go_round
          case rel => exact ⟨k + 1, by omega, by go_num, HT.out⟩
          case measure => simp [intOf]; omega
        · have h4a : ((s[k].toNat : Int) == 49) = false := by simpa using h4
          have h4' : ((s[k].toNat : Int) != 49) = true := by simp [bne, h4a]
          have HF := Lib.hid (allS_false hlt (bitC_not h3a h4a))
          clear h4
          go_wp2
          go_ret
          exact ⟨ret_b (by rw [hr.out, HF.out]; simp), rfl⟩
    · by_cases h5 : s.size ≤ 600
      all_goals
        go_wp2
        go_ret
        exact ⟨ret_b (by rw [hr.out, allS_whole (by omega) HA.out]; simp; try omega), rfl⟩

set_option maxHeartbeats 400000 in
theorem pathValid_c (s : ByteArray) (w : World) : Calls Tryd.prog 39 #[.string s] w fun e w' => e = .returned (.bool (pathB s)) ∧ w = w' := by
  by_cases h : (s.size : Int) ≤ 6
  · have hr := Lib.hid (show pathB s = bitsB s by unfold pathB bitsB; rw [decide_eq_true (by omega), decide_eq_true (by omega)])
    go_enter Tryd.func39, Tryd.ntmps39
    go_wp2_with fail
    refine (isBits_c _ _).mono ?_; rintro e w' ⟨rfl, rfl⟩
    go_wp2_with fail
    go_ret
    exact ⟨ret_b hr.out.symm, rfl⟩
  · have hr := Lib.hid (show pathB s = false by unfold pathB; rw [decide_eq_false (by omega)]; rfl)
    go_enter Tryd.func39, Tryd.ntmps39
    go_wp2_with fail
    go_ret
    exact ⟨ret_b hr.out.symm, rfl⟩

set_option maxHeartbeats 400000 in
theorem l3Path_c (s : ByteArray) (w : World) (hs : s.size ≤ 1099511627776) : Calls Tryd.prog 51 #[.string s] w fun e w' => e = .returned (.bool (pathB s)) ∧ w = w' := by
  by_cases h : (s.size : Int) ≤ 6
  · have hr := Lib.hid (show pathB s = bitsB s by unfold pathB bitsB; rw [decide_eq_true (by omega), decide_eq_true (by omega)])
    by_cases h1 : bitsB s = true
    · go_enter Tryd.func51, Tryd.ntmps51
      go_wp2_with fail
      refine (l1Bits_c _ _ hs).mono ?_; rintro e w' ⟨rfl, rfl⟩
      go_wp2_with fail
      go_ret
      exact ⟨ret_b ((show _ = true by simp; try omega).trans (hr.out.trans h1).symm), rfl⟩
    · have h1' : bitsB s = false := by simpa using h1
      clear h1
      go_enter Tryd.func51, Tryd.ntmps51
      go_wp2_with fail
      refine (l1Bits_c _ _ hs).mono ?_; rintro e w' ⟨rfl, rfl⟩
      go_wp2_with fail
      go_ret
      exact ⟨ret_b (hr.out.trans h1').symm, rfl⟩
  · have hr := Lib.hid (show pathB s = false by unfold pathB; rw [decide_eq_false (by omega)]; rfl)
    by_cases h1 : bitsB s = true
    · go_enter Tryd.func51, Tryd.ntmps51
      go_wp2_with fail
      refine (l1Bits_c _ _ hs).mono ?_; rintro e w' ⟨rfl, rfl⟩
      go_wp2_with fail
      go_ret
      exact ⟨ret_b (by rw [hr.out]; simp; try omega), rfl⟩
    · have h1' : bitsB s = false := by simpa using h1
      clear h1
      go_enter Tryd.func51, Tryd.ntmps51
      go_wp2_with fail
      refine (l1Bits_c _ _ hs).mono ?_; rintro e w' ⟨rfl, rfl⟩
      go_wp2_with fail
      go_ret
      exact ⟨ret_b hr.out.symm, rfl⟩

/-- A station's own test. -/
def stB (nm ph : ByteArray) (g l : Int) : Bool := nameB nm && pathB ph && inB g 0 1000 && inB l 1 20

set_option maxHeartbeats 400000 in
theorem lossValid_c (n : Int) (w : World) : Calls Tryd.prog 40 #[.int .i64 n] w fun e w' => e = .returned (.bool (inB n 1 20)) ∧ w = w' := by
  by_cases h1 : 1 ≤ n <;> by_cases h2 : n ≤ 20 <;> (
  go_enter Tryd.func40, Tryd.ntmps40
  go_wp2
  go_ret
  simp [h1, h2, inB])


set_option maxHeartbeats 1600000 in
theorem stationValid_c (nm ph : ByteArray) (g l : Int) (w : World) : Calls Tryd.prog 20 #[.agg #[.string nm, .string ph, .int .i64 g, .int .i64 l]] w fun e w' => e = .returned (.bool (stB nm ph g l)) ∧ Below w.heap.size w w' := by
  have hb : Below w.heap.size w (w.alloc (.cells #[.string nm, .string ph, .int .i64 g, .int .i64 l] 37)) := (Below.refl _ _).alloc (Nat.le_refl _) _
  by_cases h1 : nameB nm = true
  · by_cases h2 : pathB ph = true
    · by_cases h3 : 0 ≤ g
      · by_cases h4 : g ≤ 1000
        · have hr := Lib.hid (show stB nm ph g l = inB l 1 20 by unfold stB; rw [h1, h2, inB_true h3 h4]; rfl)
          go_enter Tryd.func20, Tryd.ntmps20
          go_wp2_with fail
          refine (nameValid_c _ _).mono ?_; rintro e w' ⟨rfl, rfl⟩
          go_wp2_with fail
          refine (pathValid_c _ _).mono ?_; rintro e w' ⟨rfl, rfl⟩
          go_wp2_with fail
          refine (lossValid_c _ _).mono ?_; rintro e w' ⟨rfl, rfl⟩
          go_wp2_with fail
          go_ret
          exact ⟨ret_b hr.out.symm, hb⟩
        · have hr := Lib.hid (show stB nm ph g l = false by unfold stB; rw [inB_hi (show 1000 < g by omega)]; simp)
          go_enter Tryd.func20, Tryd.ntmps20
          go_wp2_with fail
          refine (nameValid_c _ _).mono ?_; rintro e w' ⟨rfl, rfl⟩
          go_wp2_with fail
          refine (pathValid_c _ _).mono ?_; rintro e w' ⟨rfl, rfl⟩
          go_wp2_with fail
          go_ret
          exact ⟨ret_b hr.out.symm, hb⟩
      · have hr := Lib.hid (show stB nm ph g l = false by unfold stB; rw [inB_lo (show g < 0 by omega)]; simp)
        go_enter Tryd.func20, Tryd.ntmps20
        go_wp2_with fail
        refine (nameValid_c _ _).mono ?_; rintro e w' ⟨rfl, rfl⟩
        go_wp2_with fail
        refine (pathValid_c _ _).mono ?_; rintro e w' ⟨rfl, rfl⟩
        go_wp2_with fail
        go_ret
        exact ⟨ret_b hr.out.symm, hb⟩
    · have h2' : pathB ph = false := by simpa using h2
      have hr := Lib.hid (show stB nm ph g l = false by unfold stB; rw [h2']; simp)
      clear h2
      go_enter Tryd.func20, Tryd.ntmps20
      go_wp2_with fail
      refine (nameValid_c _ _).mono ?_; rintro e w' ⟨rfl, rfl⟩
      go_wp2_with fail
      refine (pathValid_c _ _).mono ?_; rintro e w' ⟨rfl, rfl⟩
      go_wp2_with fail
      go_ret
      exact ⟨ret_b hr.out.symm, hb⟩
  · have h1' : nameB nm = false := by simpa using h1
    have hr := Lib.hid (show stB nm ph g l = false by unfold stB; rw [h1']; simp)
    clear h1
    go_enter Tryd.func20, Tryd.ntmps20
    go_wp2_with fail
    refine (nameValid_c _ _).mono ?_; rintro e w' ⟨rfl, rfl⟩
    go_wp2_with fail
    go_ret
    exact ⟨ret_b hr.out.symm, hb⟩

set_option maxHeartbeats 1600000 in
theorem l8Station_c (nm ph : ByteArray) (g l : Int) (w : World) (hn : nm.size ≤ 1099511627776) (hp : ph.size ≤ 1099511627776) : Calls Tryd.prog 36 #[.agg #[.string nm, .string ph, .int .i64 g, .int .i64 l]] w fun e w' => e = .returned (.bool (stB nm ph g l)) ∧ Below w.heap.size w w' := by
  have hb : Below w.heap.size w (w.alloc (.cells #[.string nm, .string ph, .int .i64 g, .int .i64 l] 37)) := (Below.refl _ _).alloc (Nat.le_refl _) _
  by_cases h1 : nameB nm = true
  · by_cases h2 : pathB ph = true
    · by_cases h3 : inB g 0 1000 = true
      · have hr := Lib.hid (show stB nm ph g l = inB l 1 20 by unfold stB; rw [h1, h2, h3]; rfl)
        go_enter Tryd.func36, Tryd.ntmps36
        go_wp2_with fail
        refine (l8Name_c _ _ hn).mono ?_; rintro e w' ⟨rfl, rfl⟩
        go_wp2_with fail
        refine (l3Path_c _ _ hp).mono ?_; rintro e w' ⟨rfl, rfl⟩
        go_wp2_with fail
        refine (l1In_c _ _ _ _).mono ?_; rintro e w' ⟨rfl, rfl⟩
        go_wp2_with fail
        refine (l1In_c _ _ _ _).mono ?_; rintro e w' ⟨rfl, rfl⟩
        go_wp2_with fail
        go_ret
        exact ⟨ret_b hr.out.symm, hb⟩
      · have h3' : inB g 0 1000 = false := by simpa using h3
        have hr := Lib.hid (show stB nm ph g l = false by unfold stB; rw [h3']; simp)
        clear h3
        go_enter Tryd.func36, Tryd.ntmps36
        go_wp2_with fail
        refine (l8Name_c _ _ hn).mono ?_; rintro e w' ⟨rfl, rfl⟩
        go_wp2_with fail
        refine (l3Path_c _ _ hp).mono ?_; rintro e w' ⟨rfl, rfl⟩
        go_wp2_with fail
        refine (l1In_c _ _ _ _).mono ?_; rintro e w' ⟨rfl, rfl⟩
        go_wp2_with fail
        go_ret
        exact ⟨ret_b hr.out.symm, hb⟩
    · have h2' : pathB ph = false := by simpa using h2
      have hr := Lib.hid (show stB nm ph g l = false by unfold stB; rw [h2']; simp)
      clear h2
      go_enter Tryd.func36, Tryd.ntmps36
      go_wp2_with fail
      refine (l8Name_c _ _ hn).mono ?_; rintro e w' ⟨rfl, rfl⟩
      go_wp2_with fail
      refine (l3Path_c _ _ hp).mono ?_; rintro e w' ⟨rfl, rfl⟩
      go_wp2_with fail
      go_ret
      exact ⟨ret_b hr.out.symm, hb⟩
  · have h1' : nameB nm = false := by simpa using h1
    have hr := Lib.hid (show stB nm ph g l = false by unfold stB; rw [h1']; simp)
    clear h1
    go_enter Tryd.func36, Tryd.ntmps36
    go_wp2_with fail
    refine (l8Name_c _ _ hn).mono ?_; rintro e w' ⟨rfl, rfl⟩
    go_wp2_with fail
    go_ret
    exact ⟨ret_b hr.out.symm, hb⟩

theorem stB_ranges {nm ph : ByteArray} {g l : Int} (h : stB nm ph g l = true) : (0 ≤ g ∧ g ≤ 1000) ∧ (1 ≤ l ∧ l ≤ 20) := by
  unfold stB at h
  simp only [Bool.and_eq_true] at h
  exact ⟨inB_iff.1 h.1.2, inB_iff.1 h.2⟩
def strOf (nm ph : ByteArray) (g l : Int) : Int := if stB nm ph g l = true then g / l else -1
def goalOf (nm ph : ByteArray) (g l t : Int) : Int := if (stB nm ph g l && inB t 0 40) = true then min (t * l) 1000 else -1

end Go.Proofs.YtdedcablhahbnaaDoor
