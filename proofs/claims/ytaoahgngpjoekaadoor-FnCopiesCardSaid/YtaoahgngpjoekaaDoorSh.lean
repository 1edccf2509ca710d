/- SendHops of the program and of the reference. No condition beyond lengths. -/
import Derived.Test.YtaoahgngpjoekaaDoorTb
import Derived.Test.YtaoahgngpjoekaaDoorHj
import Derived.Test.YtaoahgngpjoekaaDoorG
import Derived.Test.YtaoahgngpjoekaaDoorSs
namespace Go.Proofs.YtaoahgngpjoekaaDoor
open Go.RowKit

/-- Which bits of data are lost: those whose hop is on a jammed channel. -/
def gone (l j : List Int) (first i : Nat) : Bool := hasB j (l.getD ((first + i) % l.length) 0)
def sendL (s : ByteArray) (l j : List Int) (first : Nat) : List Int := (List.range s.size).map fun i => if gone l j first i = true then 63 else (codes s).getD i 0
theorem sendL_length (s : ByteArray) (l j : List Int) (first : Nat) : (sendL s l j first).length = s.size := by simp [sendL]
theorem sendL_get {s : ByteArray} {l j : List Int} {first i : Nat} (h : i < s.size) : (sendL s l j first)[i]'(by rw [sendL_length]; exact h) = if gone l j first i = true then 63 else (codes s).getD i 0 := by simp [sendL]
def sendT (s : ByteArray) (l j : List Int) (first : Nat) : ByteArray := text (sendL s l j first)
def readyB (s : ByteArray) (l j : List Int) : Bool := bitsB s && hopsB l 16 && decide (0 < l.length) && jamB j
def sendR (s : ByteArray) (l j : List Int) : Option ByteArray := if readyB s l j = true then some (sendT s l j 0) else none
theorem readyB_1 {s : ByteArray} {l j : List Int} (h : bitsB s = false) : sendR s l j = none := by simp [sendR, readyB, h]
theorem readyB_2 {s : ByteArray} {l j : List Int} (h : hopsB l 16 = false) : sendR s l j = none := by simp [sendR, readyB, h]
theorem readyB_3 {s : ByteArray} {l j : List Int} (h : l.length = 0) : sendR s l j = none := by simp [sendR, readyB, h]
theorem readyB_4 {s : ByteArray} {l j : List Int} (h : jamB j = false) : sendR s l j = none := by simp [sendR, readyB, h]
theorem readyB_y {s : ByteArray} {l j : List Int} (h1 : bitsB s = true) (h2 : hopsB l 16 = true) (h3 : 0 < l.length) (h4 : jamB j = true) : sendR s l j = some (sendT s l j 0) := by simp [sendR, readyB, h1, h2, h3, h4]
theorem bitsB_600 {s : ByteArray} (h : bitsB s = true) : s.size ≤ 600 := by
  unfold bitsB at h; rw [Bool.and_eq_true] at h; exact of_decide_eq_true h.1

set_option maxRecDepth 100000 in
set_option maxHeartbeats 1600000 in
theorem sendFrom_c {ao bo : Option Addr} {n m c d : Nat} {l j : List Int} (s : ByteArray) (first : Nat) {w : World} (h : Rd w ao n l) (h' : Rd w bo m j) (hn0 : 0 < n) (hs : s.size ≤ 1099511627776) (hf : first ≤ 1099511627776) :
    Calls Tryd.prog 16 #[.string s, .slice ao n c, .slice bo m d, .int .i64 first] w fun e w' => e = .returned (.string (sendT s l j first)) ∧ Below w.heap.size w w' := by
  have hnn := h.2.1
  have HN := Lib.hid h.1
  have hmne : ((n : Int) == 0) = false := by simp; omega
  go_enter Tryd.func16, Tryd.ntmps16
  go_wp2_with (with_reducible refine wp_bytes 9 22 5 Tryd.underlying9 Tryd.underlying22 Tryd.underlying5 _ rfl (.tmp 11) rfl s rfl ?_; intro w1 cc hrow hb1 hsz1 hcc)
  clear hsz1
  go_loopw [15] (fun i wr => ∃ k : Nat, k ≤ s.size ∧ i = .int .i64 k ∧ RowB wr w.heap.size w.heap.size ((sendL s l j first).take k ++ (codes s).drop k) ∧ Below w.heap.size w wr) (fun i _ => s.size - (intOf i).toNat)
  case atStart => exact ⟨0, Nat.zero_le _, rfl, by simpa using hrow, hb1⟩
  case round =>
    clear hrow hb1
    obtain ⟨k, hk, rfl, hrow, hb⟩ := hrel
    have hML : ((sendL s l j first).take k ++ (codes s).drop k).length = s.size := by rw [List.length_append, List.length_take, List.length_drop, sendL_length, codes_length]; omega
    by_cases hlt : k < s.size
    · obtain ⟨g, hg⟩ : ∃ g, g = (first + k) % n := ⟨_, rfl⟩
      have hgm : g < n := by rw [hg]; exact Nat.mod_lt _ hn0
      obtain ⟨b1, o1, rfl, hl1, hc1⟩ := (h.below hb).at hgm
      have hRj := h'.below hb
      have HB := Lib.hid (show gone l j first k = hasB j l[g] by unfold gone; rw [← HN.out, ← hg]; simp [List.getD, hl1])
      have hw1 : ((first : Int) + (k : Int)).tmod (n : Int) = (g : Int) := by rw [hg]; rfl
      have hw2 : ((first : Int) + (k : Int)) % (n : Int) = (g : Int) := by rw [hg]; rfl
      have hLk : k < (sendL s l j first).length := by rw [sendL_length]; exact hlt
      have hCk : k < (codes s).length := by rw [codes_length]; exact hlt
      have HNX := Lib.hid (take_set_gen hLk (show (codes s).length = (sendL s l j first).length by rw [sendL_length, codes_length]))
      have HGT := Lib.hid (sendL_get (s := s) (l := l) (j := j) (first := first) hlt)
      have hkM : k < ((sendL s l j first).take k ++ (codes s).drop k).length := by omega
      have HMK := Lib.hid (show ((sendL s l j first).take k ++ (codes s).drop k)[k] = (codes s).getD k 0 by rw [List.getElem_append_right (by rw [List.length_take]; omega)]; simp [List.length_take, show min k (sendL s l j first).length = k by omega, List.getD, hCk])
      have HSS := Lib.hid (List.set_getElem_self hkM)
      clear hg h h'
      generalize ((sendL s l j first).take k ++ (codes s).drop k) = M at *
      by_cases hj : hasB j l[g] = true
      · have hc2 := hrow.cell hkM
        have hf2 := hrow.free hkM
        have hrow2 := hrow.set (i := k) 63
        have hb2 := hrow.belowSet hb k (.int .u8 63)
        have e63 : (63 : Int) = (sendL s l j first)[k] := by rw [HGT.out, if_pos (HB.out.trans hj)]
        have HE := Lib.hid e63
        rw [show M.set k 63 = M.set k (sendL s l j first)[k] by rw [← HE.out], HNX.out] at hrow2
        clear e63 hrow hb hML
        go_wp2_with fail
        refine (Contains_c _ hRj).mono ?_; rintro e w' ⟨rfl, rfl⟩
        rw [hj]
        clear hw1 hw2
        go_wp2_with fail
        go_roundw
        case rel => exact ⟨k + 1, by omega, by go_num, hrow2, hb2⟩
        case measure => simp [intOf]; omega
      · have hj' : hasB j l[g] = false := by simpa using hj
        have hrow2 := hrow
        rw [← HSS.out, HMK.out, show (codes s).getD k 0 = (sendL s l j first)[k] by rw [HGT.out, if_neg (by rw [HB.out, hj']; decide)], HNX.out] at hrow2
        clear hrow hML hj
        go_wp2_with fail
        refine (Contains_c _ hRj).mono ?_; rintro e w' ⟨rfl, rfl⟩
        rw [hj']
        clear hw1 hw2
        go_wp2_with fail
        go_roundw
        case rel => exact ⟨k + 1, by omega, by go_num, hrow2, hb⟩
        case measure => simp [intOf]; omega
    · obtain rfl : k = s.size := by omega
      rw [List.take_of_length_le (by rw [sendL_length]; exact Nat.le_refl _), List.drop_of_length_le (by rw [codes_length]; exact Nat.le_refl _), List.append_nil] at hrow
      have hrd := hrow.rd (n := s.size) (by rw [sendL_length]) hs
      go_wp2_with (with_reducible refine wp_text 22 5 9 Tryd.underlying22 Tryd.underlying5 Tryd.underlying9 _ rfl (.tmp 33) rfl rfl hrd ?_)
      go_ret
      exact ⟨rfl, hb⟩

set_option maxRecDepth 100000 in
set_option maxHeartbeats 1600000 in
theorem l7Send_c {ao bo : Option Addr} {n m c d : Nat} {l j : List Int} (s : ByteArray) (first : Nat) {w : World} (h : Rd w ao n l) (h' : Rd w bo m j) (hn0 : 0 < n) (hs : s.size ≤ 1099511627776) (hf : first ≤ 1099511627776) :
    Calls Tryd.prog 19 #[.string s, .slice ao n c, .slice bo m d, .int .i64 first] w fun e w' => e = .returned (.string (sendT s l j first)) ∧ Below w.heap.size w w' := by
  have hnn := h.2.1
  have HN := Lib.hid h.1
  have hmne : ((n : Int) == 0) = false := by simp; omega
  go_enter Tryd.func19, Tryd.ntmps19
  go_wp2_with (with_reducible refine wp_bytes 9 22 5 Tryd.underlying9 Tryd.underlying22 Tryd.underlying5 _ rfl (.tmp 11) rfl s rfl ?_; intro w1 cc hrow hb1 hsz1 hcc)
  clear hsz1
  go_loopw [10] (fun i wr => ∃ k : Nat, k ≤ s.size ∧ i = .int .i64 k ∧ RowB wr w.heap.size w.heap.size ((sendL s l j first).take k ++ (codes s).drop k) ∧ Below w.heap.size w wr) (fun i _ => s.size - (intOf i).toNat)
  case atStart => exact ⟨0, Nat.zero_le _, rfl, by simpa using hrow, hb1⟩
  case round =>
    clear hrow hb1
    obtain ⟨k, hk, rfl, hrow, hb⟩ := hrel
    have hML : ((sendL s l j first).take k ++ (codes s).drop k).length = s.size := by rw [List.length_append, List.length_take, List.length_drop, sendL_length, codes_length]; omega
    by_cases hlt : k < s.size
    · obtain ⟨g, hg⟩ : ∃ g, g = (first + k) % n := ⟨_, rfl⟩
      have hgm : g < n := by rw [hg]; exact Nat.mod_lt _ hn0
      obtain ⟨b1, o1, rfl, hl1, hc1⟩ := (h.below hb).at hgm
      have hRj := h'.below hb
      have HB := Lib.hid (show gone l j first k = hasB j l[g] by unfold gone; rw [← HN.out, ← hg]; simp [List.getD, hl1])
      have hw1 : ((first : Int) + (k : Int)).tmod (n : Int) = (g : Int) := by rw [hg]; rfl
      have hw2 : ((first : Int) + (k : Int)) % (n : Int) = (g : Int) := by rw [hg]; rfl
      have hLk : k < (sendL s l j first).length := by rw [sendL_length]; exact hlt
      have hCk : k < (codes s).length := by rw [codes_length]; exact hlt
      have HNX := Lib.hid (take_set_gen hLk (show (codes s).length = (sendL s l j first).length by rw [sendL_length, codes_length]))
      have HGT := Lib.hid (sendL_get (s := s) (l := l) (j := j) (first := first) hlt)
      have hkM : k < ((sendL s l j first).take k ++ (codes s).drop k).length := by omega
      have HMK := Lib.hid (show ((sendL s l j first).take k ++ (codes s).drop k)[k] = (codes s).getD k 0 by rw [List.getElem_append_right (by rw [List.length_take]; omega)]; simp [List.length_take, show min k (sendL s l j first).length = k by omega, List.getD, hCk])
      have HSS := Lib.hid (List.set_getElem_self hkM)
      clear hg h h'
      generalize ((sendL s l j first).take k ++ (codes s).drop k) = M at *
      by_cases hj : hasB j l[g] = true
      · have hc2 := hrow.cell hkM
        have hf2 := hrow.free hkM
        have hrow2 := hrow.set (i := k) 63
        have hb2 := hrow.belowSet hb k (.int .u8 63)
        have e63 : (63 : Int) = (sendL s l j first)[k] := by rw [HGT.out, if_pos (HB.out.trans hj)]
        have HE := Lib.hid e63
        rw [show M.set k 63 = M.set k (sendL s l j first)[k] by rw [← HE.out], HNX.out] at hrow2
        clear e63 hrow hb hML
        go_wp2_with fail
        refine (l2Has_c _ hRj).mono ?_; rintro e w' ⟨rfl, rfl⟩
        rw [hj]
        clear hw1 hw2
        go_wp2_with fail
        go_roundw
        case rel => exact ⟨k + 1, by omega, by go_num, hrow2, hb2⟩
        case measure => simp [intOf]; omega
      · have hj' : hasB j l[g] = false := by simpa using hj
        have hrow2 := hrow
        rw [← HSS.out, HMK.out, show (codes s).getD k 0 = (sendL s l j first)[k] by rw [HGT.out, if_neg (by rw [HB.out, hj']; decide)], HNX.out] at hrow2
        clear hrow hML hj
        go_wp2_with fail
        refine (l2Has_c _ hRj).mono ?_; rintro e w' ⟨rfl, rfl⟩
        rw [hj']
        clear hw1 hw2
        go_wp2_with fail
        go_roundw
        case rel => exact ⟨k + 1, by omega, by go_num, hrow2, hb⟩
        case measure => simp [intOf]; omega
    · obtain rfl : k = s.size := by omega
      rw [List.take_of_length_le (by rw [sendL_length]; exact Nat.le_refl _), List.drop_of_length_le (by rw [codes_length]; exact Nat.le_refl _), List.append_nil] at hrow
      have hrd := hrow.rd (n := s.size) (by rw [sendL_length]) hs
      go_wp2_with (with_reducible refine wp_text 22 5 9 Tryd.underlying22 Tryd.underlying5 Tryd.underlying9 _ rfl (.tmp 33) rfl rfl hrd ?_)
      go_ret
      exact ⟨rfl, hb⟩

set_option maxHeartbeats 1600000 in
theorem SendHops_c {ao bo : Option Addr} {n m c d : Nat} {l j : List Int} (s : ByteArray) {w : World} (h : Rd w ao n l) (h' : Rd w bo m j) :
    Calls Tryd.prog 7 #[.string s, .slice ao n c, .slice bo m d] w (RetTB w (sendR s l j)) := by
  have hs := h.2.1
  have hn := h.1
  by_cases h1 : bitsB s = true
  · have h600 := bitsB_600 h1
    by_cases h2 : hopsB l 16 = true
    · by_cases h3 : n = 0
      · have hr := Lib.hid (readyB_3 (s := s) (j := j) (show l.length = 0 by omega))
        subst h3
        have HN := Lib.hid hn; clear hn
        go_enter Tryd.func7, Tryd.ntmps7
        go_wp2_with fail
        refine (isBits_c _ _).mono ?_; rintro e w' ⟨rfl, rfl⟩
        rw [h1]
        go_wp2_with fail
        refine (isHops_c h).mono ?_; rintro e w' ⟨rfl, rfl⟩
        rw [h2]
        go_wp2_with fail
        go_ret2
        exact retTB_none hr.out (Below.refl _ _)
      · have hne : ((n : Int) == 0) = false := by simp; omega
        by_cases h4 : jamB j = true
        · have hr := Lib.hid (readyB_y h1 h2 (show 0 < l.length by omega) h4)
          have HN := Lib.hid hn; clear hn
          go_enter Tryd.func7, Tryd.ntmps7
          go_wp2_with fail
          refine (isBits_c _ _).mono ?_; rintro e w' ⟨rfl, rfl⟩
          rw [h1]
          go_wp2_with fail
          refine (isHops_c h).mono ?_; rintro e w' ⟨rfl, rfl⟩
          rw [h2]
          go_wp2_with fail
          refine (jammedValid_c h').mono ?_; rintro e w' ⟨rfl, rfl⟩
          rw [h4]
          go_wp2_with fail
          refine (sendFrom_c s 0 h h' (by omega) (by omega) (by omega)).mono ?_; rintro e w1 ⟨rfl, hb1⟩
          go_wp2_with fail
          go_ret2
          exact retTB_some hr.out hb1
        · have h4' : jamB j = false := by simpa using h4
          have hr := Lib.hid (readyB_4 (s := s) (l := l) h4')
          have HN := Lib.hid hn; clear hn h4
          go_enter Tryd.func7, Tryd.ntmps7
          go_wp2_with fail
          refine (isBits_c _ _).mono ?_; rintro e w' ⟨rfl, rfl⟩
          rw [h1]
          go_wp2_with fail
          refine (isHops_c h).mono ?_; rintro e w' ⟨rfl, rfl⟩
          rw [h2]
          go_wp2_with fail
          refine (jammedValid_c h').mono ?_; rintro e w' ⟨rfl, rfl⟩
          rw [h4']
          go_wp2_with fail
          go_ret2
          exact retTB_none hr.out (Below.refl _ _)
    · have h2' : hopsB l 16 = false := by simpa using h2
      have hr := Lib.hid (readyB_2 (s := s) (j := j) h2')
      have HN := Lib.hid hn; clear hn h2
      go_enter Tryd.func7, Tryd.ntmps7
      go_wp2_with fail
      refine (isBits_c _ _).mono ?_; rintro e w' ⟨rfl, rfl⟩
      rw [h1]
      go_wp2_with fail
      refine (isHops_c h).mono ?_; rintro e w' ⟨rfl, rfl⟩
      rw [h2']
      go_wp2_with fail
      go_ret2
      exact retTB_none hr.out (Below.refl _ _)
  · have h1' : bitsB s = false := by simpa using h1
    have hr := Lib.hid (readyB_1 (l := l) (j := j) h1')
    have HN := Lib.hid hn; clear hn h1
    go_enter Tryd.func7, Tryd.ntmps7
    go_wp2_with fail
    refine (isBits_c _ _).mono ?_; rintro e w' ⟨rfl, rfl⟩
    rw [h1']
    go_wp2_with fail
    go_ret2
    exact retTB_none hr.out (Below.refl _ _)

set_option maxHeartbeats 1600000 in
theorem l7Ready_c {ao bo : Option Addr} {n m c d : Nat} {l j : List Int} (s : ByteArray) {w : World} (h : Rd w ao n l) (h' : Rd w bo m j) (hsz : s.size ≤ 1099511627776) :
    Calls Tryd.prog 17 #[.string s, .slice ao n c, .slice bo m d] w fun e w' => e = .returned (.bool (readyB s l j)) ∧ w = w' := by
  have hs := h.2.1
  have hn := h.1
  by_cases h1 : bitsB s = true
  · by_cases h2 : hopsB l 16 = true
    · by_cases h3 : n = 0
      · have hr := Lib.hid (show readyB s l j = false by unfold readyB; rw [decide_eq_false (show ¬ 0 < l.length by omega)]; simp)
        subst h3
        have HN := Lib.hid hn; clear hn
        go_enter Tryd.func17, Tryd.ntmps17
        go_wp2_with fail
        refine (l1Bits_c _ _ hsz).mono ?_; rintro e w' ⟨rfl, rfl⟩
        rw [h1]
        go_wp2_with fail
        refine (l7Hops_c h).mono ?_; rintro e w' ⟨rfl, rfl⟩
        rw [h2]
        go_wp2_with fail
        go_ret
        exact ⟨ret_b hr.out.symm, rfl⟩
      · have hr := Lib.hid (show readyB s l j = jamB j by unfold readyB; rw [h1, h2, decide_eq_true (show 0 < l.length by omega)]; simp)
        have h5 : 0 < n := by omega
        have HN := Lib.hid hn; clear hn
        go_enter Tryd.func17, Tryd.ntmps17
        go_wp2_with fail
        refine (l1Bits_c _ _ hsz).mono ?_; rintro e w' ⟨rfl, rfl⟩
        rw [h1]
        go_wp2_with fail
        refine (l7Hops_c h).mono ?_; rintro e w' ⟨rfl, rfl⟩
        rw [h2]
        go_wp2_with fail
        refine (l7Jam_c h').mono ?_; rintro e w' ⟨rfl, rfl⟩
        go_wp2_with fail
        go_ret
        exact ⟨ret_b hr.out.symm, rfl⟩
    · have h2' : hopsB l 16 = false := by simpa using h2
      have hr := Lib.hid (show readyB s l j = false by unfold readyB; rw [h2']; simp)
      have HN := Lib.hid hn; clear hn h2
      go_enter Tryd.func17, Tryd.ntmps17
      go_wp2_with fail
      refine (l1Bits_c _ _ hsz).mono ?_; rintro e w' ⟨rfl, rfl⟩
      rw [h1]
      go_wp2_with fail
      refine (l7Hops_c h).mono ?_; rintro e w' ⟨rfl, rfl⟩
      rw [h2']
      go_wp2_with fail
      go_ret
      exact ⟨ret_b hr.out.symm, rfl⟩
  · have h1' : bitsB s = false := by simpa using h1
    have hr := Lib.hid (show readyB s l j = false by unfold readyB; rw [h1']; simp)
    have HN := Lib.hid hn; clear hn h1
    go_enter Tryd.func17, Tryd.ntmps17
    go_wp2_with fail
    refine (l1Bits_c _ _ hsz).mono ?_; rintro e w' ⟨rfl, rfl⟩
    rw [h1']
    go_wp2_with fail
    go_ret
    exact ⟨ret_b hr.out.symm, rfl⟩

end Go.Proofs.YtaoahgngpjoekaaDoor
