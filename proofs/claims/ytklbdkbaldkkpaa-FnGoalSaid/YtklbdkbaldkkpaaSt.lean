/- Stations: what the laws' helpers do with one; StrengthOf and PowerGoal of the program and of the reference. -/
import Derived.Test.YtklbdkbaldkkpaaSs
namespace Go.Proofs.Ytklbdkbaldkkpaa
open Go.RowKit

def szS (nm ph : ByteArray) (left : Int) : Int := if left < (nm.size : Int) + (ph.size : Int) then -1 else left - nm.size - ph.size
theorem szS_no {nm ph : ByteArray} {left : Int} (h : left < (nm.size : Int) + (ph.size : Int)) : szS nm ph left = -1 := by simp [szS, h]
theorem szS_yes {nm ph : ByteArray} {left : Int} (h : (nm.size : Int) + (ph.size : Int) ≤ left) : szS nm ph left = left - nm.size - ph.size := by
  unfold szS; rw [if_neg (by omega)]



theorem strOf_no {nm ph : ByteArray} {g l : Int} (h : stB nm ph g l = false) : strOf nm ph g l = -1 := by simp [strOf, h]
theorem strOf_yes {nm ph : ByteArray} {g l : Int} (h : stB nm ph g l = true) : strOf nm ph g l = g / l := by simp [strOf, h]
theorem goalOf_no1 {nm ph : ByteArray} {g l t : Int} (h : stB nm ph g l = false) : goalOf nm ph g l t = -1 := by simp [goalOf, h]
theorem goalOf_no2 {nm ph : ByteArray} {g l t : Int} (h : inB t 0 40 = false) : goalOf nm ph g l t = -1 := by simp [goalOf, h]
theorem goalOf_yes {nm ph : ByteArray} {g l t : Int} (h : stB nm ph g l = true) (h' : inB t 0 40 = true) : goalOf nm ph g l t = min (t * l) 1000 := by simp [goalOf, h, h']

set_option maxHeartbeats 800000 in
theorem StrengthOf_c (nm ph : ByteArray) (g l : Int) (w : World) : Calls Try.prog 22 #[.agg #[.string nm, .string ph, .int .i64 g, .int .i64 l]] w fun e w' => e = .returned (.int .i64 (strOf nm ph g l)) ∧ Below w.heap.size w w' := by
  have hb : Below w.heap.size w (w.alloc (.cells #[.string nm, .string ph, .int .i64 g, .int .i64 l] 37)) := (Below.refl _ _).alloc (Nat.le_refl _) _
  have hB := Box.new w #[.string nm, .string ph, .int .i64 g, .int .i64 l] 37
  have hlt := Lib.hid hB.lt
  by_cases h : stB nm ph g l = true
  · obtain ⟨hg, hl⟩ := stB_ranges h
    have hr := Lib.hid (strOf_yes h)
    have hne : (l == 0) = false := by simp; omega
    go_enter Try.func22, Try.ntmps22
    go_wp2_with fail
    refine (stationValid_c _ _ _ _ _).mono ?_; rintro e w1 ⟨rfl, hb1⟩
    have c2 := (hB.below hb1 hlt.out).cell (i := 2) rfl
    have c3 := (hB.below hb1 hlt.out).cell (i := 3) rfl
    have hb2 := hb.trans (hb1.mono (by simp))
    clear hB
    go_wp2_with fail
    go_ret
    exact ⟨ret_i hr.out.symm, hb2⟩
  · have h' : stB nm ph g l = false := by simpa using h
    have hr := Lib.hid (strOf_no h')
    clear h
    go_enter Try.func22, Try.ntmps22
    go_wp2_with fail
    refine (stationValid_c _ _ _ _ _).mono ?_; rintro e w1 ⟨rfl, hb1⟩
    have hb2 := hb.trans (hb1.mono (by simp))
    go_wp2_with fail
    go_ret
    exact ⟨ret_i hr.out.symm, hb2⟩

set_option maxHeartbeats 800000 in
theorem sStrengthOf_c (nm ph : ByteArray) (g l : Int) (w : World) (hn : nm.size ≤ 1099511627776) (hp : ph.size ≤ 1099511627776) : Calls Try.prog 23 #[.agg #[.string nm, .string ph, .int .i64 g, .int .i64 l]] w fun e w' => e = .returned (.int .i64 (strOf nm ph g l)) ∧ Below w.heap.size w w' := by
  have hb : Below w.heap.size w (w.alloc (.cells #[.string nm, .string ph, .int .i64 g, .int .i64 l] 37)) := (Below.refl _ _).alloc (Nat.le_refl _) _
  have hB := Box.new w #[.string nm, .string ph, .int .i64 g, .int .i64 l] 37
  have hlt := Lib.hid hB.lt
  by_cases h : stB nm ph g l = true
  · obtain ⟨hg, hl⟩ := stB_ranges h
    have hr := Lib.hid (strOf_yes h)
    have hne : (l == 0) = false := by simp; omega
    go_enter Try.func23, Try.ntmps23
    go_wp2_with fail
    refine (l8Station_c _ _ _ _ _ hn hp).mono ?_; rintro e w1 ⟨rfl, hb1⟩
    have c2 := (hB.below hb1 hlt.out).cell (i := 2) rfl
    have c3 := (hB.below hb1 hlt.out).cell (i := 3) rfl
    have hb2 := hb.trans (hb1.mono (by simp))
    clear hB
    go_wp2_with fail
    go_ret
    exact ⟨ret_i hr.out.symm, hb2⟩
  · have h' : stB nm ph g l = false := by simpa using h
    have hr := Lib.hid (strOf_no h')
    clear h
    go_enter Try.func23, Try.ntmps23
    go_wp2_with fail
    refine (l8Station_c _ _ _ _ _ hn hp).mono ?_; rintro e w1 ⟨rfl, hb1⟩
    have hb2 := hb.trans (hb1.mono (by simp))
    go_wp2_with fail
    go_ret
    exact ⟨ret_i hr.out.symm, hb2⟩

set_option maxHeartbeats 1600000 in
theorem PowerGoal_c (nm ph : ByteArray) (g l t : Int) (w : World) : Calls Try.prog 20 #[.agg #[.string nm, .string ph, .int .i64 g, .int .i64 l], .int .i64 t] w fun e w' => e = .returned (.int .i64 (goalOf nm ph g l t)) ∧ Below w.heap.size w w' := by
  have hb : Below w.heap.size w (w.alloc (.cells #[.string nm, .string ph, .int .i64 g, .int .i64 l] 37)) := (Below.refl _ _).alloc (Nat.le_refl _) _
  have hB := Box.new w #[.string nm, .string ph, .int .i64 g, .int .i64 l] 37
  have hlt := Lib.hid hB.lt
  by_cases h : stB nm ph g l = true
  · by_cases h2 : inB t 0 40 = true
    · obtain ⟨hg, hl⟩ := stB_ranges h
      have ht := inB_iff.1 h2
      have hr := Lib.hid (goalOf_yes h h2)
      have hp0 : 0 ≤ t * l := Int.mul_nonneg ht.1 (by omega)
      have hp1 : t * l ≤ 40 * 20 := Int.mul_le_mul ht.2 hl.2 (by omega) (by omega)
      go_enter Try.func20, Try.ntmps20
      go_wp2_with fail
      refine (stationValid_c _ _ _ _ _).mono ?_; rintro e w1 ⟨rfl, hb1⟩
      have c3 := (hB.below hb1 hlt.out).cell (i := 3) rfl
      have hb2 := hb.trans (hb1.mono (by simp))
      clear hB
      go_wp2_with fail
      refine (targetValid_c _ _).mono ?_; rintro e w' ⟨rfl, rfl⟩
      go_wp2_with fail
      go_ret
      all_goals exact ⟨ret_i (by rw [hr.out]; omega), hb2⟩
    · have h2' : inB t 0 40 = false := by simpa using h2
      have hr := Lib.hid (goalOf_no2 (nm := nm) (ph := ph) (g := g) (l := l) h2')
      clear h2
      go_enter Try.func20, Try.ntmps20
      go_wp2_with fail
      refine (stationValid_c _ _ _ _ _).mono ?_; rintro e w1 ⟨rfl, hb1⟩
      have hb2 := hb.trans (hb1.mono (by simp))
      go_wp2_with fail
      refine (targetValid_c _ _).mono ?_; rintro e w' ⟨rfl, rfl⟩
      go_wp2_with fail
      go_ret
      exact ⟨ret_i hr.out.symm, hb2⟩
  · have h' : stB nm ph g l = false := by simpa using h
    have hr := Lib.hid (goalOf_no1 (t := t) h')
    clear h
    go_enter Try.func20, Try.ntmps20
    go_wp2_with fail
    refine (stationValid_c _ _ _ _ _).mono ?_; rintro e w1 ⟨rfl, hb1⟩
    have hb2 := hb.trans (hb1.mono (by simp))
    go_wp2_with fail
    go_ret
    exact ⟨ret_i hr.out.symm, hb2⟩

set_option maxHeartbeats 400000 in
theorem l8Target_c (n : Int) (w : World) : Calls Try.prog 69 #[.int .i64 n] w fun e w' => e = .returned (.bool (inB n 0 40)) ∧ w = w' := by
  go_enter Try.func69, Try.ntmps69
  go_wp2_with fail
  refine (l1In_c _ _ _ _).mono ?_; rintro e w' ⟨rfl, rfl⟩
  go_wp2_with fail
  go_ret
  exact ⟨rfl, rfl⟩

set_option maxHeartbeats 800000 in
theorem l8Goal_c (nm ph : ByteArray) (g l t : Int) (w : World) (ht : 0 ≤ t ∧ t ≤ 40) (hl : 1 ≤ l ∧ l ≤ 20) : Calls Try.prog 70 #[.agg #[.string nm, .string ph, .int .i64 g, .int .i64 l], .int .i64 t] w fun e w' => e = .returned (.int .i64 (min (t * l) 1000)) ∧ Below w.heap.size w w' := by
  have hb : Below w.heap.size w (w.alloc (.cells #[.string nm, .string ph, .int .i64 g, .int .i64 l] 37)) := (Below.refl _ _).alloc (Nat.le_refl _) _
  have hp0 : 0 ≤ t * l := Int.mul_nonneg ht.1 (by omega)
  have hp1 : t * l ≤ 40 * 20 := Int.mul_le_mul ht.2 hl.2 (by omega) (by omega)
  go_enter Try.func70, Try.ntmps70
  go_wp2
  all_goals (go_ret; exact ⟨ret_i (by omega), hb⟩)

set_option maxHeartbeats 1600000 in
theorem sPowerGoal_c (nm ph : ByteArray) (g l t : Int) (w : World) (hn : nm.size ≤ 1099511627776) (hp : ph.size ≤ 1099511627776) : Calls Try.prog 21 #[.agg #[.string nm, .string ph, .int .i64 g, .int .i64 l], .int .i64 t] w fun e w' => e = .returned (.int .i64 (goalOf nm ph g l t)) ∧ Below w.heap.size w w' := by
  have hb : Below w.heap.size w (w.alloc (.cells #[.string nm, .string ph, .int .i64 g, .int .i64 l] 37)) := (Below.refl _ _).alloc (Nat.le_refl _) _
  have hB := Box.new w #[.string nm, .string ph, .int .i64 g, .int .i64 l] 37
  have hlt := Lib.hid hB.lt
  by_cases h : stB nm ph g l = true
  · by_cases h2 : inB t 0 40 = true
    · obtain ⟨hg, hl⟩ := stB_ranges h
      have ht := inB_iff.1 h2
      have hr := Lib.hid (goalOf_yes h h2)
      go_enter Try.func21, Try.ntmps21
      go_wp2_with fail
      refine (l8Station_c _ _ _ _ _ hn hp).mono ?_; rintro e w1 ⟨rfl, hb1⟩
      have hB1 := hB.below hb1 hlt.out
      have c0 := hB1.cell (i := 0) rfl
      have c1 := hB1.cell (i := 1) rfl
      have c2 := hB1.cell (i := 2) rfl
      have c3 := hB1.cell (i := 3) rfl
      have hz := hB1.lt
      have hb2 := hb.trans (hb1.mono (by simp))
      clear hB hB1
      go_wp2_with fail
      refine (l8Target_c _ _).mono ?_; rintro e w' ⟨rfl, rfl⟩
      go_wp2_with fail
      refine (l8Goal_c _ _ _ _ _ _ ht hl).mono ?_; rintro e w2 ⟨rfl, hb3⟩
      go_wp2_with fail
      go_ret
      exact ⟨ret_i hr.out.symm, hb2.trans (hb3.mono (by omega))⟩
    · have h2' : inB t 0 40 = false := by simpa using h2
      have hr := Lib.hid (goalOf_no2 (nm := nm) (ph := ph) (g := g) (l := l) h2')
      clear h2
      go_enter Try.func21, Try.ntmps21
      go_wp2_with fail
      refine (l8Station_c _ _ _ _ _ hn hp).mono ?_; rintro e w1 ⟨rfl, hb1⟩
      have hb2 := hb.trans (hb1.mono (by simp))
      go_wp2_with fail
      refine (l8Target_c _ _).mono ?_; rintro e w' ⟨rfl, rfl⟩
      go_wp2_with fail
      go_ret
      exact ⟨ret_i hr.out.symm, hb2⟩
  · have h' : stB nm ph g l = false := by simpa using h
    have hr := Lib.hid (goalOf_no1 (t := t) h')
    clear h
    go_enter Try.func21, Try.ntmps21
    go_wp2_with fail
    refine (l8Station_c _ _ _ _ _ hn hp).mono ?_; rintro e w1 ⟨rfl, hb1⟩
    have hb2 := hb.trans (hb1.mono (by simp))
    go_wp2_with fail
    go_ret
    exact ⟨ret_i hr.out.symm, hb2⟩

end Go.Proofs.Ytklbdkbaldkkpaa
