/- HopSequence of the program and of the reference. No condition. -/
import Derived.Test.YtaoahgngpjoekaaDoorRj
import Derived.Test.YtaoahgngpjoekaaDoorHl
namespace Go.Proofs.YtaoahgngpjoekaaDoor
open Go.RowKit

/-- The state after i rounds of as many steps as there are cells. -/
def hopX (s t x : Nat) : Nat → Nat
  | 0 => x
  | i + 1 => jumpS s t s (hopX s t x i)
theorem hopX_lt {s t x : Nat} (hs : 2 ≤ s) (hx : x < 2 ^ s) : ∀ i, hopX s t x i < 2 ^ s := by
  intro i
  induction i with
  | zero => exact hx
  | succ i ih => exact jumpS_lt hs ih
def hopL (s t x : Nat) (ch : Int) (n : Nat) : List Int := (List.range n).map fun i => (hopX s t x i : Int) % ch
theorem hopL_succ {s t x n : Nat} {ch : Int} : hopL s t x ch (n + 1) = hopL s t x ch n ++ [(hopX s t x n : Int) % ch] := map_range_succ (f := fun i => (hopX s t x i : Int) % ch) n
theorem hopL_len {s t x n : Nat} {ch : Int} : (hopL s t x ch n).length = n := by simp [hopL]
theorem hopL_get {s t x n i : Nat} {ch : Int} (h : i < n) : (hopL s t x ch n).getD i 0 = (hopX s t x i : Int) % ch := by simp [hopL, List.getD, h]
def hopOk (s t x ch n : Int) : Bool := regB s t x && chB ch && inB n 0 300
def hopSeq (s t x ch n : Int) : Option (List Int) := if hopOk s t x ch n = true then some (hopL s.toNat t.toNat x.toNat ch n.toNat) else none
theorem hopSeq_no {s t x ch n : Int} (h : hopOk s t x ch n = false) : hopSeq s t x ch n = none := by simp [hopSeq, h]
theorem hopSeq_yes {s t x ch n : Int} (h : hopOk s t x ch n = true) : hopSeq s t x ch n = some (hopL s.toNat t.toNat x.toNat ch n.toNat) := by simp [hopSeq, h]
theorem regB_nat {s t x : Int} (h : regB s t x = true) : ∃ S T X : Nat, s = S ∧ t = T ∧ x = X ∧ (2 ≤ S ∧ S ≤ 8) ∧ (1 ≤ T ∧ T < 2 ^ S) ∧ X < 2 ^ S := by
  unfold regB tapB at h
  simp only [Bool.and_eq_true] at h
  obtain ⟨⟨h1, h2⟩, h3⟩ := h
  have a := inB_iff.1 h1
  have b := inB_iff.1 h2
  have c := inB_iff.1 h3
  obtain ⟨S, rfl⟩ := Int.eq_ofNat_of_zero_le (show 0 ≤ s by omega)
  obtain ⟨T, rfl⟩ := Int.eq_ofNat_of_zero_le (show 0 ≤ t by omega)
  obtain ⟨X, rfl⟩ := Int.eq_ofNat_of_zero_le (show 0 ≤ x by omega)
  have hp : (2 : Int) ^ S = ((2 ^ S : Nat) : Int) := by rw [Int.natCast_pow]; rfl
  rw [Int.toNat_natCast, hp] at b c
  exact ⟨S, T, X, rfl, rfl, rfl, by omega, by omega, by omega⟩
theorem regAt_one (w : World) (s t x : Int) : RegAt (w.alloc (.cells #[.int .i64 s, .int .i64 t, .int .i64 x] 67)) w.heap.size s t x := by
  unfold RegAt; rw [heap_alloc_new]
theorem RegAt.alloc {w : World} {b : Nat} {s t x : Int} (h : RegAt w b s t x) (o : Obj) : RegAt (w.alloc o) b s t x := by
  unfold RegAt; rw [Below.heap_alloc _ _ _ h.lt]; exact h

set_option maxHeartbeats 3200000 in
theorem sHopSequence_c (s t x ch n : Int) (w : World) : Calls Tryd.prog 48 #[.agg #[.int .i64 s, .int .i64 t, .int .i64 x], .int .i64 ch, .int .i64 n] w (RetIntsB w (hopSeq s t x ch n)) := by
  have hR0 : RegAt ((w.alloc (.cells #[.int .i64 s, .int .i64 t, .int .i64 x] 67)).alloc (.cells #[] 3)) w.heap.size s t x := (regAt_one w s t x).alloc _
  have hO0 : OwnV ((w.alloc (.cells #[.int .i64 s, .int .i64 t, .int .i64 x] 67)).alloc (.cells #[] 3)) (w.heap.size + 1) (.slice (some ⟨w.heap.size + 1, 0, none⟩) 0 0) [] := by
    have := OwnV.made0 (w.alloc (.cells #[.int .i64 s, .int .i64 t, .int .i64 x] 67)) (lo := w.heap.size + 1) (by simp)
    simpa using this
  have hB0 : Below w.heap.size w ((w.alloc (.cells #[.int .i64 s, .int .i64 t, .int .i64 x] 67)).alloc (.cells #[] 3)) := ((Below.refl _ _).alloc (Nat.le_refl _) _).alloc (by simp) _
  have hz0 : ((w.alloc (.cells #[.int .i64 s, .int .i64 t, .int .i64 x] 67)).alloc (.cells #[] 3)).heap.size = w.heap.size + 2 := by simp
  have HZ := Lib.hid hz0; clear hz0
  by_cases h1 : regB s t x = true
  · by_cases h2 : chB ch = true
    · have h2' := chB_iff.1 h2
      by_cases h3 : inB n 0 300 = true
      · have h3' := inB_iff.1 h3
        have hr := Lib.hid (hopSeq_yes (show hopOk s t x ch n = true by simp [hopOk, h1, h2, h3]))
        obtain ⟨S, T, X, rfl, rfl, rfl, hS, hT, hX⟩ := regB_nat h1
        obtain ⟨m, rfl⟩ := Int.eq_ofNat_of_zero_le h3'.1
        have hm : m ≤ 300 := by omega
        have HX := Lib.hid hX; have HT := Lib.hid hT.2
        clear hX hT
        simp only [Int.toNat_natCast] at hr
        go_enter Tryd.func48, Tryd.ntmps48
        go_wp2_with fail
        refine (sRegisterValid_c _ _ _ _).mono ?_; rintro e w1 ⟨rfl, hb1⟩
        have hR1 := hR0.below hb1 (by rw [HZ.out]; omega)
        have hO1 : OwnV w1 (w.heap.size + 1) (.slice (some ⟨w.heap.size + 1, 0, none⟩) 0 0) [] := ownsRow_below hO0 hb1 (by intro k hk; simp [Value.ownBlock] at hk; rw [HZ.out]; omega)
        have hB1 := hB0.trans (hb1.mono (by rw [HZ.out]; omega))
        clear hR0 hO0 hB0 hb1
        go_wp2_with fail
        refine (l7Channels_c _ _).mono ?_; rintro e w' ⟨rfl, rfl⟩
        go_wp2_with fail
        refine (l1In_c _ _ _ _).mono ?_; rintro e w' ⟨rfl, rfl⟩
        go_wp2_with fail
        go_loopw [8, 9] (fun v i wr => ∃ k : Nat, k ≤ m ∧ i = .int .i64 k ∧ OwnV wr (w.heap.size + 1) v (hopL S T X ch k) ∧ RegAt wr w.heap.size S T (hopX S T X k) ∧ Below w.heap.size w wr) (fun _ i _ => m - (intOf i).toNat)
        case atStart => exact ⟨0, Nat.zero_le _, rfl, hO1, hR1, hB1⟩
        case round =>
          clear hR1 hO1 hB1
          obtain ⟨k, hk, rfl, hown, hR, hb⟩ := hrel
          have hsz := hR.lt
          by_cases hlt : k < m
          · have hlx := hopX_lt (t := T) hS.1 HX.out k
            have HL := Lib.hid (@hopL_succ S T X k ch)
            have hlen := Lib.hid (show (hopL S T X ch k).length ≤ 1099511627775 by rw [hopL_len]; omega)
            have HJ := Lib.hid (l1Jump_pos S T (hopX S T X k) S)
            have HHX := Lib.hid (show hopX S T X (k + 1) = jumpS S T S (hopX S T X k) from rfl)
            have hp := pow_size hS.2
            have hy : hopX S T X k ≤ 256 := by omega
            have HY := Lib.hid hlx; clear hlx hp
            generalize hopX S T X k = y at *
            have hc0 := hR.c0
            have hc1 := hR.c1
            have hc2 := hR.c2
            go_wp2_with (at_builtin; refine wp_app1 wr rfl _ _ rfl (w.heap.size + 1) u8 _ _ rfl (by exact hown) rfl hlen.out hsz ?_; intro v' w1 hown' hgr hb'; have d0 := (hR.below hb' (by omega)).c0; have d1 := (hR.below hb' (by omega)).c1; have d2 := (hR.below hb' (by omega)).c2)
            have hR2 := hR.below hb' (by omega)
            have hb2 := hb.trans (hb'.mono (by omega))
            have hl2 := hR2.lt
            refine (HJ.out _ hS HT.out HY.out (by omega)).mono ?_; rintro e w2 ⟨rfl, hb3⟩
            have hR3 := hR2.below hb3 hl2
            have e0 := hR3.c0
            have e1 := hR3.c1
            have e2 := hR3.c2
            have f0 := hR3.free 0
            have f1 := hR3.free 1
            have f2 := hR3.free 2
            have hA := ((hR3.set0 S).set1 T).set2 (jumpS S T S y)
            have hB := (((hb2.trans (hb3.mono (by omega))).setCell (p := ⟨w.heap.size, 0, none⟩) (Nat.le_refl _) (.int .i64 S)).setCell (p := ⟨w.heap.size, 1, none⟩) (Nat.le_refl _) (.int .i64 T)).setCell (p := ⟨w.heap.size, 2, none⟩) (Nat.le_refl _) (.int .i64 (jumpS S T S y))
            have hO2 : OwnV w2 (w.heap.size + 1) v' (hopL S T X ch (k + 1)) := by rw [HL.out]; exact ownsRow_below hown' hb3 fun j hj => (hown'.lt j hj).2
            have hO3 : OwnV _ (w.heap.size + 1) v' (hopL S T X ch (k + 1)) := ownsRow_setCell_below (ownsRow_setCell_below (ownsRow_setCell_below hO2 (a := ⟨w.heap.size, 0, none⟩) (by simp) (.int .i64 S)) (a := ⟨w.heap.size, 1, none⟩) (by simp) (.int .i64 T)) (a := ⟨w.heap.size, 2, none⟩) (by simp) (.int .i64 (jumpS S T S y))
            clear hown' hown hb hb' hb2 hb3 hR hR2 hR3 hO2 hgr
            go_wp2
            go_roundw
            case rel => exact ⟨k + 1, by omega, by go_num, hO3, by rw [HHX.out]; exact hA, hB⟩
            case measure => simp [intOf]; omega
          · go_wp2
            go_ret2
            obtain rfl : k = m := by omega
            refine retIntsB_mk (hown.mono (by omega)) (by rw [hopL_len]; omega) (by rw [hr.out]; rfl) (by rw [hr.out]; rfl) hb
      · have h3' : inB n 0 300 = false := by simpa using h3
        have hr := Lib.hid (hopSeq_no (show hopOk s t x ch n = false by simp [hopOk, h3']))
        clear h3
        go_enter Tryd.func48, Tryd.ntmps48
        go_wp2_with fail
        refine (sRegisterValid_c _ _ _ _).mono ?_; rintro e w1 ⟨rfl, hb1⟩
        have hO1 : OwnV w1 (w.heap.size + 1) (.slice (some ⟨w.heap.size + 1, 0, none⟩) 0 0) [] := ownsRow_below hO0 hb1 (by intro k hk; simp [Value.ownBlock] at hk; rw [HZ.out]; omega)
        have hB1 := hB0.trans (hb1.mono (by rw [HZ.out]; omega))
        go_wp2_with fail
        refine (l7Channels_c _ _).mono ?_; rintro e w' ⟨rfl, rfl⟩
        go_wp2_with fail
        refine (l1In_c _ _ _ _).mono ?_; rintro e w' ⟨rfl, rfl⟩
        go_wp2_with fail
        go_ret2
        exact retIntsB_mk (hO1.mono (by omega)) (by simp) (by rw [hr.out]; rfl) (by rw [hr.out]; rfl) hB1
    · have h2' : chB ch = false := by simpa using h2
      have hr := Lib.hid (hopSeq_no (show hopOk s t x ch n = false by simp [hopOk, h2']))
      clear h2
      go_enter Tryd.func48, Tryd.ntmps48
      go_wp2_with fail
      refine (sRegisterValid_c _ _ _ _).mono ?_; rintro e w1 ⟨rfl, hb1⟩
      have hO1 : OwnV w1 (w.heap.size + 1) (.slice (some ⟨w.heap.size + 1, 0, none⟩) 0 0) [] := ownsRow_below hO0 hb1 (by intro k hk; simp [Value.ownBlock] at hk; rw [HZ.out]; omega)
      have hB1 := hB0.trans (hb1.mono (by rw [HZ.out]; omega))
      go_wp2_with fail
      refine (l7Channels_c _ _).mono ?_; rintro e w' ⟨rfl, rfl⟩
      go_wp2_with fail
      go_ret2
      exact retIntsB_mk (hO1.mono (by omega)) (by simp) (by rw [hr.out]; rfl) (by rw [hr.out]; rfl) hB1
  · have h1' : regB s t x = false := by simpa using h1
    have hr := Lib.hid (hopSeq_no (show hopOk s t x ch n = false by simp [hopOk, h1']))
    clear h1
    go_enter Tryd.func48, Tryd.ntmps48
    go_wp2_with fail
    refine (sRegisterValid_c _ _ _ _).mono ?_; rintro e w1 ⟨rfl, hb1⟩
    have hO1 : OwnV w1 (w.heap.size + 1) (.slice (some ⟨w.heap.size + 1, 0, none⟩) 0 0) [] := ownsRow_below hO0 hb1 (by intro k hk; simp [Value.ownBlock] at hk; rw [HZ.out]; omega)
    have hB1 := hB0.trans (hb1.mono (by rw [HZ.out]; omega))
    go_wp2_with fail
    go_ret2
    exact retIntsB_mk (hO1.mono (by omega)) (by simp) (by rw [hr.out]; rfl) (by rw [hr.out]; rfl) hB1

end Go.Proofs.YtaoahgngpjoekaaDoor
