/- FindFrame of the program and of the reference. No condition beyond lengths. -/
import Derived.Test.YtaoahgngpjoekaaKe
namespace Go.Proofs.Ytaoahgngpjoekaa
open Go.RowKit

set_option maxRecDepth 100000 in
set_option maxHeartbeats 800000 in
theorem FindFrame_c (s : ByteArray) (a : Int) (w : World) : Calls Try.prog 18 #[.string s, .int .i64 a] w fun e w' => e = .returned (.int .i64 (findR s a)) ∧ Below w.heap.size w w' := by
  by_cases h2 : a < 0
  · have hr := Lib.hid (find_no2 (s := s) h2)
    go_enter Try.func18, Try.ntmps18
    go_wp2_with fail
    go_ret
    exact ⟨by rw [hr.out]; rfl, Below.refl _ _⟩
  · by_cases h1 : bitsB s = true
    · have h6 := bits_le h1
      obtain ⟨A, rfl⟩ := Int.eq_ofNat_of_zero_le (show 0 ≤ a by omega)
      have hr := Lib.hid (find_yes (s := s) (a := A) h1)
      go_enter Try.func18, Try.ntmps18
      go_wp2_with fail
      refine (isBits_c _ _).mono ?_; rintro e w' ⟨rfl, rfl⟩
      rw [h1]
      clear h1
      go_wp2_with fail
      go_loopw [5] (fun i wr => ∃ b : Nat, i = .int .i64 b ∧ Hid (findR s A = findF s (s.size - b) b) ∧ Below w.heap.size w wr) (fun i _ => s.size - (intOf i).toNat)
      case atStart => exact ⟨A, rfl, hr, Below.refl _ _⟩
      case round =>
        obtain ⟨b, rfl, HF, hb⟩ := hrel
        by_cases hlt : b < s.size
        · have HY := Lib.hid (fun h => findF_yes (s := s) (f := s.size - b) (a := b) (by omega) h)
          have HN := Lib.hid (fun h => findF_no (s := s) (f := s.size - b) (a := b) (by omega) h)
          go_wp2_with fail
          refine (ParseFrame_c s (b : Int) _).mono ?_; rintro e w3 ⟨rfl, hb3⟩
          have hb4 := hb.trans (hb3.mono hb.size)
          clear hb hb3
          by_cases h3 : (parseR s (b : Int)).isSome = true
          · have HZ := Lib.hid (HF.out.trans (HY.out h3))
            rw [h3]
            generalize ((parseR s (b : Int)).map Prod.fst).getD ByteArray.empty = u1
            generalize ((parseR s (b : Int)).map Prod.snd).getD 0 = u2
            clear h3
            go_wp2_with fail
            go_ret
            exact ⟨by rw [HZ.out]; rfl, hb4⟩
          · have h3' : (parseR s (b : Int)).isSome = false := by simpa using h3
            have HZ := Lib.hid (HF.out.trans (HN.out h3'))
            rw [h3']
            generalize ((parseR s (b : Int)).map Prod.fst).getD ByteArray.empty = u1
            generalize ((parseR s (b : Int)).map Prod.snd).getD 0 = u2
            clear h3 h3'
            go_wp2_with fail
            go_roundw
            case rel => exact ⟨b + 1, by go_num, Lib.hid (by rw [HZ.out]; rfl), hb4⟩
            case measure => simp [intOf]; omega
        · have HZ := Lib.hid (show findR s A = -1 by rw [HF.out, show s.size - b = 0 by omega]; rfl)
          go_wp2_with fail
          go_ret
          exact ⟨by rw [HZ.out]; rfl, hb⟩
    · have h1' : bitsB s = false := by simpa using h1
      have hr := Lib.hid (find_no1 (a := a) h1')
      clear h1
      go_enter Try.func18, Try.ntmps18
      go_wp2_with fail
      refine (isBits_c _ _).mono ?_; rintro e w' ⟨rfl, rfl⟩
      rw [h1']
      go_wp2_with fail
      go_ret
      exact ⟨by rw [hr.out]; rfl, Below.refl _ _⟩

set_option maxRecDepth 100000 in
set_option maxHeartbeats 800000 in
theorem sFindFrame_c (s : ByteArray) (a : Int) (w : World) (hsz : s.size ≤ 1099511627776) : Calls Try.prog 65 #[.string s, .int .i64 a] w fun e w' => e = .returned (.int .i64 (findR s a)) ∧ Below w.heap.size w w' := by
  by_cases h1 : bitsB s = true
  · by_cases h2 : a < 0
    · have hr := Lib.hid (find_no2 (s := s) h2)
      go_enter Try.func65, Try.ntmps65
      go_wp2_with fail
      refine (l1Bits_c _ _ hsz).mono ?_; rintro e w' ⟨rfl, rfl⟩
      rw [h1]
      go_wp2_with fail
      go_ret
      exact ⟨by rw [hr.out]; rfl, Below.refl _ _⟩
    · have h6 := bits_le h1
      obtain ⟨A, rfl⟩ := Int.eq_ofNat_of_zero_le (show 0 ≤ a by omega)
      have hr := Lib.hid (find_yes (s := s) (a := A) h1)
      go_enter Try.func65, Try.ntmps65
      go_wp2_with fail
      refine (l1Bits_c _ _ hsz).mono ?_; rintro e w' ⟨rfl, rfl⟩
      rw [h1]
      clear h1
      go_wp2_with fail
      go_loopw [1] (fun i wr => ∃ b : Nat, i = .int .i64 b ∧ Hid (findR s A = findF s (s.size - b) b) ∧ Below w.heap.size w wr) (fun i _ => s.size - (intOf i).toNat)
      case atStart => exact ⟨A, rfl, hr, Below.refl _ _⟩
      case round =>
        obtain ⟨b, rfl, HF, hb⟩ := hrel
        by_cases hlt : b < s.size
        · have HY := Lib.hid (fun h => findF_yes (s := s) (f := s.size - b) (a := b) (by omega) h)
          have HN := Lib.hid (fun h => findF_no (s := s) (f := s.size - b) (a := b) (by omega) h)
          go_wp2_with fail
          refine (sParseFrame_c s (b : Int) _ hsz).mono ?_; rintro e w3 ⟨rfl, hb3⟩
          have hb4 := hb.trans (hb3.mono hb.size)
          clear hb hb3
          by_cases h3 : (parseR s (b : Int)).isSome = true
          · have HZ := Lib.hid (HF.out.trans (HY.out h3))
            rw [h3]
            generalize ((parseR s (b : Int)).map Prod.fst).getD ByteArray.empty = u1
            generalize ((parseR s (b : Int)).map Prod.snd).getD 0 = u2
            clear h3
            go_wp2_with fail
            go_ret
            exact ⟨by rw [HZ.out]; rfl, hb4⟩
          · have h3' : (parseR s (b : Int)).isSome = false := by simpa using h3
            have HZ := Lib.hid (HF.out.trans (HN.out h3'))
            rw [h3']
            generalize ((parseR s (b : Int)).map Prod.fst).getD ByteArray.empty = u1
            generalize ((parseR s (b : Int)).map Prod.snd).getD 0 = u2
            clear h3 h3'
            go_wp2_with fail
            go_roundw
            case rel => exact ⟨b + 1, by go_num, Lib.hid (by rw [HZ.out]; rfl), hb4⟩
            case measure => simp [intOf]; omega
        · have HZ := Lib.hid (show findR s A = -1 by rw [HF.out, show s.size - b = 0 by omega]; rfl)
          go_wp2_with fail
          go_ret
          exact ⟨by rw [HZ.out]; rfl, hb⟩
  · have h1' : bitsB s = false := by simpa using h1
    have hr := Lib.hid (find_no1 (a := a) h1')
    clear h1
    go_enter Try.func65, Try.ntmps65
    go_wp2_with fail
    refine (l1Bits_c _ _ hsz).mono ?_; rintro e w' ⟨rfl, rfl⟩
    rw [h1']
    go_wp2_with fail
    go_ret
    exact ⟨by rw [hr.out]; rfl, Below.refl _ _⟩

end Go.Proofs.Ytaoahgngpjoekaa
