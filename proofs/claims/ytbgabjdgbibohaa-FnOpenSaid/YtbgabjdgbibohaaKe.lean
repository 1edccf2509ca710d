/- ParseFrame of the reference. No condition beyond lengths. -/
import Derived.Test.YtbgabjdgbibohaaKd
namespace Go.Proofs.Ytbgabjdgbibohaa
open Go.RowKit

set_option maxRecDepth 100000 in
set_option maxHeartbeats 1600000 in
theorem sParseFrame_c (s : ByteArray) (a : Int) (w : World) (hsz : s.size ≤ 1099511627776) : Calls Try.prog 42 #[.string s, .int .i64 a] w (RetPF w (parseR s a)) := by
  by_cases h1 : bitsB s = true
  · by_cases h2 : a < 0
    · have hr := Lib.hid (parse_no2 (s := s) h2)
      go_enter Try.func42, Try.ntmps42
      go_wp2_with fail
      refine (l1Bits_c _ _ hsz).mono ?_; rintro e w' ⟨rfl, rfl⟩
      rw [h1]
      go_wp2_with fail
      go_ret3
      exact retPF_none hr.out (Below.refl _ _)
    · obtain ⟨A, rfl⟩ := Int.eq_ofNat_of_zero_le (show 0 ≤ a by omega)
      by_cases h3 : (s.size : Int) < (A : Int)
      · have hr := Lib.hid (parse_no3 (s := s) (a := A) (by omega))
        go_enter Try.func42, Try.ntmps42
        go_wp2_with fail
        refine (l1Bits_c _ _ hsz).mono ?_; rintro e w' ⟨rfl, rfl⟩
        rw [h1]
        go_wp2_with fail
        go_ret3
        exact retPF_none hr.out (Below.refl _ _)
      · have hAs : A ≤ s.size := by omega
        have h600 := bits_le h1
        by_cases h4 : (s.size : Int) - (A : Int) < 23
        · have hr := Lib.hid (parse_no3 (s := s) (a := A) (by omega))
          go_enter Try.func42, Try.ntmps42
          go_wp2_with fail
          refine (l1Bits_c _ _ hsz).mono ?_; rintro e w' ⟨rfl, rfl⟩
          rw [h1]
          go_wp2_with fail
          go_ret3
          exact retPF_none hr.out (Below.refl _ _)
        · have H1 := Lib.hid h1
          have hA23 : A + 23 ≤ s.size := by omega
          have HXB := Lib.hid (allS_ex (A + 8) (A + 15) (bits_all h1))
          have hXz : (s.extract (A + 8) (A + 15)).size = 7 := by rw [ex_size (by omega)]; omega
          go_enter Try.func42, Try.ntmps42
          go_wp2_with fail
          refine (l1Bits_c _ _ hsz).mono ?_; rintro e w' ⟨rfl, rfl⟩
          rw [h1]
          clear h1
          go_wp2_with fail
          refine (l6Number_c (s.extract (A + 8) (A + 15)) _ HXB.out (by omega)).mono ?_; rintro e w' ⟨rfl, rfl⟩
          rw [hXz]
          obtain ⟨N, hN⟩ : ∃ N, numK (s.extract (A + 8) (A + 15)) 7 = N := ⟨_, rfl⟩
          rw [hN]
          have HN := Lib.hid hN
          have hN7 : N < 128 := by rw [← hN]; exact numK_lt HXB.out 7 (by omega)
          clear hN hXz
          by_cases h5 : (100 : Int) < (N : Int)
          · have hr := Lib.hid (parse_num (s := s) (a := A) HN.out (.inl (by omega)))
            go_wp2_with fail
            go_ret3
            exact retPF_none hr.out (Below.refl _ _)
          · by_cases h6 : (s.size : Int) - (A : Int) < 23 + (N : Int)
            · have hr := Lib.hid (parse_num (s := s) (a := A) HN.out (.inr (by omega)))
              go_wp2_with fail
              go_ret3
              exact retPF_none hr.out (Below.refl _ _)
            · have hPz : (s.extract (A + 15) (A + 15 + N)).size = N := by rw [ex_size (by omega)]; omega
              have HPB := Lib.hid (allS_ex (A + 15) (A + 15 + N) (bits_all H1.out))
              have HNE := Lib.hid (fun h => parse_ne (s := s) (a := A) HN.out h)
              have HOK := Lib.hid (fun h h2 h3 => parse_ok (s := s) (a := A) H1.out HN.out h h2 h3)
              have hNs : A + 23 + N ≤ s.size := by omega
              obtain ⟨Q, hQ⟩ : ∃ Q, Q = s.extract (A + 15) (A + 15 + N) := ⟨_, rfl⟩
              have hpay : payB Q = true := payB_yes (by rw [hQ]; omega) (bits_mk (by rw [hQ]; omega) (by rw [hQ]; exact HPB.out))
              obtain ⟨F, hF⟩ : ∃ F, F = frameT Q := ⟨_, rfl⟩
              obtain ⟨X, hX⟩ : ∃ X, X = s.extract A (A + 23 + N) := ⟨_, rfl⟩
              rw [← hQ, ← hF, ← hX] at HNE HOK
              have HQ := Lib.hid (hQ)
              have hFX : ∀ b : Bool, (F.toList == X.toList) = b → (F.toList != X.toList) = !b := by intro b hb; rw [bne, hb]
              by_cases he : F = X
              · have hb1 : (F.toList == X.toList) = true := by rw [he]; simp
                have hbX := hFX _ hb1
                have hr := Lib.hid (HOK.out (by omega) hNs he)
                obtain ⟨T, hT⟩ : ∃ T, T = A + 23 + N := ⟨_, rfl⟩
                rw [hF, hX, ← hT] at hb1 hbX
                have wA : IntKind.i64.wrap ((A : Int) + 23) = (A : Int) + 23 := IntWalk.i64_in _ (by omega)
                have wB : IntKind.i64.wrap ((A : Int) + 23 + (N : Int)) = (T : Int) := by rw [IntWalk.i64_in _ (by omega)]; omega
                have hAT : A ≤ T := by omega
                have hTs : T ≤ s.size := by omega
                clear he hFX hF hX HOK HNE HPB HXB hT
                go_wp2_with fail
                rw [← HQ.out]
                clear hQ
                generalize s.extract (A + 8) (A + 15) = Y at *
                go_region_with (first | (go_at_call 44; refine (l6Frame_c Q _ hpay).mono ?_; rintro e w2 ⟨rfl, hb2⟩))
                all_goals
                  have hb3 := (Below.drew (Below.refl w.heap.size w)).trans hb2
                  clear wA wB hb2
                  go_wp2_with fail
                  go_ret3
                  exact retPF_some hr.out (by omega) hb3
              · have hb1 : (F.toList == X.toList) = false := by
                  rw [beq_eq_false_iff_ne]
                  intro e
                  rw [Lib.toList_data, Lib.toList_data] at e
                  exact he (b_ext e)
                have hbX := hFX _ hb1
                have hr := Lib.hid (HNE.out he)
                obtain ⟨T, hT⟩ : ∃ T, T = A + 23 + N := ⟨_, rfl⟩
                rw [hF, hX, ← hT] at hb1 hbX
                have wA : IntKind.i64.wrap ((A : Int) + 23) = (A : Int) + 23 := IntWalk.i64_in _ (by omega)
                have wB : IntKind.i64.wrap ((A : Int) + 23 + (N : Int)) = (T : Int) := by rw [IntWalk.i64_in _ (by omega)]; omega
                have hAT : A ≤ T := by omega
                have hTs : T ≤ s.size := by omega
                clear he hFX hF hX HOK HNE HPB HXB hT
                go_wp2_with fail
                rw [← HQ.out]
                clear hQ
                generalize s.extract (A + 8) (A + 15) = Y at *
                go_region_with (first | (go_at_call 44; refine (l6Frame_c Q _ hpay).mono ?_; rintro e w2 ⟨rfl, hb2⟩))
                all_goals
                  have hb3 := (Below.drew (Below.refl w.heap.size w)).trans hb2
                  clear wA wB hb2
                  go_wp2_with fail
                  go_ret3
                  exact retPF_none hr.out hb3
  · have h1' : bitsB s = false := by simpa using h1
    have hr := Lib.hid (parse_no1 (a := a) h1')
    clear h1
    go_enter Try.func42, Try.ntmps42
    go_wp2_with fail
    refine (l1Bits_c _ _ hsz).mono ?_; rintro e w' ⟨rfl, rfl⟩
    rw [h1']
    go_wp2_with fail
    go_ret3
    exact retPF_none hr.out (Below.refl _ _)

end Go.Proofs.Ytbgabjdgbibohaa
