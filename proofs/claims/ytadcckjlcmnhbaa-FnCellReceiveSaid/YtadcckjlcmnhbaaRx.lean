/- What can be received (receptionValid of the program, l4Listen of the reference). No condition beyond lengths. -/
import Derived.Test.YtadcckjlcmnhbaaRv
namespace Go.Proofs.Ytadcckjlcmnhbaa
open Go.RowKit

def recB (l : List Int) (s : ByteArray) (d : Int) : Bool := sigB l && seqB s && inB d 0 3000

set_option maxHeartbeats 800000 in
theorem receptionValid_c {ao : Option Addr} {n c : Nat} {l : List Int} {w : World} (s : ByteArray) (d : Int) (h : Rd w ao n l) :
    Calls Try.prog 37 #[.slice ao n c, .string s, .int .i64 d] w fun e w' => e = .returned (.bool (recB l s d)) ∧ w = w' := by
  by_cases h1 : sigB l = true
  · by_cases h2 : seqB s = true
    · have hr := Lib.hid (show recB l s d = inB d 0 3000 by unfold recB; rw [h1, h2]; rfl)
      by_cases h3 : 0 ≤ d
      · by_cases h4 : d ≤ 3000
        · have HE := Lib.hid (show inB d 0 3000 = true from inB_true h3 h4)
          go_enter Try.func37, Try.ntmps37
          go_wp2_with fail
          refine (SignalValid_c h).mono ?_; rintro e w' ⟨rfl, rfl⟩
          rw [h1]
          go_wp2_with fail
          refine (SequenceValid_c _ _).mono ?_; rintro e w' ⟨rfl, rfl⟩
          rw [h2]
          clear h1 h2
          go_wp2_with fail
          go_ret
          exact ⟨ret_b (by rw [hr.out, HE.out]), rfl⟩
        · have HE := Lib.hid (show inB d 0 3000 = false from inB_hi (by omega))
          have h5 : decide (d ≤ 3000) = false := by simpa using h4
          go_enter Try.func37, Try.ntmps37
          go_wp2_with fail
          refine (SignalValid_c h).mono ?_; rintro e w' ⟨rfl, rfl⟩
          rw [h1]
          go_wp2_with fail
          refine (SequenceValid_c _ _).mono ?_; rintro e w' ⟨rfl, rfl⟩
          rw [h2]
          clear h1 h2
          go_wp2_with fail
          go_ret
          exact ⟨ret_b (by rw [hr.out, HE.out]), rfl⟩
      · have HE := Lib.hid (show inB d 0 3000 = false from inB_lo (by omega))
        go_enter Try.func37, Try.ntmps37
        go_wp2_with fail
        refine (SignalValid_c h).mono ?_; rintro e w' ⟨rfl, rfl⟩
        rw [h1]
        go_wp2_with fail
        refine (SequenceValid_c _ _).mono ?_; rintro e w' ⟨rfl, rfl⟩
        rw [h2]
        clear h1 h2
        go_wp2_with fail
        go_ret
        exact ⟨ret_b (by rw [hr.out, HE.out]), rfl⟩
    · have h2' : seqB s = false := by simpa using h2
      have HQ := Lib.hid (show recB l s d = false by unfold recB; rw [h2']; simp)
      go_enter Try.func37, Try.ntmps37
      go_wp2_with fail
      refine (SignalValid_c h).mono ?_; rintro e w' ⟨rfl, rfl⟩
      rw [h1]
      go_wp2_with fail
      refine (SequenceValid_c _ _).mono ?_; rintro e w' ⟨rfl, rfl⟩
      rw [h2']
      clear h1 h2 h2'
      go_wp2_with fail
      go_ret
      exact ⟨ret_b (by rw [HQ.out]), rfl⟩
  · have h1' : sigB l = false := by simpa using h1
    have hr := Lib.hid (show recB l s d = false by unfold recB; rw [h1']; rfl)
    go_enter Try.func37, Try.ntmps37
    go_wp2_with fail
    refine (SignalValid_c h).mono ?_; rintro e w' ⟨rfl, rfl⟩
    rw [h1']
    clear h1 h1'
    go_wp2_with fail
    go_ret
    exact ⟨ret_b hr.out.symm, rfl⟩

set_option maxHeartbeats 800000 in
theorem l4Listen_c {ao : Option Addr} {n c : Nat} {l : List Int} {w : World} (s : ByteArray) (d m : Int) (h : Rd w ao n l) (hs : s.size ≤ 1099511627776) :
    Calls Try.prog 114 #[.slice ao n c, .string s, .int .i64 d, .int .i64 m] w fun e w' => e = .returned (.bool (recB l s d && inB m 0 600)) ∧ w = w' := by
  by_cases h1 : sigB l = true
  · by_cases h2 : seqB s = true
    · by_cases h3 : inB d 0 3000 = true
      · have hr := Lib.hid (show (recB l s d && inB m 0 600) = inB m 0 600 by unfold recB; rw [h1, h2, h3]; rfl)
        go_enter Try.func114, Try.ntmps114
        go_wp2_with fail
        refine (sSignalValid_c h).mono ?_; rintro e w' ⟨rfl, rfl⟩
        rw [h1]
        go_wp2_with fail
        refine (sSequenceValid_c _ _ hs).mono ?_; rintro e w' ⟨rfl, rfl⟩
        rw [h2]
        go_wp2_with fail
        refine (l1In_c _ _ _ _).mono ?_; rintro e w' ⟨rfl, rfl⟩
        rw [h3]
        clear h1 h2 h3
        go_wp2_with fail
        refine (l1In_c _ _ _ _).mono ?_; rintro e w' ⟨rfl, rfl⟩
        go_wp2_with fail
        go_ret
        exact ⟨ret_b hr.out.symm, rfl⟩
      · have h3' : inB d 0 3000 = false := by simpa using h3
        have hr := Lib.hid (show (recB l s d && inB m 0 600) = false by unfold recB; rw [h3']; simp)
        go_enter Try.func114, Try.ntmps114
        go_wp2_with fail
        refine (sSignalValid_c h).mono ?_; rintro e w' ⟨rfl, rfl⟩
        rw [h1]
        go_wp2_with fail
        refine (sSequenceValid_c _ _ hs).mono ?_; rintro e w' ⟨rfl, rfl⟩
        rw [h2]
        go_wp2_with fail
        refine (l1In_c _ _ _ _).mono ?_; rintro e w' ⟨rfl, rfl⟩
        rw [h3']
        clear h1 h2 h3 h3'
        go_wp2_with fail
        go_ret
        exact ⟨ret_b hr.out.symm, rfl⟩
    · have h2' : seqB s = false := by simpa using h2
      have hr := Lib.hid (show (recB l s d && inB m 0 600) = false by unfold recB; rw [h2']; simp)
      go_enter Try.func114, Try.ntmps114
      go_wp2_with fail
      refine (sSignalValid_c h).mono ?_; rintro e w' ⟨rfl, rfl⟩
      rw [h1]
      go_wp2_with fail
      refine (sSequenceValid_c _ _ hs).mono ?_; rintro e w' ⟨rfl, rfl⟩
      rw [h2']
      clear h1 h2 h2'
      go_wp2_with fail
      go_ret
      exact ⟨ret_b hr.out.symm, rfl⟩
  · have h1' : sigB l = false := by simpa using h1
    have hr := Lib.hid (show (recB l s d && inB m 0 600) = false by unfold recB; rw [h1']; simp)
    go_enter Try.func114, Try.ntmps114
    go_wp2_with fail
    refine (sSignalValid_c h).mono ?_; rintro e w' ⟨rfl, rfl⟩
    rw [h1']
    clear h1 h1'
    go_wp2_with fail
    go_ret
    exact ⟨ret_b hr.out.symm, rfl⟩

end Go.Proofs.Ytadcckjlcmnhbaa
