/- HopCollisions of the program and of the reference. No condition beyond lengths. -/
import Derived.Test.YtklbdkbaldkkpaaHs
import Derived.IntWalk
namespace Go.Proofs.Ytklbdkbaldkkpaa
open Go.RowKit

def cntR (p : Nat → Bool) (n : Nat) : Nat := ((List.range n).filter p).length
theorem cntR_succ {p : Nat → Bool} (n : Nat) : cntR p (n + 1) = cntR p n + if p n = true then 1 else 0 := by
  unfold cntR
  rw [List.range_succ, List.filter_append, List.length_append]
  by_cases h : p n = true
  · simp [h]
  · simp [h]
theorem cntR_le {p : Nat → Bool} (n : Nat) : cntR p n ≤ n := by
  have := List.length_filter_le p (List.range n)
  rw [List.length_range] at this
  exact this
theorem cntR_congr {p q : Nat → Bool} {n : Nat} (h : ∀ i, i < n → p i = q i) : cntR p n = cntR q n := by
  unfold cntR
  rw [List.filter_congr (fun i hi => h i (List.mem_range.1 hi))]

def meetB (a b : List Int) (f i : Nat) : Bool := a.getD i 0 == b.getD ((i + f) % b.length) 0
def meet (a b : List Int) (k : Int) : Nat := cntR (meetB a b (k % b.length).toNat) a.length
def colOk (a b : List Int) : Bool := hopsB a 16 && hopsB b 16 && decide (a.length = b.length) && decide (0 < a.length)
def colHops (a b : List Int) (k : Int) : Int := if colOk a b = true then meet a b k else -1
theorem colHops_no {a b : List Int} {k : Int} (h : colOk a b = false) : colHops a b k = -1 := by simp [colHops, h]
theorem colHops_yes {a b : List Int} {k : Int} (h : colOk a b = true) : colHops a b k = meet a b k := by simp [colHops, h]

theorem colOk_ne {a b : List Int} (h : a.length ≠ b.length) : colOk a b = false := by unfold colOk; rw [decide_eq_false h]; simp
theorem colOk_nil {a b : List Int} (h : a.length = 0) : colOk a b = false := by unfold colOk; rw [decide_eq_false (show ¬ 0 < a.length by omega)]; simp
theorem colOk_nil2 {a b : List Int} (h : b.length = 0) : colOk a b = false := by
  by_cases h1 : a.length = b.length
  · exact colOk_nil (by omega)
  · exact colOk_ne h1
theorem colOk_yes {a b : List Int} (h1 : hopsB a 16 = true) (h2 : hopsB b 16 = true) (h3 : a.length = b.length) (h4 : 0 < a.length) : colOk a b = true := by unfold colOk; rw [h1, h2, decide_eq_true h3, decide_eq_true h4]; rfl

theorem rot_get {b : List Int} {f i : Nat} (hf : f < b.length) (hi : i < b.length) : (rotL f b).getD i 0 = b.getD ((i + f) % b.length) 0 := by
  unfold rotL
  simp only [List.getD]
  congr 1
  rw [List.getElem?_append, List.length_drop]
  by_cases h : i < b.length - f
  · rw [if_pos h, List.getElem?_drop, Nat.mod_eq_of_lt (by omega), Nat.add_comm]
  · rw [if_neg h, List.getElem?_take, if_pos (by omega), show (i + f) % b.length = i - (b.length - f) from ?_]
    rw [show i + f = (i - (b.length - f)) + b.length by omega, Nat.add_mod_right, Nat.mod_eq_of_lt (by omega)]

set_option maxHeartbeats 800000 in
theorem l7Meet_c {ao bo : Option Addr} {n m c d : Nat} {a b : List Int} (k : Int) {w : World} (h : Rd w ao n a) (h' : Rd w bo m b) (hm : 0 < m) :
    Calls Try.prog 80 #[.slice ao n c, .slice bo m d, .int .i64 k] w fun e w' => e = .returned (.int .i64 (meet a b k)) ∧ Qw w w' := by
  have hs := h.2.1
  have hs' := h'.2.1
  have hn := h.1
  have hk0 := Int.emod_nonneg k (show (m : Int) ≠ 0 by omega)
  have hk1 := Int.emod_lt_of_pos k (show 0 < (m : Int) by omega)
  have HM := Lib.hid (l2Mod_c k m)
  have hr := Lib.hid (show (meet a b k : Int) = (cntR (meetB a b (k % (m : Int)).toNat) n : Nat) by unfold meet; rw [← h'.1, ← hn])
  generalize k % (m : Int) = q at hk0 hk1 HM hr
  obtain ⟨f, rfl⟩ := Int.eq_ofNat_of_zero_le hk0
  rw [show ((f : Int)).toNat = f from rfl] at hr
  have hmne : ((m : Int) == 0) = false := by simp; omega
  have HN := Lib.hid hn; clear hn
  go_enter Try.func80, Try.ntmps80
  go_wp2_with fail
  refine (HM.out _ (by omega) (by omega)).mono ?_; rintro e w' ⟨rfl, rfl⟩
  go_wp2_with fail
  go_loopw [7, 8] (fun q i wr => ∃ j : Nat, j ≤ n ∧ i = .int .i64 j ∧ q = .int .i64 (cntR (meetB a b f) j) ∧ Qw w wr) (fun _ i _ => n - (intOf i).toNat)
  case atStart => exact ⟨0, Nat.zero_le _, rfl, rfl, Qw.refl _⟩
  case round =>
    obtain ⟨j, hj, rfl, rfl, hq⟩ := hrel
    have hle := @cntR_le (meetB a b f) j
    by_cases hlt : j < n
    · obtain ⟨g, hg⟩ : ∃ g, g = (j + f) % m := ⟨_, rfl⟩
      have hgm : g < m := by rw [hg]; exact Nat.mod_lt _ hm
      obtain ⟨b1, o1, rfl, hl1, hc1⟩ := (h.qw hq).at hlt
      obtain ⟨b2, o2, rfl, hl2, hc2⟩ := (h'.qw hq).at hgm
      have HS := Lib.hid (@cntR_succ (meetB a b f) j)
      have HB := Lib.hid (show meetB a b f j = (a[j] == b[g]) by unfold meetB; rw [← h'.1, ← hg]; simp [List.getD, hl1, hl2])
      have hw1 : IntKind.i64.wrap ((j : Int) + (f : Int)) = ((j + f : Nat) : Int) := by rw [IntWalk.i64_in _ (by omega)]; omega
      have hw2 : ((j + f : Nat) : Int).tmod (m : Int) = (g : Int) := by rw [hg]; rfl
      have HG := Lib.hid hg; clear hg
      clear h h'
      generalize cntR (meetB a b f) j = z at *
      generalize hsum : j + f = sm at *
      have HSM := Lib.hid hsum; clear hsum
      by_cases heq : a[j] = b[g]
      · have he : (a[j] == b[g]) = true := by simp [heq]
        have HE := Lib.hid heq; clear heq
        go_wp2
        go_quiet (fail)
        clear hw1 hw2
        go_wp2
        go_roundw
        case rel => exact ⟨j + 1, by omega, by go_num, by rw [HS.out, if_pos (HB.out.trans he)]; go_num, hq.trans (Qw.drewN _ _)⟩
        case measure => simp [intOf]; omega
      · have he : (a[j] == b[g]) = false := by simpa using heq
        go_wp2
        go_quiet (fail)
        clear hw1 hw2
        go_wp2
        go_roundw
        case rel => exact ⟨j + 1, by omega, by go_num, by rw [HS.out, if_neg (by rw [HB.out, he]; decide)]; rfl, hq.trans (Qw.drewN _ _)⟩
        case measure => simp [intOf]; omega
    · go_wp2
      go_ret
      obtain rfl : j = n := by omega
      exact ⟨ret_i hr.out.symm, hq⟩

set_option maxHeartbeats 800000 in
theorem sHopCollisions_c {ao bo : Option Addr} {n m c d : Nat} {a b : List Int} (k : Int) {w : World} (h : Rd w ao n a) (h' : Rd w bo m b) :
    Calls Try.prog 79 #[.slice ao n c, .slice bo m d, .int .i64 k] w fun e w' => e = .returned (.int .i64 (colHops a b k)) ∧ Qw w w' := by
  have hn := h.1
  have hm := h'.1
  by_cases h1 : hopsB a 16 = true
  · by_cases h2 : hopsB b 16 = true
    · by_cases h3 : n = m
      · subst h3
        by_cases h4 : n = 0
        · have hr := Lib.hid (colHops_no (k := k) (colOk_nil (b := b) (show a.length = 0 by omega)))
          have HN := Lib.hid hn; have HM := Lib.hid hm; clear hn hm
          subst h4
          go_enter Try.func79, Try.ntmps79
          go_wp2_with fail
          refine (l7Hops_c h).mono ?_; rintro e w' ⟨rfl, rfl⟩
          go_wp2_with fail
          refine (l7Hops_c h').mono ?_; rintro e w' ⟨rfl, rfl⟩
          go_wp2_with fail
          go_ret
          exact ⟨ret_i hr.out.symm, Qw.refl _⟩
        · have hr := Lib.hid (colHops_yes (k := k) (colOk_yes h1 h2 (by omega) (by omega)))
          have hne : ((n : Int) == 0) = false := by simp; omega
          have HN := Lib.hid hn; have HM := Lib.hid hm; clear hn hm
          go_enter Try.func79, Try.ntmps79
          go_wp2_with fail
          refine (l7Hops_c h).mono ?_; rintro e w' ⟨rfl, rfl⟩
          go_wp2_with fail
          refine (l7Hops_c h').mono ?_; rintro e w' ⟨rfl, rfl⟩
          go_wp2_with fail
          refine (l7Meet_c k h h' (by omega)).mono ?_; rintro e w1 ⟨rfl, hq⟩
          go_wp2_with fail
          go_ret
          exact ⟨ret_i hr.out.symm, hq⟩
      · have hr := Lib.hid (colHops_no (k := k) (colOk_ne (a := a) (b := b) (by omega)))
        have hne : ((n : Int) == (m : Int)) = false := by simp; omega
        have hne2 : ((n : Int) != (m : Int)) = true := by simp; omega
        have HN := Lib.hid hn; have HM := Lib.hid hm; clear hn hm
        go_enter Try.func79, Try.ntmps79
        go_wp2_with fail
        refine (l7Hops_c h).mono ?_; rintro e w' ⟨rfl, rfl⟩
        go_wp2_with fail
        refine (l7Hops_c h').mono ?_; rintro e w' ⟨rfl, rfl⟩
        go_wp2_with fail
        go_ret
        exact ⟨ret_i hr.out.symm, Qw.refl _⟩
    · have h2' : hopsB b 16 = false := by simpa using h2
      have hr := Lib.hid (colHops_no (k := k) (show colOk a b = false by simp [colOk, h2']))
      have HN := Lib.hid hn; have HM := Lib.hid hm; clear hn hm h2
      go_enter Try.func79, Try.ntmps79
      go_wp2_with fail
      refine (l7Hops_c h).mono ?_; rintro e w' ⟨rfl, rfl⟩
      go_wp2_with fail
      refine (l7Hops_c h').mono ?_; rintro e w' ⟨rfl, rfl⟩
      go_wp2_with fail
      go_ret
      exact ⟨ret_i hr.out.symm, Qw.refl _⟩
  · have h1' : hopsB a 16 = false := by simpa using h1
    have hr := Lib.hid (colHops_no (k := k) (show colOk a b = false by simp [colOk, h1']))
    have HN := Lib.hid hn; have HM := Lib.hid hm; clear hn hm h1
    go_enter Try.func79, Try.ntmps79
    go_wp2_with fail
    refine (l7Hops_c h).mono ?_; rintro e w' ⟨rfl, rfl⟩
    go_wp2_with fail
    go_ret
    exact ⟨ret_i hr.out.symm, Qw.refl _⟩

set_option maxHeartbeats 1600000 in
theorem HopCollisions_c {ao bo : Option Addr} {n m c d : Nat} {a b : List Int} (k : Int) {w : World} (h : Rd w ao n a) (h' : Rd w bo m b) (hcap : m ≤ d) :
    Calls Try.prog 29 #[.slice ao n c, .slice bo m d, .int .i64 k] w fun e w' => e = .returned (.int .i64 (colHops a b k)) ∧ Below w.heap.size w w' := by
  have hn := h.1
  have hm := h'.1
  have hs := h.2.1
  by_cases h2 : hopsB b 16 = true
  · by_cases h4 : m = 0
    · have hr := Lib.hid (colHops_no (k := k) (colOk_nil2 (a := a) (show b.length = 0 by omega)))
      have hS := Lib.hid (shiftHops_no2 (k := k) (show b.length = 0 by omega))
      have HN := Lib.hid hn; have HM := Lib.hid hm; clear hn hm
      subst h4
      go_enter Try.func29, Try.ntmps29
      go_wp2_with fail
      refine (ShiftHops_c k h' hcap).mono ?_; rintro e w1 hret; rw [hS.out] at hret; obtain ⟨a1, n1, c1, rfl, ho, hb⟩ := hret.none
      go_wp2_with fail
      go_ret
      exact ⟨ret_i hr.out.symm, hb⟩
    · have hS := Lib.hid (shiftHops_yes (k := k) h2 (by omega))
      by_cases h1 : hopsB a 16 = true
      · by_cases h3 : n = m
        · subst h3
          have hk0 := Int.emod_nonneg k (show (n : Int) ≠ 0 by omega)
          have hk1 := Int.emod_lt_of_pos k (show 0 < (n : Int) by omega)
          have hr := Lib.hid (colHops_yes (k := k) (colOk_yes h1 h2 (by omega) (by omega)))
          have hmt := Lib.hid (show (meet a b k : Int) = (cntR (fun i => a.getD i 0 == (rotL (k % (n : Int)).toNat b).getD i 0) n : Nat) by
            unfold meet
            rw [← hm, ← hn]
            refine congrArg _ (cntR_congr fun i hi => ?_)
            unfold meetB
            rw [rot_get (b := b) (f := (k % (n : Int)).toNat) (i := i) (by omega) (by omega)])
          have hRl : (rotL (k % (n : Int)).toNat b).length = n := by unfold rotL; rw [List.length_append, List.length_drop, List.length_take]; omega
          rw [← hm] at hS
          generalize rotL (k % (n : Int)).toNat b = R at hS hmt hRl
          have HN := Lib.hid hn; have HM := Lib.hid hm; have HR := Lib.hid hRl; clear hn hm hk0 hk1 hRl
          go_enter Try.func29, Try.ntmps29
          go_wp2_with fail
          refine (ShiftHops_c k h' hcap).mono ?_; rintro e w1 hret; rw [hS.out] at hret; obtain ⟨a1, n1, c1, rfl, ho, hb⟩ := hret.some
          obtain rfl : n1 = n := by rw [ho.1, HR.out]
          have hR := ho.rd
          have hA := h.below hb
          clear ho
          go_wp2_with fail
          refine (isHops_c hA).mono ?_; rintro e w' ⟨rfl, rfl⟩
          go_wp2_with fail
          go_loop [9, 34] (fun q i => ∃ j : Nat, j ≤ n1 ∧ i = .int .i64 j ∧ q = .int .i64 (cntR (fun i => a.getD i 0 == R.getD i 0) j)) (fun _ i => n1 - (intOf i).toNat)
          case atStart => exact ⟨0, Nat.zero_le _, rfl, rfl⟩
          case round =>
            obtain ⟨j, hj, rfl, rfl⟩ := hrel
            have hle := @cntR_le (fun i => a.getD i 0 == R.getD i 0) j
            have HS := Lib.hid (@cntR_succ (fun i => a.getD i 0 == R.getD i 0) j)
            by_cases hlt : j < n1
            · obtain ⟨b1, o1, rfl, hl1, hc1⟩ := hA.at hlt
              obtain ⟨b2, o2, rfl, hl2, hc2⟩ := hR.at hlt
              have HB := Lib.hid (show (a.getD j 0 == R.getD j 0) = (a[j] == R[j]) by simp [List.getD, hl1, hl2])
              generalize cntR (fun i => a.getD i 0 == R.getD i 0) j = z at *
              clear h h' hA hR
              by_cases heq : a[j] = R[j]
              · have he : (a[j] == R[j]) = true := by simp [heq]
                have HE := Lib.hid heq; clear heq
                go_wp2
                go_round
                case rel => exact ⟨j + 1, by omega, by go_num, by rw [HS.out, if_pos (HB.out.trans he)]; go_num⟩
                case measure => simp [intOf]; omega
              · have he : (a[j] == R[j]) = false := by simpa using heq
                go_wp2
                go_round
                case rel => exact ⟨j + 1, by omega, by go_num, by rw [HS.out, if_neg (by rw [HB.out, he]; decide)]; rfl⟩
                case measure => simp [intOf]; omega
            · go_wp2
              go_ret
              obtain rfl : j = n1 := by omega
              exact ⟨ret_i (hr.out.trans hmt.out).symm, hb⟩
        · have hr := Lib.hid (colHops_no (k := k) (colOk_ne (a := a) (b := b) (by omega)))
          have hne2 : ((n : Int) != (m : Int)) = true := by simp; omega
          have HN := Lib.hid hn; have HM := Lib.hid hm; clear hn hm
          go_enter Try.func29, Try.ntmps29
          go_wp2_with fail
          refine (ShiftHops_c k h' hcap).mono ?_; rintro e w1 hret; rw [hS.out] at hret; obtain ⟨a1, n1, c1, rfl, ho, hb⟩ := hret.some
          go_wp2_with fail
          refine (isHops_c (h.below hb)).mono ?_; rintro e w' ⟨rfl, rfl⟩
          go_wp2_with fail
          go_ret
          exact ⟨ret_i hr.out.symm, hb⟩
      · have h1' : hopsB a 16 = false := by simpa using h1
        have hr := Lib.hid (colHops_no (k := k) (show colOk a b = false by simp [colOk, h1']))
        have HN := Lib.hid hn; have HM := Lib.hid hm; clear hn hm h1
        go_enter Try.func29, Try.ntmps29
        go_wp2_with fail
        refine (ShiftHops_c k h' hcap).mono ?_; rintro e w1 hret; rw [hS.out] at hret; obtain ⟨a1, n1, c1, rfl, ho, hb⟩ := hret.some
        go_wp2_with fail
        refine (isHops_c (h.below hb)).mono ?_; rintro e w' ⟨rfl, rfl⟩
        go_wp2_with fail
        go_ret
        exact ⟨ret_i hr.out.symm, hb⟩
  · have h2' : hopsB b 16 = false := by simpa using h2
    have hr := Lib.hid (colHops_no (k := k) (show colOk a b = false by simp [colOk, h2']))
    have hS := Lib.hid (shiftHops_no1 (k := k) h2')
    have HN := Lib.hid hn; have HM := Lib.hid hm; clear hn hm h2
    go_enter Try.func29, Try.ntmps29
    go_wp2_with fail
    refine (ShiftHops_c k h' hcap).mono ?_; rintro e w1 hret; rw [hS.out] at hret; obtain ⟨a1, n1, c1, rfl, ho, hb⟩ := hret.none
    go_wp2_with fail
    go_ret
    exact ⟨ret_i hr.out.symm, hb⟩

end Go.Proofs.Ytklbdkbaldkkpaa
