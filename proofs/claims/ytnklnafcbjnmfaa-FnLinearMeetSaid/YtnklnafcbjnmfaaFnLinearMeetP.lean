/- The law FnLinearMeet holds for every input that the given row lets in: the program's answer is the reference's. No condition of its own. -/
import Derived.Test.YtnklnafcbjnmfaaRows
import Derived.WalkKit
import Derived.ProofKit
import Derived.OpenShut
import Derived.ShutString
import Derived.ChangeOld
import Derived.Below
import Derived.Lib.SmallJoins
import Derived.Test.YtnklnafcbjnmfaaLw
import Derived.Test.YtnklnafcbjnmfaaDc
import Derived.Test.YtnklnafcbjnmfaaDl
import Derived.Test.YtnklnafcbjnmfaaHl
import Derived.Test.YtnklnafcbjnmfaaHc
import Derived.Test.YtnklnafcbjnmfaaHm
namespace Go.Proofs.Ytnklnafcbjnmfaa.fnLinearMeet
open Go.ChangeShapes Go.WideShapes Go.ChangeAt Go.RowKit
open Go.ChangeMaps (open_string shut_string)
set_option linter.unusedVariables false

theorem own : ownKnob Try.prog.godebug = none := by kernel_rfl
theorem laidOut : laidOutB Try.prog = true := by kernel_rfl

/-- A slice of integers that came in: nil, or a row of 'cap' cells that hold the numbers zs. -/
def IsRow (k : IntKind) (w : World) (a : Option Addr) (len cap : Nat) (zs : List Int) : Prop :=
  (a = none ∧ len = 0 ∧ cap = 0 ∧ zs = []) ∨
  ∃ x, a = some x ∧ len ≤ cap ∧ cap ≤ maxLen ∧ zs.length = cap ∧ (∀ i, i < zs.length → w.cell? (x.add i) = some (.int k (zs.getD i 0))) ∧ ∀ n ∈ zs, (Lit.int k n).wf = true

/-- No number from 2 up to k (without k) divides p. -/
def primB (p k : Nat) : Bool := decide (1 < p) && (List.range k).all fun d => decide (d < 2) || decide (0 < p % d)
theorem primB_two (p : Nat) : primB p 2 = decide (1 < p) := by
  unfold primB
  have : (List.range 2).all (fun d => decide (d < 2) || decide (0 < p % d)) = true := by simp [List.range, List.range.loop]
  rw [this, Bool.and_true]
theorem primB_succ {p k : Nat} (hk : 2 ≤ k) : primB p (k + 1) = (primB p k && decide (0 < p % k)) := by
  unfold primB
  rw [List.range_succ, List.all_append]
  simp [show ¬ k < 2 by omega, Bool.and_assoc]
theorem primB_mono {p k j : Nat} (h : primB p k = true) (hj : j ≤ k) : primB p j = true := by
  unfold primB at *
  rw [Bool.and_eq_true, List.all_eq_true] at *
  exact ⟨h.1, fun d hd => h.2 d (List.mem_range.2 (by have := List.mem_range.1 hd; omega))⟩
def linMeetOk (p u o k : Nat) : Bool := (cntR (fun i => u * i % p == o * ((i + k) % p) % p) p == 1) && (cntR (fun i => u * i % p == (o * i % p + k) % p) p == 1)
def linAll : Bool := (List.range 17).all fun p => !primB p p || (List.range p).all fun u => (List.range p).all fun o => (u == o) || (List.range p).all fun k => linMeetOk p u o k
theorem linAll_yes : linAll = true := by decide +kernel
theorem lin_meet_nat {p u o k : Nat} (hp : p < 17) (hP : primB p p = true) (hu : u < p) (ho : o < p) (hne : o ≠ u) (hk : k < p) : linMeetOk p u o k = true := by
  have h := linAll_yes
  unfold linAll at h
  rw [List.all_eq_true] at h
  have h1 := h p (List.mem_range.2 hp)
  rw [hP, Bool.not_true, Bool.false_or, List.all_eq_true] at h1
  have h2 := h1 u (List.mem_range.2 hu)
  rw [List.all_eq_true] at h2
  have h3 := h2 o (List.mem_range.2 ho)
  have e : (u == o) = false := by simpa using fun e : u = o => hne e.symm
  rw [e, Bool.false_or, List.all_eq_true] at h3
  exact h3 k (List.mem_range.2 hk)
/-- The linear hops of one user of p channels, in n places. -/
def linL (p u n : Nat) : List Int := (List.range n).map (linAt p u)
theorem linL_len (p u n : Nat) : (linL p u n).length = n := by simp [linL]
theorem linL_at {p u n i : Nat} (h : i < n) : (linL p u n).getD i 0 = ((u * i % p : Nat) : Int) := by
  simp [linL, List.getD, h, linAt]
theorem linL_hops {p u n : Nat} (h : 1 ≤ p ∧ p ≤ 16) (hn : n ≤ 300) : hopsB (linL p u n) p = true :=
  hopsB_mk (by omega) (by rw [linL_len]; exact hn) (allB_linAt (by omega) n)
theorem hops16 {l : List Int} {ch : Int} (h : hopsB l ch = true) : hopsB l 16 = true := by
  obtain ⟨h1, h2, h3⟩ := hopsB_ch h
  exact hopsB_mk (by omega) h2 (allB_mono h3 (by omega))
theorem lin_meet1 {p u o k : Nat} (hp : 1 ≤ p ∧ p ≤ 16) (hP : primB p p = true) (hu : u < p) (ho : o < p) (hne : o ≠ u) (hk : k < p) : colHops (linL p u p) (linL p o p) k = 1 := by
  have h := lin_meet_nat (by omega) hP hu ho hne hk
  unfold linMeetOk at h
  rw [Bool.and_eq_true, beq_iff_eq, beq_iff_eq] at h
  rw [colHops_yes (colOk_yes (hops16 (linL_hops hp (by omega))) (hops16 (linL_hops hp (by omega))) (by rw [linL_len, linL_len]) (by rw [linL_len]; omega))]
  unfold meet
  rw [linL_len, linL_len]
  have e : ((k : Int) % (p : Int)).toNat = k := by rw [← Int.natCast_emod, Int.toNat_natCast, Nat.mod_eq_of_lt hk]
  rw [e]
  have key : ∀ i, i < p → meetB (linL p u p) (linL p o p) k i = (u * i % p == o * ((i + k) % p) % p) := by
    intro i hi
    unfold meetB
    rw [linL_len, linL_at hi, linL_at (Nat.mod_lt _ (by omega))]
    rw [Bool.eq_iff_iff, beq_iff_eq, beq_iff_eq]
    omega
  rw [cntR_congr key, h.1]; rfl
theorem lin_meet2 {p u o k : Nat} (hp : 1 ≤ p ∧ p ≤ 16) (hP : primB p p = true) (hu : u < p) (ho : o < p) (hne : o ≠ u) (hk : k < p) : colHops (linL p u p) ((linL p o p).map fun x => (x + (k : Int)) % (p : Int)) 0 = 1 := by
  have h := lin_meet_nat (by omega) hP hu ho hne hk
  unfold linMeetOk at h
  rw [Bool.and_eq_true, beq_iff_eq, beq_iff_eq] at h
  have hm : hopsB ((linL p o p).map fun x => (x + (k : Int)) % (p : Int)) p = true := by
    refine hopsB_mk (by omega) (by rw [List.length_map, linL_len]; omega) ?_
    unfold allB; rw [List.all_eq_true]
    intro x hx
    obtain ⟨y, _, rfl⟩ := List.mem_map.1 hx
    have h0 := Int.emod_nonneg (y + (k : Int)) (show (p : Int) ≠ 0 by omega)
    have h1 := Int.emod_lt_of_pos (y + (k : Int)) (show 0 < (p : Int) by omega)
    exact inB_true h0 (by omega)
  rw [colHops_yes (colOk_yes (hops16 (linL_hops hp (by omega))) (hops16 hm) (by rw [List.length_map, linL_len, linL_len]) (by rw [linL_len]; omega))]
  unfold meet
  rw [linL_len, List.length_map, linL_len, Int.zero_emod, Int.toNat_zero]
  have key : ∀ i, i < p → meetB (linL p u p) ((linL p o p).map fun x => (x + (k : Int)) % (p : Int)) 0 i = (u * i % p == (o * i % p + k) % p) := by
    intro i hi
    unfold meetB
    rw [List.length_map, linL_len, linL_at hi, Nat.add_zero, Nat.mod_eq_of_lt hi]
    have e2 : ((linL p o p).map fun x => (x + (k : Int)) % (p : Int)).getD i 0 = (((o * i % p + k) % p : Nat) : Int) := by
      simp [linL, List.getD, hi, linAt]
    rw [e2, Bool.eq_iff_iff, beq_iff_eq, beq_iff_eq]
    omega
  rw [cntR_congr key, h.2]; rfl
theorem linOk_parts {ch u m : Int} (h : linOk ch u m = true) : (1 ≤ ch ∧ ch ≤ 16) ∧ (0 ≤ u ∧ u ≤ ch - 1) ∧ (0 ≤ m ∧ m ≤ 300) := by
  unfold linOk at h; rw [Bool.and_eq_true, Bool.and_eq_true] at h; exact ⟨inB_iff.1 h.1.1, inB_iff.1 h.1.2, inB_iff.1 h.2⟩
theorem linHops_L {p u n : Nat} (hp : 1 ≤ p ∧ p ≤ 16) (hu : u < p) (hn : n ≤ 300) : linHops p u n = some (linL p u n) := by
  have : linOk p u n = true := by
    unfold linOk
    rw [show chB (p : Int) = true from chB_iff.2 (by omega), inB_true (by omega) (by omega), inB_true (by omega) (by omega)]; rfl
  rw [linHops_yes this]; rfl
theorem linL_get {p u n i : Nat} (h : i < (linL p u n).length) : (linL p u n)[i] = ((u * i % p : Nat) : Int) := by
  simp [linL, linAt]
theorem hops_mapL {p o n : Nat} (k : Nat) (hp : 1 ≤ p ∧ p ≤ 16) (hn : n ≤ 300) (hk : k < p) : movHops (linL p o n) p k = some ((linL p o n).map fun x => (x + (k : Int)) % (p : Int)) := by
  refine movHops_yes ?_
  unfold movOk
  rw [linL_hops hp hn, inB_true (by omega) (by omega)]; rfl
theorem wrap_mul {u k v : Nat} (hv : v = u * k) (h : v < 1000000) : IntKind.i64.wrap ((u : Int) * (k : Int)) = (v : Int) := by
  rw [← Int.natCast_mul, ← hv, IntKind.wrap_i64]; omega
theorem tmod_nat {v p r : Nat} (h : r = v % p) : (v : Int).tmod (p : Int) = (r : Int) := by
  rw [h, Int.ofNat_tmod]
set_option maxRecDepth 100000
set_option maxHeartbeats 4000000 in
theorem walk (a0 : Option Addr) (len0 cap0 : Nat) (z0 : List Int) (a1 : Option Addr) (len1 cap1 : Nat) (z1 : List Int) (w : World) (w0 : IsRow .u8 w a0 len0 cap0 z0) (w1 : IsRow .u8 w a1 len1 cap1 z1) :
    Calls Try.prog 5 #[.slice a0 len0 cap0, .slice a1 len1 cap1] w fun e w' => e = .returned (.bool true) ∧ Below w.heap.size w w' := by
  by_cases hn : len0 ≤ 1048576
  · by_cases hn1 : len1 ≤ 1048576
    · have hC := codeW_of_row w0 (by omega)
      clear w0 w1
      go_enter Try.func5, Try.ntmps5
      go_wp2_with fail
      refine (DrawLinearHops_c hC).mono ?_; rintro e w1 ⟨ch, ui, mi, rfl, hch, hui, hmi, hb1⟩
      clear hC
      by_cases hok : linOk ch ui mi = true
      · obtain ⟨hp, hu, hm⟩ := linOk_parts hok
        clear hok
        obtain ⟨p, rfl⟩ := Int.eq_ofNat_of_zero_le (show 0 ≤ ch by omega)
        obtain ⟨u, rfl⟩ := Int.eq_ofNat_of_zero_le hu.1
        obtain ⟨m, rfl⟩ := Int.eq_ofNat_of_zero_le hm.1
        have hp' : 1 ≤ p ∧ p ≤ 16 := by omega
        have hu' : u < p := by omega
        have hm' : m ≤ 300 := by omega
        clear hch hui hmi hp hu hm
        have HY := Lib.hid (linHops_L hp' hu' hm')
        have HA := Lib.hid (linHops_L hp' hu' (show p ≤ 300 by omega))
        have HV := Lib.hid (linL_hops (u := u) hp' hm')
        have HN := Lib.hid (linL_len p u m)
        go_wp2_with fail
        refine (LinearHops_c (p : Int) (u : Int) (m : Int) _).mono ?_; rintro e w2 hret
        rw [HY.out] at hret; obtain ⟨a2, n2, c2, rfl, hx2, hb2⟩ := hret.some
        have hB2 := hb1.trans (hb2.mono hb1.size)
        clear hb1 hb2
        go_wp2_with fail
        refine (sLinearHops_c (p : Int) (u : Int) (m : Int) _).mono ?_; rintro e w3 hret
        rw [HY.out] at hret; obtain ⟨a3, n3, c3, rfl, hy3, hb3⟩ := hret.some
        have hx3 := hx2.below hb3
        have hB3 := hB2.trans (hb3.mono hB2.size)
        clear hx2 hb3 hB2
        go_wp2_with fail
        refine (ssInts_c hx3.rd hy3.rd).mono ?_; rintro e w4 ⟨rfl, hq4⟩
        rw [sameB_self]
        have hx4 := (hx3.qw hq4).rd
        have hB4 := hB3.trans ((hq4.below w3.heap.size).mono hB3.size)
        clear hx3 hy3 hB3 hq4
        have hn2 : n2 = m := by rw [hx4.1, HN.out]
        subst hn2
        have hp0 : ((p : Int) == 0) = false := by simp; omega
        go_wp2_with fail
        go_loopw [12] (fun i wr => ∃ k : Nat, k ≤ n2 ∧ i = .int .i64 k ∧ Qw w4 wr) (fun i _ => n2 - (intOf i).toNat)
        case atStart => exact ⟨0, Nat.zero_le _, rfl, Qw.refl _⟩
        case round =>
          obtain ⟨k, hk, rfl, hq⟩ := hrel
          by_cases hlt : k < n2
          · obtain ⟨bk, off, rfl, hl, hc⟩ := (hx4.qw hq).at hlt
            rw [linL_get hl] at hc
            obtain ⟨v, hv⟩ : ∃ v, v = u * k := ⟨_, rfl⟩
            obtain ⟨r, hr⟩ : ∃ r, r = v % p := ⟨_, rfl⟩
            rw [← hv, ← hr] at hc
            have hv1 : v ≤ 16 * 300 := by rw [hv]; exact Nat.mul_le_mul (by omega) (by omega)
            have ew := wrap_mul hv (by omega)
            have et := tmod_nat hr
            have hne : ((r : Int) != (r : Int)) = false := by simp
            have HV1 := Lib.hid hv; have HR1 := Lib.hid hr
            clear hv hr
            go_wp2
            go_quiet (fail)
            clear ew et
            go_wp2
            go_roundw
            case rel => exact ⟨k + 1, by omega, by go_num, hq.trans (Qw.drewN _ _)⟩
            case measure => simp [intOf]; omega
          · have hx5 := hx4.qw hq
            have hB5 := hB4.trans ((hq.below w4.heap.size).mono hB4.size)
            obtain ⟨w5, hw5⟩ : ∃ w5, w5 = wr := ⟨_, rfl⟩
            subst hw5
            clear hx4 hB4 hq
            go_wp2_with fail
            go_loop [13, 14] (fun pv dv => ∃ d : Nat, 2 ≤ d ∧ (d ≤ p ∨ d = 2) ∧ dv = .int .i64 d ∧ pv = .bool (primB p d)) (fun _ dv => p - (intOf dv).toNat)
            case atStart => exact ⟨2, Nat.le_refl _, Or.inr rfl, rfl, congrArg Value.bool (by rw [primB_two]; exact decide_eq_decide.2 (by omega))⟩
            case round =>
              obtain ⟨d, hd2, hdp, rfl, rfl⟩ := hrel
              by_cases hlt : d < p
              · have hd0 : ((d : Int) == 0) = false := by simp; omega
                obtain ⟨r, hr⟩ : ∃ r, r = p % d := ⟨_, rfl⟩
                have et := tmod_nat hr
                have HS := Lib.hid (show primB p (d + 1) = (primB p d && decide (0 < r)) by rw [hr]; exact primB_succ hd2)
                clear hr
                by_cases hpr : primB p d = true
                · rw [hpr]
                  have HPR := Lib.hid hpr; clear hpr
                  go_wp2_with fail
                  go_round
                  case rel => exact ⟨d + 1, by omega, by omega, by go_num, by rw [HS.out, HPR.out]; simp⟩
                  case measure => simp [intOf]; omega
                · have hpr' : primB p d = false := by simpa using hpr
                  rw [hpr']
                  have HPR := Lib.hid hpr'; clear hpr hpr'
                  go_wp2_with fail
                  go_round
                  case rel => exact ⟨d + 1, by omega, by omega, by go_num, by rw [HS.out, HPR.out]; simp⟩
                  case measure => simp [intOf]; omega
              · have HPP := Lib.hid (show primB p d = true → primB p p = true from fun h => primB_mono h (by omega))
                generalize primB p d = B at HPP
                go_wp2_with fail
                refine (LinearHops_c (p : Int) (u : Int) (p : Int) _).mono ?_; rintro e w6 hret
                rw [HA.out] at hret; obtain ⟨a6, n6, c6, rfl, ha6, hb6⟩ := hret.some
                have hx6 := hx5.below hb6
                have hB6 := hB5.trans (hb6.mono hB5.size)
                clear hx5 hb6 hB5
                obtain ⟨r, hr⟩ : ∃ r, r = len1 % p := ⟨_, rfl⟩
                have et := tmod_nat hr
                have hr2 : r < p := by rw [hr]; exact Nat.mod_lt _ (by omega)
                obtain ⟨o, ho⟩ : ∃ o, o = (u + 1 + r) % p := ⟨_, rfl⟩
                have et2 : ((u : Int) + 1 + (r : Int)).tmod (p : Int) = (o : Int) := tmod_nat (v := u + 1 + r) ho
                have ho2 : o < p := by rw [ho]; exact Nat.mod_lt _ (by omega)
                clear ho hr
                have HB := Lib.hid (linHops_L hp' ho2 (show p ≤ 300 by omega))
                go_wp2_with fail
                refine (LinearHops_c (p : Int) (o : Int) (p : Int) _).mono ?_; rintro e w7 hret
                rw [HB.out] at hret; obtain ⟨a7, n7, c7, rfl, hb7, hb7'⟩ := hret.some
                have hx7 := hx6.below hb7'
                have ha7 := ha6.below hb7'
                have hB7 := hB6.trans (hb7'.mono hB6.size)
                clear hx6 hb7' hB6 ha6 et et2
                by_cases hgo : B = true ∧ o ≠ u
                · obtain ⟨rfl, hne⟩ := hgo
                  have hne' : ((o : Int) == (u : Int)) = false := by simp; omega
                  have hPP := HPP.out rfl
                  have HM1 := Lib.hid (fun k => @lin_meet1 p u o k hp' hPP hu' ho2 hne)
                  have HM2 := Lib.hid (fun k => @lin_meet2 p u o k hp' hPP hu' ho2 hne)
                  have HMV := Lib.hid (fun k => @hops_mapL p o p k hp' (show p ≤ 300 by omega))
                  clear hPP
                  go_wp2_with fail
                  go_loopw [20] (fun i wr => ∃ k : Nat, k ≤ p ∧ i = .int .i64 k ∧ Below w7.heap.size w7 wr) (fun i _ => p - (intOf i).toNat)
                  case atStart => exact ⟨0, Nat.zero_le _, rfl, Below.refl _ _⟩
                  case round =>
                    obtain ⟨k, hk, rfl, hbr⟩ := hrel
                    have hxk := hx7.below hbr
                    have hak := ha7.below hbr
                    have hbk := hb7.below hbr
                    have hBk := hB7.trans (hbr.mono hB7.size)
                    by_cases hlt : k < p
                    · obtain ⟨we, hwe⟩ : ∃ we, we = wr := ⟨_, rfl⟩
                      subst hwe
                      clear hx7 ha7 hb7 hB7 hxk hBk
                      go_wp2_with fail
                      refine (MoveHops_c (p : Int) (k : Int) hbk.rd).mono ?_; rintro e wm hret
                      rw [HMV.out k hlt] at hret; obtain ⟨am, nm, cm, rfl, hm1, hbm⟩ := hret.some
                      have ha2 := hak.below hbm
                      have hb2 := hbk.below hbm
                      have hW2 := hbr.trans (hbm.mono hbr.size)
                      clear hak hbk hbm hbr
                      go_wp2_with fail
                      refine (HopCollisions_c (k : Int) ha2.rd hb2.rd hb2.cap).mono ?_; rintro e wc ⟨rfl, hbc⟩
                      rw [HM1.out k hlt]
                      have ha3 := ha2.below hbc
                      have hm3 := hm1.below hbc
                      have hW3 := hW2.trans (hbc.mono hW2.size)
                      clear ha2 hb2 hm1 hbc hW2
                      go_wp2_with fail
                      refine (HopCollisions_c 0 ha3.rd hm3.rd hm3.cap).mono ?_; rintro e wd ⟨rfl, hbd⟩
                      rw [HM2.out k hlt]
                      have hW4 := hW3.trans (hbd.mono hW3.size)
                      clear ha3 hm3 hbd hW3
                      go_wp2_with fail
                      go_roundw
                      case rel => exact ⟨k + 1, by omega, by go_num, hW4⟩
                      case measure => simp [intOf]; omega
                    · have hdummy : True := trivial
                      clear hdummy
                      go_wp2_with fail
                      refine (HopsValid_c (p : Int) hxk).mono ?_; rintro e w' ⟨rfl, rfl⟩
                      rw [HV.out]
                      go_wp2_with fail
                      go_ret
                      exact ⟨rfl, hBk⟩
                · cases hB : B
                  · have hdummy : True := trivial
                    clear hdummy
                    go_wp2_with fail
                    refine (HopsValid_c (p : Int) hx7).mono ?_; rintro e w' ⟨rfl, rfl⟩
                    rw [HV.out]
                    go_wp2_with fail
                    go_ret
                    exact ⟨rfl, hB7⟩
                  · have hou : o = u := by
                      by_cases e : o = u
                      · exact e
                      · exact absurd ⟨hB, e⟩ hgo
                    subst hou
                    clear hgo
                    go_wp2_with fail
                    refine (HopsValid_c (p : Int) hx7).mono ?_; rintro e w' ⟨rfl, rfl⟩
                    rw [HV.out]
                    go_wp2_with fail
                    go_ret
                    exact ⟨rfl, hB7⟩
      · have HY := Lib.hid (linHops_no (show linOk ch ui mi = false by simpa using hok))
        clear hok
        go_wp2_with fail
        refine (LinearHops_c ch ui mi _).mono ?_; rintro e w2 hret
        rw [HY.out] at hret; obtain ⟨a2, n2, c2, rfl, hx2, hb2⟩ := hret.none
        have hB2 := hb1.trans (hb2.mono hb1.size)
        clear hb1 hb2
        go_wp2_with fail
        refine (sLinearHops_c ch ui mi _).mono ?_; rintro e w3 hret
        rw [HY.out] at hret; obtain ⟨a3, n3, c3, rfl, hy3, hb3⟩ := hret.none
        have hx3 := hx2.below hb3
        have hB3 := hB2.trans (hb3.mono hB2.size)
        clear hx2 hb3 hB2
        go_wp2_with fail
        refine (ssInts_c hx3.rd hy3.rd).mono ?_; rintro e w4 ⟨rfl, hq4⟩
        rw [sameB_self]
        have hx4 := hx3.qw hq4
        have hy4 := hy3.qw hq4
        have hB4 := hB3.trans ((hq4.below w3.heap.size).mono hB3.size)
        clear hx3 hy3 hB3 hq4
        go_wp2_with fail
        refine (ssInts_c hx4.rd hy4.rd).mono ?_; rintro e w5 ⟨rfl, hq5⟩
        rw [sameB_self]
        have hB5 := hB4.trans ((hq5.below w4.heap.size).mono hB4.size)
        go_wp2_with fail
        go_ret
        exact ⟨rfl, hB5⟩
    · have hn' : (1048576 : Int) < (len1 : Int) := by omega
      go_enter Try.func5, Try.ntmps5
      go_wp2_with fail
      go_ret
      exact ⟨rfl, Below.refl _ _⟩
  · have hn' : (1048576 : Int) < (len0 : Int) := by omega
    go_enter Try.func5, Try.ntmps5
    go_wp2_with fail
    go_ret
    exact ⟨rfl, Below.refl _ _⟩

set_option maxRecDepth 100000 in
theorem lifted (os : Os) (started : os.Started) (H : Type) (enc : TypeId × Value → H) :
    ReturnsInHanded {} Try.checked os 5 .any (Rows.fnLinearMeetSpec.pre6 enc Try.prog Try.f5 Rows.fnLinearMeetRow.domain false) (Rows.fnLinearMeetSpec.post enc Try.prog Try.f5 false true false false) := by
  refine returnsInHanded_of_change (C := Try.checked) own started (by kernel_rfl) Try.func5
    (ChangeSpec.witness6 (enc := enc) (C := Try.checked) false ⟨#[], #[.slice none 0 0, .slice none 0 0], []⟩ 8 (by kernel_rfl) (by kernel_rfl) (by kernel_rfl) (by kernel_rfl)) ?_
  intro W base args ds gs before hval0 hW hcnd _
  have hval : ∀ (j : Nat) t v, Try.f5.params[j]? = some t → args[j]? = some v → Value.okWide Try.prog W .any base t v := hval0
  have hW' := hW
  obtain ⟨p, q, hA0, hV, rfl, hfz, hnd⟩ := hW
  have hA : DataW.TrodAll enc Try.prog W 0 (fun _ => true) true Try.f5.params.toList args.toList ds p := hA0
  rw [Try.params5] at hA hval
  obtain ⟨v0, vs0, d0, ds0, p0, q0, hargs, rfl, rfl, h0, r0⟩ := trodAll_cons hA
  obtain ⟨v1, vs1, d1, ds1, p1, q1, rfl, rfl, rfl, h1, r1⟩ := trodAll_cons r0
  obtain ⟨rfl, rfl, rfl⟩ := trodAll_nil r1
  obtain rfl : args = #[v0, v1] := by cases args; simp_all
  obtain ⟨rfl, rfl⟩ := trodVars_none hV
  have k0 := h0
  have lt0 : ∀ x ∈ p0, x.block < W.heap.size := by obtain ⟨m, hm⟩ := k0; exact DataW.trod_lt m _ _ _ hm
  have k1 := h1
  have lt1 : ∀ x ∈ p1, x.block < W.heap.size := by obtain ⟨m, hm⟩ := k1; exact DataW.trod_lt m _ _ _ hm
  obtain ⟨a0, len0, cap0, rfl⟩ := okWide_slice Try.underlying34 (hval 0 34 v0 rfl rfl)
  obtain ⟨z0, w0⟩ : ∃ zs, IsRow .u8 W a0 len0 cap0 zs := by
    obtain ⟨fuel, hf⟩ := h0
    rcases open_ints Try.underlying34 Try.underlying5 (by kernel_rfl) hf with ⟨hcs, _⟩ | ⟨x, l, c, zs, hcs, _, hl, hm, hz, _, hcell, hwz⟩
    · simp [Value.cells] at hcs
      obtain ⟨rfl, rfl, rfl⟩ := hcs
      exact ⟨[], .inl ⟨rfl, rfl, rfl, rfl⟩⟩
    · simp [Value.cells] at hcs
      obtain ⟨rfl, rfl, rfl⟩ := hcs
      exact ⟨zs, .inr ⟨_, rfl, hl, hm, by simpa using hz, hcell, hwz⟩⟩
  obtain ⟨a1, len1, cap1, rfl⟩ := okWide_slice Try.underlying34 (hval 1 34 v1 rfl rfl)
  obtain ⟨z1, w1⟩ : ∃ zs, IsRow .u8 W a1 len1 cap1 zs := by
    obtain ⟨fuel, hf⟩ := h1
    rcases open_ints Try.underlying34 Try.underlying5 (by kernel_rfl) hf with ⟨hcs, _⟩ | ⟨x, l, c, zs, hcs, _, hl, hm, hz, _, hcell, hwz⟩
    · simp [Value.cells] at hcs
      obtain ⟨rfl, rfl, rfl⟩ := hcs
      exact ⟨[], .inl ⟨rfl, rfl, rfl, rfl⟩⟩
    · simp [Value.cells] at hcs
      obtain ⟨rfl, rfl, rfl⟩ := hcs
      exact ⟨zs, .inr ⟨_, rfl, hl, hm, by simpa using hz, hcell, hwz⟩⟩
  clear hA0 hval0
  refine (walk a0 len0 cap0 z0 a1 len1 cap1 z1 W w0 w1).mono fun e W' ⟨he, bel⟩ => ?_
  subst he
  exact ⟨_, rfl, _, _, _, [], _, [], hW', trodAll_mk1 (shut_bool Try.underlying4 _), (trodAll_cons_mk (Below.trod laidOut (by kernel_rfl) (of_decide_eq_true (by kernel_rfl)) k0 bel lt0) (trodAll_cons_mk (Below.trod laidOut (by kernel_rfl) (of_decide_eq_true (by kernel_rfl)) k1 bel lt1) trodAll_mk0)), rfl, bel.frame _, fun h => by cases h⟩

theorem over : Rows.fnLinearMeetRow.holds Try.pinned (OpenSpec.ofChange Rows.fnLinearMeetSpec) :=
  OpenClaim.holds_of_wide 5 Try.f5 rfl rfl rfl rfl rfl rfl rfl ⟨rfl, rfl, rfl, rfl, rfl⟩ rfl rfl rfl rfl rfl (by kernel_rfl) Try.func5 (by kernel_rfl)
    (of_decide_eq_true (by kernel_rfl)) (by unfold Func.isWrapper; first | (rw [if_pos (by decide +kernel)]; kernel_rfl) | (rw [if_neg (by decide +kernel)]; exact ⟨rfl, rfl⟩))
    (fun os started H enc _ => lifted os started H enc)

theorem proved : Rows.FnLinearMeetSaid := over
#print axioms proved
end Go.Proofs.Ytnklnafcbjnmfaa.fnLinearMeet
