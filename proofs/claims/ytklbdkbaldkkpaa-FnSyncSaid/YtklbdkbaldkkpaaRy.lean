/- SyncHops of the program and of the reference. No condition beyond lengths. -/
import Derived.Test.YtklbdkbaldkkpaaRh
namespace Go.Proofs.Ytklbdkbaldkkpaa
open Go.RowKit

def eqB (l r : List Int) : Bool := decide (l = r)
def eqT (l r : List Int) (k : Nat) : Bool := decide (l.take k = r.take k)
theorem eqT_succ {l r : List Int} {k : Nat} (hl : k < l.length) (hr : k < r.length) (h : eqT l r k = true) (h1 : l[k] = r[k]) : eqT l r (k + 1) = true := by
  unfold eqT at *
  rw [decide_eq_true_eq] at *
  rw [List.take_succ_eq_append_getElem hl, List.take_succ_eq_append_getElem hr, h, h1]
theorem eqB_ne {l r : List Int} {k : Nat} (hl : k < l.length) (hr : k < r.length) (h1 : l[k] ≠ r[k]) : eqB l r = false := by
  unfold eqB
  rw [decide_eq_false_iff_not]
  intro e
  subst e
  exact h1 rfl
theorem eqB_len {l r : List Int} (h : l.length ≠ r.length) : eqB l r = false := by
  unfold eqB
  rw [decide_eq_false_iff_not]
  intro e
  subst e
  exact h rfl
theorem eqB_whole {l r : List Int} {k : Nat} (hl : l.length ≤ k) (hr : r.length ≤ k) (h : eqT l r k = true) : eqB l r = true := by
  unfold eqT at h
  rw [List.take_of_length_le hl, List.take_of_length_le hr] at h
  exact h

set_option maxHeartbeats 800000 in
theorem Equal_c {ao bo : Option Addr} {n m c d : Nat} {l r : List Int} {w : World} (h : Rd w ao n l) (h' : Rd w bo m r) :
    Calls Try.prog 61 #[.slice ao n c, .slice bo m d] w fun e w' => e = .returned (.bool (eqB l r)) ∧ Qw w w' := by
  have hs := h.2.1
  have hn := h.1
  have hm := h'.1
  by_cases h3 : n = m
  · subst h3
    have HN := Lib.hid hn; have HM := Lib.hid hm; clear hn hm
    go_enter Try.func61, Try.ntmps61
    go_wp2
    go_loopw [13] (fun i wr => ∃ k : Nat, k ≤ n ∧ i = .int .i64 k ∧ eqT l r k = true ∧ Qw w wr) (fun i _ => n - (intOf i).toNat)
    case atStart => exact ⟨0, Nat.zero_le _, rfl, rfl, Qw.refl _⟩
    case round =>
      obtain ⟨k, hk, rfl, he, hq⟩ := hrel
      have HE := Lib.hid he; clear he
      by_cases hlt : k < n
      · obtain ⟨b1, o1, rfl, hl1, hc1⟩ := (h.qw hq).at hlt
        obtain ⟨b2, o2, rfl, hl2, hc2⟩ := (h'.qw hq).at hlt
        clear h h'
        by_cases h4 : l[k] = r[k]
        · have h5 : (l[k] != r[k]) = false := by simp [h4]
          have HT := Lib.hid (eqT_succ hl1 hl2 HE.out h4)
          have H4 := Lib.hid h4; clear h4
          go_wp2
          go_quiet (fail)
          go_wp2
          go_roundw
          case rel => exact ⟨k + 1, by omega, by go_num, HT.out, hq.trans (Qw.drewN _ _)⟩
          case measure => simp [intOf]; omega
        · have h5 : (l[k] != r[k]) = true := by simpa using h4
          have HF := Lib.hid (eqB_ne hl1 hl2 h4)
          clear h4
          go_wp2
          go_quiet (fail)
          go_wp2
          go_ret
          exact ⟨ret_b HF.out.symm, hq.trans (Qw.drewN _ _)⟩
      · go_wp2
        go_ret
        exact ⟨ret_b (eqB_whole (k := k) (by rw [← HN.out]; omega) (by rw [← HM.out]; omega) HE.out).symm, hq⟩
  · have hr := Lib.hid (eqB_len (l := l) (r := r) (by omega))
    have hne : ((n : Int) != (m : Int)) = true := by simp; omega
    have HN := Lib.hid hn; have HM := Lib.hid hm; clear hn hm
    go_enter Try.func61, Try.ntmps61
    go_wp2
    go_ret
    exact ⟨ret_b hr.out.symm, Qw.refl _⟩

/-- A state of S cells whose hops are those that were seen. -/
def seesB (S T : Nat) (ch : Int) (seen : List Int) (x : Nat) : Bool := eqB (hopL S T x ch seen.length) seen
def syncN (S T : Nat) (ch : Int) (seen : List Int) (k : Nat) : Option Nat := (List.range k).find? (seesB S T ch seen)
theorem syncN_hit {S T k P : Nat} {ch : Int} {seen : List Int} (h : syncN S T ch seen k = none) (h1 : seesB S T ch seen k = true) (hk : k < P) : syncN S T ch seen P = some k := by
  unfold syncN at *
  obtain ⟨d, rfl⟩ : ∃ d, P = k + 1 + d := ⟨P - (k + 1), by omega⟩
  rw [List.range_add, List.find?_append, List.range_succ, List.find?_append, h]
  simp [h1]
theorem syncN_miss {S T k : Nat} {ch : Int} {seen : List Int} (h : syncN S T ch seen k = none) (h1 : seesB S T ch seen k = false) : syncN S T ch seen (k + 1) = none := by
  unfold syncN at *
  rw [List.range_succ, List.find?_append, h]
  simp [h1]
def syncR (s t ch : Int) (seen : List Int) : Option (Int × Int × Int) := if (tapB s t && hopsB seen ch) = true then (syncN s.toNat t.toNat ch seen (2 ^ s.toNat)).map fun x => (s, t, (x : Int)) else none
theorem syncR_no1 {s t ch : Int} {seen : List Int} (h : tapB s t = false) : syncR s t ch seen = none := by simp [syncR, h]
theorem syncR_no2 {s t ch : Int} {seen : List Int} (h : hopsB seen ch = false) : syncR s t ch seen = none := by simp [syncR, h]
theorem syncR_yes {s t ch : Int} {seen : List Int} (h : tapB s t = true) (h' : hopsB seen ch = true) : syncR s t ch seen = (syncN s.toNat t.toNat ch seen (2 ^ s.toNat)).map fun x => (s, t, (x : Int)) := by simp [syncR, h, h']

theorem zeroBox (w : World) : RegAt (w.alloc (.cells #[.int .i64 0, .int .i64 0, .int .i64 0] 24)) w.heap.size 0 0 0 := regAt_one w 0 0 0

set_option maxHeartbeats 3200000 in
theorem SyncHops_c {ao : Option Addr} {n c : Nat} {l : List Int} (s t ch : Int) {w : World} (h : Rd w ao n l) :
    Calls Try.prog 17 #[.int .i64 s, .int .i64 t, .int .i64 ch, .slice ao n c] w (RetRegB w (syncR s t ch l)) := by
  have hn := h.1
  have hs := h.2.1
  have hB0 : Below w.heap.size w (w.alloc (.cells #[.int .i64 0, .int .i64 0, .int .i64 0] 24)) := (Below.refl _ _).alloc (Nat.le_refl _) _
  have hR0 := zeroBox w
  by_cases h1 : tapB s t = true
  · by_cases h2 : hopsB l ch = true
    · have hr := Lib.hid (syncR_yes h1 h2)
      obtain ⟨hch, hln, hal⟩ := hopsB_ch h2
      have hst : 2 ≤ s ∧ s ≤ 8 := by simp only [tapB, Bool.and_eq_true] at h1; exact inB_iff.1 h1.1
      have h4 : (4 : Int) ≤ 2 ^ s.toNat := by rcases size_cases hst with rfl | rfl | rfl | rfl | rfl | rfl | rfl <;> decide
      have hrb : regB s t 0 = true := by unfold regB; rw [h1, inB_true (Int.le_refl 0) (by omega)]; rfl
      obtain ⟨S, T, X, hS', hT', hX0, hSs, hTt, hXl⟩ := regB_nat hrb
      clear hrb h4 hX0 hXl
      subst hS' hT'
      simp only [Int.toNat_natCast] at hr
      have hP : 2 ^ S ≤ 256 := (pow_size hSs.2).2
      have hp : (2 : Int) ^ S = ((2 ^ S : Nat) : Int) := by rw [Int.natCast_pow]; rfl
      have hreg : ∀ x : Nat, x < 2 ^ S → hopOk S T x ch l.length = true := by
        intro x hx
        unfold hopOk regB
        rw [h1, Int.toNat_natCast, hp, inB_true (by omega) (by omega), chB_iff.2 hch, inB_true (by omega) (by omega)]; rfl
      have hseq : ∀ x : Nat, x < 2 ^ S → hopSeq S T x ch l.length = some (hopL S T x ch l.length) := fun x hx => hopSeq_yes (hreg x hx)
      generalize 2 ^ S = P at hr hP hp hseq
      have hwA : IntKind.i64.wrap ((2 : Int) ^ S) = (P : Int) := by rw [hp]; exact IntWalk.i64_in _ (by omega)
      have hwB : IntKind.i64.wrap ((1 : Int) * 2 ^ S) = (P : Int) := by rw [Int.one_mul]; exact hwA
      have hwC : RowKit.wrap64 ((2 : Int) ^ S) = (P : Int) := by unfold wrap64; rw [hp]; omega
      have HSQ := Lib.hid hseq
      have HA := Lib.hid hal
      clear hp hreg hseq hal
      subst hn
      go_enter Try.func17, Try.ntmps17
      go_wp2_with fail
      refine (tapsValid_c _ _ _).mono ?_; rintro e w' ⟨rfl, rfl⟩
      go_wp2_with fail
      refine (HopsValid_c _ (h.below hB0)).mono ?_; rintro e w' ⟨rfl, rfl⟩
      go_wp2_with fail
      clear hwA hwB hwC
      go_loopw [27] (fun i wr => ∃ k : Nat, k ≤ P ∧ i = .int .i64 k ∧ syncN S T ch l k = none ∧ RegAt wr w.heap.size 0 0 0 ∧ Below w.heap.size w wr) (fun i _ => P - (intOf i).toNat)
      case atStart => exact ⟨0, Nat.zero_le _, rfl, rfl, hR0, hB0⟩
      case round =>
        clear hR0 hB0
        obtain ⟨k, hk, rfl, hnone, hR, hb⟩ := hrel
        have HNO := Lib.hid hnone; clear hnone
        have hlt0 := hR.lt
        by_cases hlt : k < P
        · have hbx : Below w.heap.size w (wr.alloc (.cells #[.int .i64 S, .int .i64 T, .int .i64 k] 24)) := hb.alloc (by omega) _
          have hRx := regAt_one wr S T k
          have hRr := hR.alloc (.cells #[.int .i64 S, .int .i64 T, .int .i64 k] 24)
          have hz := Lib.hid (show (wr.alloc (.cells #[.int .i64 S, .int .i64 T, .int .i64 k] 24)).heap.size = wr.heap.size + 1 by simp)
          have HQ := Lib.hid (HSQ.out k hlt)
          go_wp2_with fail
          refine (HopSequence_c _ _ _ _ _ _).mono ?_; rintro e w1 hret; rw [HQ.out] at hret; obtain ⟨a1, n1, c1, rfl, ho, hb1⟩ := hret.some
          have hRx1 := hRx.below hb1 (by rw [hz.out]; omega)
          have hRr1 := hRr.below hb1 (by rw [hz.out]; omega)
          have hb2 := hbx.trans (hb1.mono (by rw [hz.out]; omega))
          have hrd := ho.rd
          have hrd2 := (h.below hb2)
          clear hRx hRr hbx hR hb ho hb1
          by_cases hsee : seesB S T ch l k = true
          · have HE := Lib.hid (show eqB (hopL S T k ch l.length) l = true from hsee)
            have HF := Lib.hid (syncN_hit HNO.out hsee hlt)
            clear hsee
            go_wp2_with fail
            refine (Equal_c hrd hrd2).mono ?_; rintro e w2 ⟨he, hq2⟩; rw [HE.out] at he; subst he
            have hRx2 := hRx1.below (hq2.below _) hRx1.lt
            have hRr2 := hRr1.below (hq2.below _) hRr1.lt
            have hb3 := hb2.trans (hq2.below _)
            have d0 := hRx2.c0
            have d1 := hRx2.c1
            have d2 := hRx2.c2
            have e0 := hRr2.c0
            have e1 := hRr2.c1
            have e2 := hRr2.c2
            have f0 := hRr2.free 0
            have f1 := hRr2.free 1
            have f2 := hRr2.free 2
            have hA3 := ((hRr2.set0 S).set1 T).set2 k
            have g0 := hA3.c0
            have g1 := hA3.c1
            have g2 := hA3.c2
            go_wp2
            refine bodyPost_ret (v := .tuple #[.agg #[.int .i64 S, .int .i64 T, .int .i64 k], .bool true]) (by simp [results, Try.results17, go_sem, g0, g1, g2]) rfl ⟨?_, ?_⟩
            · rw [hr.out, HF.out]; rfl
            · refine Below.setCell (Below.setCell (Below.setCell hb3 (by simp) _) (by simp) _) (by simp) _
          · have hsee' : seesB S T ch l k = false := by simpa using hsee
            have HE := Lib.hid (show eqB (hopL S T k ch l.length) l = false from hsee')
            have HF := Lib.hid (syncN_miss HNO.out hsee')
            clear hsee hsee'
            go_wp2_with fail
            refine (Equal_c hrd hrd2).mono ?_; rintro e w2 ⟨he, hq2⟩; rw [HE.out] at he; subst he
            have hRr2 := hRr1.below (hq2.below _) hRr1.lt
            have hb3 := hb2.trans (hq2.below _)
            clear hRx1 hRr1 hb2 hrd hrd2 hq2
            go_wp2
            go_roundw
            case rel => exact ⟨k + 1, by omega, by go_num, HF.out, hRr2, hb3⟩
            case measure => simp [intOf]; omega
        · obtain rfl : k = P := by omega
          have e0 := hR.c0
          have e1 := hR.c1
          have e2 := hR.c2
          have f0 := hR.free 0
          have f1 := hR.free 1
          have f2 := hR.free 2
          go_wp2
          refine bodyPost_ret (v := .tuple #[.agg #[.int .i64 0, .int .i64 0, .int .i64 0], .bool false]) (by simp [results, Try.results17, go_sem, e0, e1, e2]) rfl ⟨?_, ?_⟩
          · rw [hr.out, HNO.out]; rfl
          · first | exact hb | (refine Below.setCell (Below.setCell (Below.setCell hb (by simp) _) (by simp) _) (by simp) _)
    · have h2' : hopsB l ch = false := by simpa using h2
      have hr := Lib.hid (syncR_no2 (s := s) (t := t) h2')
      have HN := Lib.hid hn
      clear h2 hn
      go_enter Try.func17, Try.ntmps17
      go_wp2_with fail
      refine (tapsValid_c _ _ _).mono ?_; rintro e w' ⟨rfl, rfl⟩
      go_wp2_with fail
      refine (HopsValid_c _ (h.below hB0)).mono ?_; rintro e w' ⟨rfl, rfl⟩
      go_wp2_with fail
      refine bodyPost_ret (v := .tuple #[.agg #[.int .i64 0, .int .i64 0, .int .i64 0], .bool false]) (by simp [results, Try.results17, go_sem]) rfl ⟨?_, ?_⟩
      · rw [hr.out]; rfl
      · repeat (first | exact Below.refl _ _ | refine Below.drew ?_ | refine Below.alloc ?_ (by simp; try omega) _ | refine Below.setCell ?_ (by simp) _)
  · have h1' : tapB s t = false := by simpa using h1
    have hr := Lib.hid (syncR_no1 (ch := ch) (seen := l) h1')
    have HN := Lib.hid hn
    clear h1 hn
    go_enter Try.func17, Try.ntmps17
    go_wp2_with fail
    refine (tapsValid_c _ _ _).mono ?_; rintro e w' ⟨rfl, rfl⟩
    go_wp2_with fail
    refine bodyPost_ret (v := .tuple #[.agg #[.int .i64 0, .int .i64 0, .int .i64 0], .bool false]) (by simp [results, Try.results17, go_sem]) rfl ⟨?_, ?_⟩
    · rw [hr.out]; rfl
    · repeat (first | exact Below.refl _ _ | refine Below.drew ?_ | refine Below.alloc ?_ (by simp; try omega) _ | refine Below.setCell ?_ (by simp) _)

theorem eqT_no {l r : List Int} {k : Nat} (h : eqT l r k = false) : eqT l r (k + 1) = false := by
  unfold eqT at *
  rw [decide_eq_false_iff_not] at *
  intro e
  apply h
  have := congrArg (List.take k) e
  rwa [List.take_take, List.take_take, Nat.min_eq_left (by omega)] at this
theorem eqT_ne {l r : List Int} {k : Nat} (hl : k < l.length) (hr : k < r.length) (h1 : l[k] ≠ r[k]) : eqT l r (k + 1) = false := by
  unfold eqT
  rw [decide_eq_false_iff_not]
  intro e
  apply h1
  have := congrArg (fun q => q[k]?) e
  simp only [List.getElem?_take, if_pos (Nat.lt_succ_self k)] at this
  simpa [hl, hr] using this
theorem eqT_all {l r : List Int} {k : Nat} (hl : l.length ≤ k) (hr : r.length ≤ k) : eqT l r k = eqB l r := by
  unfold eqT eqB
  rw [List.take_of_length_le hl, List.take_of_length_le hr]

set_option maxHeartbeats 1600000 in
theorem sSyncHops_c {ao : Option Addr} {n c : Nat} {l : List Int} (s t ch : Int) {w : World} (h : Rd w ao n l) :
    Calls Try.prog 25 #[.int .i64 s, .int .i64 t, .int .i64 ch, .slice ao n c] w (RetRegB w (syncR s t ch l)) := by
  have hn := h.1
  have hs := h.2.1
  have hB0 : Below w.heap.size w (w.alloc (.cells #[.int .i64 0, .int .i64 0, .int .i64 0] 24)) := (Below.refl _ _).alloc (Nat.le_refl _) _
  have hR0 := zeroBox w
  by_cases h1 : tapB s t = true
  · by_cases h2 : hopsB l ch = true
    · have hr := Lib.hid (syncR_yes h1 h2)
      obtain ⟨hch, hln, hal⟩ := hopsB_ch h2
      have hst : 2 ≤ s ∧ s ≤ 8 := by simp only [tapB, Bool.and_eq_true] at h1; exact inB_iff.1 h1.1
      have h4 : (4 : Int) ≤ 2 ^ s.toNat := by rcases size_cases hst with rfl | rfl | rfl | rfl | rfl | rfl | rfl <;> decide
      have hrb : regB s t 0 = true := by unfold regB; rw [h1, inB_true (Int.le_refl 0) (by omega)]; rfl
      obtain ⟨S, T, X, hS', hT', hX0, hSs, hTt, hXl⟩ := regB_nat hrb
      clear hrb h4 hX0 hXl
      subst hS' hT'
      simp only [Int.toNat_natCast] at hr
      have hP : 2 ^ S ≤ 256 := (pow_size hSs.2).2
      have hp : (2 : Int) ^ S = ((2 ^ S : Nat) : Int) := by rw [Int.natCast_pow]; rfl
      have hreg : ∀ x : Nat, x < 2 ^ S → hopOk S T x ch l.length = true := by
        intro x hx
        unfold hopOk regB
        rw [h1, Int.toNat_natCast, hp, inB_true (by omega) (by omega), chB_iff.2 hch, inB_true (by omega) (by omega)]; rfl
      have hseq : ∀ x : Nat, x < 2 ^ S → hopSeq S T x ch l.length = some (hopL S T x ch l.length) := fun x hx => hopSeq_yes (hreg x hx)
      have HTW := Lib.hid (fun w => l1Two_c (S : Int) w (by omega))
      rw [show ((S : Int)).toNat = S from rfl, hp] at HTW
      generalize 2 ^ S = P at hr hP hp hseq HTW
      have HSQ := Lib.hid hseq
      clear hp hreg hseq hal
      subst hn
      go_enter Try.func25, Try.ntmps25
      go_wp2_with fail
      refine (l1Taps_c _ _ _).mono ?_; rintro e w' ⟨rfl, rfl⟩
      go_wp2_with fail
      refine (sHopsValid_c _ (h.below hB0)).mono ?_; rintro e w' ⟨rfl, rfl⟩
      go_wp2_with fail
      go_loopw [10] (fun i wr => ∃ k : Nat, k ≤ P ∧ i = .int .i64 k ∧ syncN S T ch l k = none ∧ RegAt wr w.heap.size 0 0 0 ∧ Below w.heap.size w wr) (fun i _ => P - (intOf i).toNat)
      case atStart => exact ⟨0, Nat.zero_le _, rfl, rfl, hR0, hB0⟩
      case round =>
        clear hR0 hB0
        obtain ⟨k, hk, rfl, hnone, hR, hb⟩ := hrel
        have HNO := Lib.hid hnone; clear hnone
        obtain ⟨wo, rfl⟩ : ∃ wo : World, wo = wr := ⟨_, rfl⟩
        have hlt0 := hR.lt
        by_cases hlt : k < P
        · have hbx : Below w.heap.size w (wo.alloc (.cells #[.int .i64 S, .int .i64 T, .int .i64 k] 24)) := hb.alloc (by omega) _
          have hRx := regAt_one wo S T k
          have hRr := hR.alloc (.cells #[.int .i64 S, .int .i64 T, .int .i64 k] 24)
          have hz := Lib.hid (show (wo.alloc (.cells #[.int .i64 S, .int .i64 T, .int .i64 k] 24)).heap.size = wo.heap.size + 1 by simp)
          have HQ := Lib.hid (HSQ.out k hlt)
          go_wp2_with fail
          refine (HTW.out _).mono ?_; rintro e w' ⟨rfl, rfl⟩
          go_wp2_with fail
          refine (sHopSequence_c _ _ _ _ _ _).mono ?_; rintro e w1 hret; rw [HQ.out] at hret; obtain ⟨a1, n1, c1, rfl, ho, hb1⟩ := hret.some
          have hRx1 := hRx.below hb1 (by rw [hz.out]; omega)
          have hRr1 := hRr.below hb1 (by rw [hz.out]; omega)
          have hb2 := hbx.trans (hb1.mono (by rw [hz.out]; omega))
          have hrd := ho.rd
          have hrd2 := (h.below hb2)
          obtain rfl : n1 = l.length := by rw [ho.1, hopL_len]
          have HSE := Lib.hid (show seesB S T ch l k = eqB (hopL S T k ch l.length) l from rfl)
          have HLE := Lib.hid (@hopL_len S T k l.length ch)
          clear hRx hRr hbx hR hb ho hb1
          generalize hopL S T k ch l.length = L at hrd HSE HLE
          go_wp2_with fail
          go_loopw [14, 15] (fun b j wq => ∃ q : Nat, q ≤ l.length ∧ j = .int .i64 q ∧ b = .bool (eqT L l q) ∧ Qw w1 wq) (fun _ j _ => l.length - (intOf j).toNat)
          case atStart => exact ⟨0, Nat.zero_le _, rfl, rfl, Qw.refl _⟩
          case round =>
            obtain ⟨q, hq, rfl, rfl, hqw⟩ := hrel
            by_cases hltq : q < l.length
            · obtain ⟨b1, o1, rfl, hl1, hc1⟩ := (hrd.qw hqw).at hltq
              obtain ⟨b2, o2, rfl, hl2, hc2⟩ := (hrd2.qw hqw).at hltq
              by_cases hT : eqT L l q = true
              · by_cases h5 : L[q] = l[q]
                · have h6 : (L[q] == l[q]) = true := by simp [h5]
                  have HN1 := Lib.hid (eqT_succ hl1 hl2 hT h5)
                  have H5 := Lib.hid h5; clear h5 h hrd hrd2
                  rw [hT]
                  go_wp2
                  go_quiet (fail)
                  go_wp2
                  go_roundw
                  case rel => exact ⟨q + 1, by omega, by go_num, by rw [HN1.out], hqw.trans (Qw.drewN _ _)⟩
                  case measure => simp [intOf]; omega
                · have h6 : (L[q] == l[q]) = false := by simpa using h5
                  have HN1 := Lib.hid (eqT_ne hl1 hl2 h5)
                  clear h5 h hrd hrd2
                  rw [hT]
                  go_wp2
                  go_quiet (fail)
                  go_wp2
                  go_roundw
                  case rel => exact ⟨q + 1, by omega, by go_num, by rw [HN1.out], hqw.trans (Qw.drewN _ _)⟩
                  case measure => simp [intOf]; omega
              · have hT' : eqT L l q = false := by simpa using hT
                have HN1 := Lib.hid (eqT_no hT')
                clear hT h hrd hrd2
                rw [hT']
                go_wp2
                go_quiet (fail)
                go_wp2
                go_roundw
                case rel => exact ⟨q + 1, by omega, by go_num, by rw [HN1.out], hqw.trans (Qw.drewN _ _)⟩
                case measure => simp [intOf]; omega
            · have HT := Lib.hid (eqT_all (l := L) (r := l) (k := q) (by rw [HLE.out]; omega) (by omega))
              have hRx2 := hRx1.below (hqw.below _) hRx1.lt
              have hRr2 := hRr1.below (hqw.below _) hRr1.lt
              have hb3 := hb2.trans (hqw.below _)
              by_cases hsee : seesB S T ch l k = true
              · have HF := Lib.hid (syncN_hit HNO.out hsee hlt)
                have hT : eqT L l q = true := by rw [HT.out, ← HSE.out]; exact hsee
                have d0 := hRx2.c0
                have d1 := hRx2.c1
                have d2 := hRx2.c2
                have e0 := hRr2.c0
                have e1 := hRr2.c1
                have e2 := hRr2.c2
                have f0 := hRr2.free 0
                have f1 := hRr2.free 1
                have f2 := hRr2.free 2
                have hA3 := ((hRr2.set0 S).set1 T).set2 k
                have g0 := hA3.c0
                have g1 := hA3.c1
                have g2 := hA3.c2
                clear hsee
                rw [hT]
                go_wp2
                refine bodyPost_ret (v := .tuple #[.agg #[.int .i64 S, .int .i64 T, .int .i64 k], .bool true]) (by simp [results, Try.results25, go_sem, g0, g1, g2]) rfl ⟨?_, ?_⟩
                · rw [hr.out, HF.out]; rfl
                · refine Below.setCell (Below.setCell (Below.setCell hb3 (by simp) _) (by simp) _) (by simp) _
              · have hsee' : seesB S T ch l k = false := by simpa using hsee
                have HF := Lib.hid (syncN_miss HNO.out hsee')
                have hT : eqT L l q = false := by rw [HT.out, ← HSE.out]; exact hsee'
                clear hsee hsee'
                rw [hT]
                go_wp2
                go_roundw
                case rel => exact ⟨k + 1, by omega, by go_num, HF.out, hRr2, hb3⟩
                case measure => simp [intOf]; omega
        · obtain rfl : k = P := by omega
          have e0 := hR.c0
          have e1 := hR.c1
          have e2 := hR.c2
          have f0 := hR.free 0
          have f1 := hR.free 1
          have f2 := hR.free 2
          go_wp2_with fail
          refine (HTW.out _).mono ?_; rintro e w' ⟨rfl, rfl⟩
          go_wp2
          refine bodyPost_ret (v := .tuple #[.agg #[.int .i64 0, .int .i64 0, .int .i64 0], .bool false]) (by simp [results, Try.results25, go_sem, e0, e1, e2]) rfl ⟨?_, ?_⟩
          · rw [hr.out, HNO.out]; rfl
          · first | exact hb | (refine Below.setCell (Below.setCell (Below.setCell hb (by simp) _) (by simp) _) (by simp) _)
    · have h2' : hopsB l ch = false := by simpa using h2
      have hr := Lib.hid (syncR_no2 (s := s) (t := t) h2')
      have HN := Lib.hid hn
      clear h2 hn
      go_enter Try.func25, Try.ntmps25
      go_wp2_with fail
      refine (l1Taps_c _ _ _).mono ?_; rintro e w' ⟨rfl, rfl⟩
      go_wp2_with fail
      refine (sHopsValid_c _ (h.below hB0)).mono ?_; rintro e w' ⟨rfl, rfl⟩
      go_wp2_with fail
      refine bodyPost_ret (v := .tuple #[.agg #[.int .i64 0, .int .i64 0, .int .i64 0], .bool false]) (by simp [results, Try.results25, go_sem]) rfl ⟨?_, ?_⟩
      · rw [hr.out]; rfl
      · repeat (first | exact Below.refl _ _ | refine Below.drew ?_ | refine Below.alloc ?_ (by simp; try omega) _ | refine Below.setCell ?_ (by simp) _)
  · have h1' : tapB s t = false := by simpa using h1
    have hr := Lib.hid (syncR_no1 (ch := ch) (seen := l) h1')
    have HN := Lib.hid hn
    clear h1 hn
    go_enter Try.func25, Try.ntmps25
    go_wp2_with fail
    refine (l1Taps_c _ _ _).mono ?_; rintro e w' ⟨rfl, rfl⟩
    go_wp2_with fail
    refine bodyPost_ret (v := .tuple #[.agg #[.int .i64 0, .int .i64 0, .int .i64 0], .bool false]) (by simp [results, Try.results25, go_sem]) rfl ⟨?_, ?_⟩
    · rw [hr.out]; rfl
    · repeat (first | exact Below.refl _ _ | refine Below.drew ?_ | refine Below.alloc ?_ (by simp; try omega) _ | refine Below.setCell ?_ (by simp) _)

end Go.Proofs.Ytklbdkbaldkkpaa
