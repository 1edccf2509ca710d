/- The law FnCollisions holds for every input that the given row lets in: the program's answer is the reference's. No condition of its own. -/
import Derived.Test.YtnklnafcbjnmfaaRows
import Derived.WalkKit
import Derived.ProofKit
import Derived.OpenShut
import Derived.ShutString
import Derived.ChangeOld
import Derived.Below
import Derived.Lib.SmallJoins
import Derived.Test.YtnklnafcbjnmfaaLw
import Derived.Test.YtnklnafcbjnmfaaDc
import Derived.Test.YtnklnafcbjnmfaaHc
import Derived.Test.YtnklnafcbjnmfaaHj
namespace Go.Proofs.Ytnklnafcbjnmfaa.fnCollisions
open Go.ChangeShapes Go.WideShapes Go.ChangeAt Go.RowKit
open Go.ChangeMaps (open_string shut_string)
set_option linter.unusedVariables false

theorem own : ownKnob Try.prog.godebug = none := by kernel_rfl
theorem laidOut : laidOutB Try.prog = true := by kernel_rfl

/-- A slice of integers that came in: nil, or a row of 'cap' cells that hold the numbers zs. -/
def IsRow (k : IntKind) (w : World) (a : Option Addr) (len cap : Nat) (zs : List Int) : Prop :=
  (a = none ∧ len = 0 ∧ cap = 0 ∧ zs = []) ∨
  ∃ x, a = some x ∧ len ≤ cap ∧ cap ≤ maxLen ∧ zs.length = cap ∧ (∀ i, i < zs.length → w.cell? (x.add i) = some (.int k (zs.getD i 0))) ∧ ∀ n ∈ zs, (Lit.int k n).wf = true

/-- Sums over the first numbers. -/
def Sg (n : Nat) (f : Nat → Nat) : Nat := ((List.range n).map f).sum
theorem Sg_zero (f : Nat → Nat) : Sg 0 f = 0 := rfl
theorem Sg_succ (n : Nat) (f : Nat → Nat) : Sg (n + 1) f = Sg n f + f n := by unfold Sg; rw [List.range_succ, List.map_append, List.sum_append]; simp
theorem Sg_congr {n : Nat} {f g : Nat → Nat} (h : ∀ i, i < n → f i = g i) : Sg n f = Sg n g := by
  unfold Sg; congr 1; exact List.map_congr_left fun i hi => h i (List.mem_range.1 hi)
theorem Sg_add (n : Nat) (f g : Nat → Nat) : Sg n (fun i => f i + g i) = Sg n f + Sg n g := by
  induction n with
  | zero => rfl
  | succ n ih => rw [Sg_succ, Sg_succ, Sg_succ, ih]; omega
theorem Sg_const0 (n : Nat) : Sg n (fun _ => 0) = 0 := by
  induction n with
  | zero => rfl
  | succ n ih => rw [Sg_succ, ih]
theorem Sg_swap (n m : Nat) (f : Nat → Nat → Nat) : Sg n (fun i => Sg m (fun j => f i j)) = Sg m (fun j => Sg n (fun i => f i j)) := by
  induction n with
  | zero => simp only [Sg_zero]; rw [Sg_const0]
  | succ n ih =>
    rw [Sg_succ, ih, ← Sg_add]
    exact Sg_congr fun j _ => (Sg_succ n _).symm
theorem Sg_shift (n : Nat) (g : Nat → Nat) : Sg n (fun s => g (s + 1)) + g 0 = Sg n g + g n := by
  induction n with
  | zero => rfl
  | succ n ih => rw [Sg_succ, Sg_succ]; omega
theorem Sg_rot {n : Nat} (f : Nat → Nat) (i : Nat) (h0 : 0 < n) : Sg n (fun s => f ((i + s) % n)) = Sg n f := by
  induction i with
  | zero => exact Sg_congr fun s hs => by rw [Nat.zero_add, Nat.mod_eq_of_lt hs]
  | succ i ih =>
    have h : Sg n (fun s => f ((i + (s + 1)) % n)) + f ((i + 0) % n) = Sg n (fun s => f ((i + s) % n)) + f ((i + n) % n) := Sg_shift n (fun s => f ((i + s) % n))
    have e0 : f ((i + 0) % n) = f ((i + n) % n) := by rw [Nat.add_zero, Nat.add_mod_right]
    have e1 : Sg n (fun s => f ((i + (s + 1)) % n)) = Sg n (fun s => f ((i + 1 + s) % n)) := Sg_congr fun s _ => by rw [show i + (s + 1) = i + 1 + s by omega]
    rw [← e1]
    omega
theorem cntR_Sg (p : Nat → Bool) (n : Nat) : cntR p n = Sg n (fun i => if p i = true then 1 else 0) := by
  induction n with
  | zero => rfl
  | succ n ih => rw [cntR_succ, Sg_succ, ih]
theorem cntB_Sg (p : Int → Bool) (l : List Int) : cntB p l = Sg l.length (fun i => if p (l.getD i 0) = true then 1 else 0) := by
  have key : ∀ k, k ≤ l.length → cntB p (l.take k) = Sg k (fun i => if p (l.getD i 0) = true then 1 else 0) := by
    intro k
    induction k with
    | zero => intro _; simp [cntB, Sg_zero]
    | succ k ih =>
      intro hk
      rw [cntB_succ (show k < l.length by omega), Sg_succ, ih (by omega)]
      simp [List.getD, show k < l.length by omega]
  have := key l.length (Nat.le_refl _)
  rwa [List.take_length] at this
theorem Sg_map (a : List Int) (F : Int → Nat) : Sg a.length (fun i => F (a.getD i 0)) = (a.map F).sum := by
  unfold Sg
  congr 1
  apply List.ext_getElem
  · simp
  · intro i h1 h2
    have hi : i < a.length := by simpa using h2
    simp [List.getD, hi]
theorem Sg_pick {m : Nat} {x : Int} (F : Int → Nat) (h : 0 ≤ x ∧ x < m) : Sg m (fun c => if x = (c : Int) then F c else 0) = F x := by
  have key : ∀ k : Nat, Sg k (fun c => if x = (c : Int) then F c else 0) = if x < k then F x else 0 := by
    intro k
    induction k with
    | zero => rw [if_neg (by omega)]; rfl
    | succ k ih =>
      rw [Sg_succ, ih]
      by_cases h1 : x < k
      · rw [if_pos h1, if_neg (by omega), if_pos (by omega)]; omega
      · rw [if_neg h1]
        by_cases h2 : x = k
        · rw [if_pos h2, if_pos (by omega), ← h2]; omega
        · rw [if_neg h2, if_neg (by omega)]
  rw [key, if_pos h.2]
theorem sum_loads {m : Nat} (F : Int → Nat) {a : List Int} (h : ∀ x ∈ a, 0 ≤ x ∧ x < m) : (a.map F).sum = Sg m (fun c => cntB (fun x => x == (c : Int)) a * F c) := by
  induction a with
  | nil =>
    simp only [List.map_nil, List.sum_nil, cntB, List.filter_nil, List.length_nil, Nat.zero_mul]
    exact (Sg_const0 m).symm
  | cons x a ih =>
    rw [List.map_cons, List.sum_cons, ih (fun y hy => h y (List.mem_cons_of_mem _ hy)), ← Sg_pick F (h x (List.mem_cons_self ..)), ← Sg_add]
    refine Sg_congr fun c _ => ?_
    have e : cntB (fun y => y == (c : Int)) (x :: a) = cntB (fun y => y == (c : Int)) a + if x = c then 1 else 0 := by
      unfold cntB
      rw [List.filter_cons]
      by_cases hxm : x = c
      · simp [hxm]
      · simp [hxm]
    rw [e, Nat.add_mul]
    by_cases hxc : x = c
    · rw [if_pos hxc, if_pos hxc]; omega
    · rw [if_neg hxc, if_neg hxc]; omega
theorem meet_Sg (a b : List Int) (k : Int) : meet a b k = Sg a.length (fun i => if a.getD i 0 = b.getD ((i + (k % b.length).toNat) % b.length) 0 then 1 else 0) := by
  unfold meet
  rw [cntR_Sg]
  refine Sg_congr fun i _ => ?_
  unfold meetB
  by_cases h : a.getD i 0 = b.getD ((i + (k % b.length).toNat) % b.length) 0
  · rw [if_pos h, if_pos (by simpa using h)]
  · rw [if_neg h, if_neg (by simpa using h)]
theorem meet_total {a b : List Int} {m : Nat} (hn : a.length = b.length) (h0 : 0 < a.length) (h : ∀ x ∈ a, 0 ≤ x ∧ x < m) :
    Sg b.length (fun s => meet a b (s : Int)) = Sg m (fun c => cntB (fun x => x == (c : Int)) a * cntB (fun x => x == (c : Int)) b) := by
  have e1 : Sg b.length (fun s => meet a b (s : Int)) = Sg b.length (fun s => Sg a.length (fun i => if a.getD i 0 = b.getD ((i + s) % b.length) 0 then 1 else 0)) := by
    refine Sg_congr fun s hs => ?_
    rw [meet_Sg]
    have : ((s : Int) % (b.length : Int)).toNat = s := by rw [← Int.natCast_emod, Int.toNat_natCast, Nat.mod_eq_of_lt hs]
    rw [this]
  rw [e1, Sg_swap]
  have e2 : Sg a.length (fun i => Sg b.length (fun s => if a.getD i 0 = b.getD ((i + s) % b.length) 0 then 1 else 0)) = Sg a.length (fun i => cntB (fun x => x == a.getD i 0) b) := by
    refine Sg_congr fun i _ => ?_
    rw [Sg_rot (fun s => if a.getD i 0 = b.getD s 0 then 1 else 0) i (by omega), cntB_Sg]
    refine Sg_congr fun s _ => ?_
    by_cases e : a.getD i 0 = b.getD s 0
    · rw [if_pos e, if_pos (by rw [beq_iff_eq]; exact e.symm)]
    · rw [if_neg e, if_neg (by rw [beq_iff_eq]; exact fun h => e h.symm)]
  rw [e2, Sg_map a (fun v => cntB (fun x => x == v) b), sum_loads _ h]
theorem meet_turn {a b : List Int} (k : Int) (hn : a.length = b.length) (h0 : 0 < a.length) : meet b a (-(k.tmod b.length)) = meet a b k := by
  rw [meet_Sg, meet_Sg, hn]
  have hn0 : (b.length : Int) ≠ 0 := by omega
  obtain ⟨r, hr⟩ : ∃ r, r = (k % (b.length : Int)).toNat := ⟨_, rfl⟩
  obtain ⟨r', hr'⟩ : ∃ r', r' = (-(k.tmod (b.length : Int)) % (b.length : Int)).toNat := ⟨_, rfl⟩
  have h1 := Int.emod_nonneg k hn0
  have h2 := Int.emod_nonneg (-(k.tmod (b.length : Int))) hn0
  have hsum : (r + r') % b.length = 0 := by
    have e : (((r + r') % b.length : Nat) : Int) = 0 := by
      rw [Int.natCast_emod, Int.natCast_add, hr, hr', Int.toNat_of_nonneg h1, Int.toNat_of_nonneg h2, ← Int.add_emod]
      have := Int.mul_tdiv_add_tmod k b.length
      rw [show k + -(k.tmod (b.length : Int)) = b.length * k.tdiv b.length by omega, Int.mul_emod_right]
    omega
  rw [← hr, ← hr']
  rw [← Sg_rot (fun i => if b.getD i 0 = a.getD ((i + r') % b.length) 0 then 1 else 0) r (by omega)]
  refine Sg_congr fun j hj => ?_
  have e1 : ((r + j) % b.length + r') % b.length = j := by
    rw [Nat.mod_add_mod, show r + j + r' = (r + r') + j by omega, Nat.add_mod, hsum, Nat.zero_add, Nat.mod_mod, Nat.mod_eq_of_lt hj]
  rw [e1, Nat.add_comm r j]
  by_cases e : a.getD j 0 = b.getD ((j + r) % b.length) 0
  · rw [if_pos e, if_pos e.symm]
  · rw [if_neg e, if_neg (fun h => e h.symm)]
theorem colOk_parts {a b : List Int} (h : colOk a b = true) : hopsB a 16 = true ∧ hopsB b 16 = true ∧ a.length = b.length ∧ 0 < a.length := by
  unfold colOk at h; simp only [Bool.and_eq_true, decide_eq_true_eq] at h; exact ⟨h.1.1.1, h.1.1.2, h.1.2, h.2⟩
theorem hops_in {l : List Int} (h : hopsB l 16 = true) : ∀ x ∈ l, 0 ≤ x ∧ x < (16 : Nat) := by
  obtain ⟨_, _, ha⟩ := hopsB_ch h
  unfold allB at ha; rw [List.all_eq_true] at ha
  intro x hx
  have := inB_iff.1 (ha x hx)
  omega
theorem loadL_at {m : Nat} {l : List Int} {c : Nat} (h : c < m) (h' : c < (loadL m l).length) : (loadL m l)[c] = cntB (fun x => x == (c : Int)) l := by simp [loadL]
theorem meet_le (a b : List Int) (k : Int) : meet a b k ≤ a.length := by unfold meet; exact cntR_le _
theorem Sg_le {n B : Nat} {f : Nat → Nat} (h : ∀ i, f i ≤ B) : Sg n f ≤ n * B := by
  induction n with
  | zero => simp [Sg_zero]
  | succ n ih => rw [Sg_succ, Nat.add_mul]; have := h n; omega
set_option maxRecDepth 100000
set_option maxHeartbeats 4000000 in
theorem walk (a0 : Option Addr) (len0 cap0 : Nat) (z0 : List Int) (w : World) (w0 : IsRow .u8 w a0 len0 cap0 z0) :
    Calls Try.prog 10 #[.slice a0 len0 cap0] w fun e w' => e = .returned (.bool true) ∧ Below w.heap.size w w' := by
  by_cases hn : len0 ≤ 1048576
  · have hC := codeW_of_row w0 (by omega)
    clear w0
    go_enter Try.func10, Try.ntmps10
    go_wp2_with fail
    refine (DrawHopCollisions_c hC).mono ?_; rintro e w1 ⟨ao, n, c, a, bo, m, d, b, k, rfl, hA1, h301, hB1, h301b, hk0, hk1, hb1⟩
    clear hC
    go_wp2_with fail
    refine (HopCollisions_c k hA1.1 hB1.1 hB1.2.1).mono ?_; rintro e w2 ⟨rfl, hb2⟩
    have hA2 := hA1.below hb2
    have hB2 := hB1.below hb2
    have hW2 := hb1.trans (hb2.mono hb1.size)
    clear hA1 hB1 hb1 hb2
    go_wp2_with fail
    refine (sHopCollisions_c k hA2.1 hB2.1).mono ?_; rintro e w3 ⟨rfl, hq3⟩
    have hne : (colHops a b k != colHops a b k) = false := by simp
    have hA3 := hA2.below (hq3.below _)
    have hB3 := hB2.below (hq3.below _)
    have hW3 := hW2.trans ((hq3.below w2.heap.size).mono hW2.size)
    clear hA2 hB2 hW2 hq3
    by_cases hok : colOk a b = true
    · obtain ⟨ha16, hb16, hab, ha0⟩ := colOk_parts hok
      have HK := Lib.hid (fun k => colHops_yes (k := k) hok)
      have hge : ¬ colHops a b k < 0 := by rw [HK.out]; omega
      have HTOT := Lib.hid (meet_total hab ha0 (hops_in ha16))
      have HTURN := Lib.hid (meet_turn k hab ha0)
      have hok2 : colOk b a = true := colOk_yes hb16 ha16 hab.symm (by omega)
      have HTC := Lib.hid (show colHops b a (-(k.tmod (b.length : Int))) = (meet a b k : Int) by rw [colHops_yes hok2, HTURN.out])
      have HLA := Lib.hid (show loadOf a 16 = loadL 16 a by unfold loadOf; rw [if_pos ha16]; rfl)
      have HLB := Lib.hid (show loadOf b 16 = loadL 16 b by unfold loadOf; rw [if_pos hb16]; rfl)
      have hMLE := meet_le a b k
      have HA := Lib.hid hA3.1.1
      have HB := Lib.hid hB3.1.1
      have hal : a.length ≤ 300 := (hopsB_ch ha16).2.1
      have hmb : m ≤ 300 := by have := HB.out; omega
      have hm0 : 0 < m := by have := HB.out; omega
      have hnm := Lib.hid (show n = m by have := HA.out; have := HB.out; omega)
      rw [HK.out] at hne hge ⊢
      have HAB := Lib.hid hab
      clear hok hok2 ha16 hb16 hab
      go_wp2_with fail
      go_loopw [7, 8] (fun q i wr => ∃ s : Nat, s ≤ m ∧ i = .int .i64 s ∧ q = .int .i64 (Sg s (fun s => meet a b (s : Int)) : Nat) ∧ Below w3.heap.size w3 wr) (fun _ i _ => m - (intOf i).toNat)
      case atStart => exact ⟨0, Nat.zero_le _, rfl, rfl, Below.refl _ _⟩
      case round =>
        obtain ⟨s, hs, rfl, rfl, hb⟩ := hrel
        have hA4 := hA3.below hb
        have hB4 := hB3.below hb
        have hW4 := hW3.trans (hb.mono hW3.size)
        have hbd : Sg s (fun s => meet a b (s : Int)) ≤ 300 * 300 := by
          have := @Sg_le s 300 (fun s => meet a b (s : Int)) (fun i => by have := meet_le a b (i : Int); omega)
          have : s * 300 ≤ 300 * 300 := Nat.mul_le_mul_right _ (by omega)
          omega
        by_cases hlt : s < m
        · have HS := Lib.hid (Sg_succ s (fun s => meet a b (s : Int)))
          have hms := meet_le a b (s : Int)
          go_wp2_with fail
          refine (HopCollisions_c (s : Int) hA4.1 hB4.1 hB4.2.1).mono ?_; rintro e w5 ⟨rfl, hb5⟩
          rw [HK.out]
          have hb6 := hb.trans (hb5.mono hb.size)
          clear hA4 hB4 hW4 hb hb5
          go_wp2_with fail
          go_roundw
          case rel => exact ⟨s + 1, by omega, by go_num, by rw [HS.out]; go_num, hb6⟩
          case measure => simp [intOf]; omega
        · obtain rfl : s = m := by omega
          have HT2 := Lib.hid (show Sg s (fun s => meet a b (s : Int)) = Sg 16 (fun c => cntB (fun x => x == (c : Int)) a * cntB (fun x => x == (c : Int)) b) by rw [← HTOT.out, ← HB.out])
          rw [HT2.out]
          clear hA3 hB3 hW3 hb hbd
          go_wp2_with fail
          refine (LoadOf_c 16 hA4.1).mono ?_; rintro e w5 hret
          rw [HLA.out] at hret; obtain ⟨a5, n5, c5, rfl, hx5, hb5⟩ := hret
          have hA5 := hA4.below hb5
          have hB5 := hB4.below hb5
          have hW5 := hW4.trans (hb5.mono hW4.size)
          clear hA4 hB4 hW4 hb5
          go_wp2_with fail
          refine (LoadOf_c 16 hB5.1).mono ?_; rintro e w6 hret
          rw [HLB.out] at hret; obtain ⟨a6, n6, c6, rfl, hy6, hb6⟩ := hret
          have hA6 := hA5.below hb6
          have hB6 := hB5.below hb6
          have hx6 := hx5.below hb6
          have hW6 := hW5.trans (hb6.mono hW5.size)
          clear hA5 hB5 hx5 hW5 hb6
          have hn5 : n5 = 16 := by rw [hx6.1]; simp [loadL]
          have hn6 : n6 = 16 := by rw [hy6.1]; simp [loadL]
          subst hn5 hn6
          go_wp2_with fail
          go_loopw [11, 12] (fun q i wr => ∃ j : Nat, j ≤ 16 ∧ i = .int .i64 j ∧ q = .int .i64 (Sg j (fun c => cntB (fun x => x == (c : Int)) a * cntB (fun x => x == (c : Int)) b) : Nat) ∧ Qw w6 wr) (fun _ i _ => 16 - (intOf i).toNat)
          case atStart => exact ⟨0, Nat.zero_le _, rfl, rfl, Qw.refl _⟩
          case round =>
            obtain ⟨j, hj, rfl, rfl, hq⟩ := hrel
            obtain ⟨BB, hBB⟩ : ∃ BB : Nat, BB = 90000 := ⟨_, rfl⟩
            have hpr : ∀ i : Nat, cntB (fun x => x == (i : Int)) a * cntB (fun x => x == (i : Int)) b ≤ BB := fun i => by
              have h1 : cntB (fun x => x == (i : Int)) a * cntB (fun x => x == (i : Int)) b ≤ 300 * 300 := Nat.mul_le_mul (Nat.le_trans cntB_le hal) (Nat.le_trans cntB_le (by have := HB.out; omega))
              omega
            have hbd0 := Sg_le (n := j) hpr
            have hbd1 : j * BB ≤ 16 * BB := Nat.mul_le_mul_right _ hj
            have hbd : Sg j (fun c => cntB (fun x => x == (c : Int)) a * cntB (fun x => x == (c : Int)) b) ≤ 1440000 := by omega
            have HBB := Lib.hid hBB
            have hprj' : cntB (fun x => x == (j : Int)) a * cntB (fun x => x == (j : Int)) b ≤ 90000 := by have := hpr j; omega
            clear hbd0 hbd1 hBB
            by_cases hltj : j < 16
            · obtain ⟨b1, o1, rfl, hl1, hc1⟩ := (hx6.qw hq).rd.at hltj
              obtain ⟨b2, o2, rfl, hl2, hc2⟩ := (hy6.qw hq).rd.at hltj
              rw [loadL_at hltj] at hc1
              rw [loadL_at hltj] at hc2
              have HS := Lib.hid (Sg_succ j (fun c => cntB (fun x => x == (c : Int)) a * cntB (fun x => x == (c : Int)) b))
              have hprj := hprj'
              clear hprj'
              generalize Sg j (fun c => cntB (fun x => x == (c : Int)) a * cntB (fun x => x == (c : Int)) b) = T at *
              obtain ⟨PR, hPR⟩ : ∃ PR : Nat, PR = cntB (fun x => x == (j : Int)) a * cntB (fun x => x == (j : Int)) b := ⟨_, rfl⟩
              have hPI : (cntB (fun x => x == (j : Int)) a : Int) * (cntB (fun x => x == (j : Int)) b : Int) = (PR : Int) := by rw [hPR, Int.natCast_mul]
              have HS2 := Lib.hid (show Sg (j + 1) (fun c => cntB (fun x => x == (c : Int)) a * cntB (fun x => x == (c : Int)) b) = T + PR by rw [HS.out, hPR])
              rw [← hPR] at hprj
              clear hPR HS hpr
              generalize cntB (fun x => x == (j : Int)) a = NA at hc1 hPI
              generalize cntB (fun x => x == (j : Int)) b = NB at hc2 hPI
              have wA : IntKind.i64.wrap ((NA : Int) * (NB : Int)) = (PR : Int) := by rw [hPI]; exact IntWalk.i64_in _ (by omega)
              have wB : IntKind.i64.wrap ((T : Int) + (PR : Int)) = ((T + PR : Nat) : Int) := by rw [IntWalk.i64_in _ (by omega)]; omega
              clear hPI hx6 hy6 hA6 hB6 hW6
              go_wp2_with fail
              go_quiet (fail)
              clear wA wB
              go_wp2_with fail
              go_roundw
              case rel => exact ⟨j + 1, by omega, by go_num, by rw [HS2.out]; go_num, hq.trans (Qw.drewN _ _)⟩
              case measure => simp [intOf]; omega
            · obtain rfl : j = 16 := by omega
              have hA7 := hA6.below (hq.below _)
              have hB7 := hB6.below (hq.below _)
              have hW7 := hW6.trans ((hq.below w6.heap.size).mono hW6.size)
              clear hA6 hB6 hW6 hx6 hy6 hpr hprj'
              have hsne : ((s : Int) == 0) = false := by simp; omega
              have hMM := hMLE
              have hMN : (meet a b k : Int) ≤ (n : Int) := by have := HA.out; omega
              have HTC2 := Lib.hid (show colHops b a (-(k.tmod (s : Int))) = (meet a b k : Int) by rw [HB.out]; exact HTC.out)
              have hN0 := Int.lt_tmod_of_pos k (show 0 < (s : Int) by omega)
              have hN1 := Int.tmod_lt_of_pos k (show 0 < (s : Int) by omega)
              generalize hNk : k.tmod (s : Int) = N at HTC2 hN0 hN1
              generalize Sg 16 (fun c => cntB (fun x => x == (c : Int)) a * cntB (fun x => x == (c : Int)) b) = T at *
              generalize meet a b k = MM at *
              go_wp2_with fail
              refine (HopCollisions_c (-N) hB7.1 hA7.1 hA7.2.1).mono ?_; rintro e w8 ⟨rfl, hb8⟩
              rw [HTC2.out]
              have hW8 := hW7.trans (hb8.mono hW7.size)
              clear hA7 hB7 hW7 hb8
              go_wp2_with fail
              go_ret
              exact ⟨rfl, hW8⟩
    · have HK := Lib.hid (fun k => colHops_no (k := k) (show colOk a b = false by simpa using hok))
      clear hok
      rw [HK.out] at hne ⊢
      go_wp2_with fail
      refine (sHopCollisions_c k hA3.1 hB3.1).mono ?_; rintro e w4 ⟨rfl, hq4⟩
      rw [HK.out]
      have hW4 := hW3.trans ((hq4.below w3.heap.size).mono hW3.size)
      go_wp2_with fail
      go_ret
      exact ⟨rfl, hW4⟩
  · have hn' : (1048576 : Int) < (len0 : Int) := by omega
    go_enter Try.func10, Try.ntmps10
    go_wp2_with fail
    go_ret
    exact ⟨rfl, Below.refl _ _⟩

set_option maxRecDepth 100000 in
theorem lifted (os : Os) (started : os.Started) (H : Type) (enc : TypeId × Value → H) :
    ReturnsInHanded {} Try.checked os 10 .any (Rows.fnCollisionsSpec.pre6 enc Try.prog Try.f10 Rows.fnCollisionsRow.domain false) (Rows.fnCollisionsSpec.post enc Try.prog Try.f10 false true false false) := by
  refine returnsInHanded_of_change (C := Try.checked) own started (by kernel_rfl) Try.func10
    (ChangeSpec.witness6 (enc := enc) (C := Try.checked) false ⟨#[], #[.slice none 0 0], []⟩ 8 (by kernel_rfl) (by kernel_rfl) (by kernel_rfl) (by kernel_rfl)) ?_
  intro W base args ds gs before hval0 hW hcnd _
  have hval : ∀ (j : Nat) t v, Try.f10.params[j]? = some t → args[j]? = some v → Value.okWide Try.prog W .any base t v := hval0
  have hW' := hW
  obtain ⟨p, q, hA0, hV, rfl, hfz, hnd⟩ := hW
  have hA : DataW.TrodAll enc Try.prog W 0 (fun _ => true) true Try.f10.params.toList args.toList ds p := hA0
  rw [Try.params10] at hA hval
  obtain ⟨v0, vs0, d0, ds0, p0, q0, hargs, rfl, rfl, h0, r0⟩ := trodAll_cons hA
  obtain ⟨rfl, rfl, rfl⟩ := trodAll_nil r0
  obtain rfl : args = #[v0] := by cases args; simp_all
  obtain ⟨rfl, rfl⟩ := trodVars_none hV
  have k0 := h0
  have lt0 : ∀ x ∈ p0, x.block < W.heap.size := by obtain ⟨m, hm⟩ := k0; exact DataW.trod_lt m _ _ _ hm
  obtain ⟨a0, len0, cap0, rfl⟩ := okWide_slice Try.underlying34 (hval 0 34 v0 rfl rfl)
  obtain ⟨z0, w0⟩ : ∃ zs, IsRow .u8 W a0 len0 cap0 zs := by
    obtain ⟨fuel, hf⟩ := h0
    rcases open_ints Try.underlying34 Try.underlying5 (by kernel_rfl) hf with ⟨hcs, _⟩ | ⟨x, l, c, zs, hcs, _, hl, hm, hz, _, hcell, hwz⟩
    · simp [Value.cells] at hcs
      obtain ⟨rfl, rfl, rfl⟩ := hcs
      exact ⟨[], .inl ⟨rfl, rfl, rfl, rfl⟩⟩
    · simp [Value.cells] at hcs
      obtain ⟨rfl, rfl, rfl⟩ := hcs
      exact ⟨zs, .inr ⟨_, rfl, hl, hm, by simpa using hz, hcell, hwz⟩⟩
  clear hA0 hval0
  refine (walk a0 len0 cap0 z0 W w0).mono fun e W' ⟨he, bel⟩ => ?_
  subst he
  exact ⟨_, rfl, _, _, _, [], _, [], hW', trodAll_mk1 (shut_bool Try.underlying4 _), (trodAll_cons_mk (Below.trod laidOut (by kernel_rfl) (of_decide_eq_true (by kernel_rfl)) k0 bel lt0) trodAll_mk0), rfl, bel.frame _, fun h => by cases h⟩

theorem over : Rows.fnCollisionsRow.holds Try.pinned (OpenSpec.ofChange Rows.fnCollisionsSpec) :=
  OpenClaim.holds_of_wide 10 Try.f10 rfl rfl rfl rfl rfl rfl rfl ⟨rfl, rfl, rfl, rfl, rfl⟩ rfl rfl rfl rfl rfl (by kernel_rfl) Try.func10 (by kernel_rfl)
    (of_decide_eq_true (by kernel_rfl)) (by unfold Func.isWrapper; first | (rw [if_pos (by decide +kernel)]; kernel_rfl) | (rw [if_neg (by decide +kernel)]; exact ⟨rfl, rfl⟩))
    (fun os started H enc _ => lifted os started H enc)

theorem proved : Rows.FnCollisionsSaid := over
#print axioms proved
end Go.Proofs.Ytnklnafcbjnmfaa.fnCollisions
