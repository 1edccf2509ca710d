/- Numbers read from a text (parseNumber of the program, l9Num of the reference). No condition beyond lengths. -/
import Derived.Test.YtdedcablhahbnaaDoorTh
import Derived.Test.YtdedcablhahbnaaDoorShelf
namespace Go.Proofs.YtdedcablhahbnaaDoor
open Go.RowKit

def dL (l : Byts) : Byts := Lib.trimPrefix l [45]
def ngB (l : Byts) : Bool := l.head? == some 45
theorem dL_neg (d : Byts) : dL (45 :: d) = d := by simp [dL, Lib.trimPrefix, Lib.hasPrefix, List.isPrefixOf]
theorem dL_pos {l : Byts} (h : l.head? ≠ some 45) : dL l = l := by
  unfold dL Lib.trimPrefix Lib.hasPrefix
  rw [if_neg]
  cases l with
  | nil => simp [List.isPrefixOf]
  | cons b t =>
    simp only [List.head?_cons, ne_eq, Option.some.injEq] at h
    simp [List.isPrefixOf]
    exact fun e => h e.symm
theorem numL_eq (l : Byts) : numL l = if digsB (dL l) = true ∧ ¬ ((dL l).head? = some 48 ∧ l ≠ [48]) then some (if ngB l = true then -(valD (dL l) : Int) else (valD (dL l) : Int)) else none := by
  by_cases h : l.head? = some 45
  · obtain ⟨d, rfl⟩ : ∃ d, l = 45 :: d := by
      cases l with
      | nil => cases h
      | cons b t => simp only [List.head?_cons, Option.some.injEq] at h; exact ⟨t, by rw [h]⟩
    rw [dL_neg]
    have e1 : ngB (45 :: d) = true := rfl
    have e2 : (45 :: d : Byts) ≠ [48] := by simp
    rw [e1]
    unfold numL
    simp only [ne_eq, e2, not_false_eq_true, and_true, if_true]
  · have e1 : ngB l = false := by unfold ngB; rw [beq_eq_false_iff_ne]; exact h
    rw [numL_pos h, dL_pos h, e1]
    have : (l.head? = some 48 → l = [48]) ↔ ¬ (l.head? = some 48 ∧ l ≠ [48]) := by
      constructor
      · exact fun h1 h2 => h2.2 (h1 h2.1)
      · exact fun h1 h2 => Classical.byContradiction fun h3 => h1 ⟨h2, h3⟩
    simp only [this, Bool.false_eq_true, if_false]
/-- The digits of a text, and the value of the first k. -/
def dgT (s : ByteArray) : ByteArray := txt (dL (bts s))
def valT (D : ByteArray) (k : Nat) : Nat := valD ((bts D).take k)
theorem bts_get {D : ByteArray} {k : Nat} (h : k < D.size) : (bts D)[k]'h = D[k] := rfl
theorem valT_zero (D : ByteArray) : valT D 0 = 0 := rfl
theorem valT_succ {D : ByteArray} {k : Nat} (h : k < D.size) : valT D (k + 1) = 10 * valT D k + (D[k].toNat - 48) := by
  unfold valT; rw [List.take_succ_eq_append_getElem (by exact h), valD_snoc]; rfl
def dgsT (D : ByteArray) (k : Nat) : Bool := ((bts D).take k).all digC
theorem dgsT_succ {D : ByteArray} {k : Nat} (h : k < D.size) (h1 : dgsT D k = true) (h2 : digC D[k] = true) : dgsT D (k + 1) = true := by
  unfold dgsT at *; rw [List.take_succ_eq_append_getElem (by exact h), List.all_append, h1]; simp [bts_get h, h2]
theorem valT_lt {D : ByteArray} {k : Nat} (h : dgsT D k = true) (hk : k ≤ 16) : valT D k < 10000000000000000 := by
  have := valD_lt _ h
  have h2 : 10 ^ ((bts D).take k).length ≤ 10 ^ 16 := Nat.pow_le_pow_right (by decide) (by rw [List.length_take]; omega)
  have : (10 : Nat) ^ 16 = 10000000000000000 := by decide
  unfold valT; omega
theorem valT_lt17 {D : ByteArray} (h : dgsT D D.size = true) (h17 : D.size ≤ 17) : valT D D.size < 100000000000000000 := by
  have := valD_lt _ h
  have h2 : 10 ^ ((bts D).take D.size).length ≤ 10 ^ 17 := Nat.pow_le_pow_right (by decide) (by rw [List.length_take, bts_len]; omega)
  have : (10 : Nat) ^ 17 = 100000000000000000 := by decide
  unfold valT; omega
theorem valT_all (D : ByteArray) : valT D D.size = valD (bts D) := by unfold valT; rw [List.take_of_length_le (by rw [bts_len]; exact Nat.le_refl _)]
theorem num_short {s : ByteArray} (h : ¬ (1 ≤ (dgT s).size ∧ (dgT s).size ≤ 17)) : numT s = none := by
  unfold numT
  rw [numL_eq, if_neg]
  intro hc
  obtain ⟨a, b, _⟩ := digsB_parts hc.1
  exact h ⟨a, b⟩
theorem num_zero {s : ByteArray} (h1 : 0 < (dgT s).size) (h2 : (dgT s)[0].toNat = 48) (h3 : bts s ≠ [48]) : numT s = none := by
  unfold numT
  rw [numL_eq, if_neg]
  intro hc
  refine hc.2 ⟨?_, h3⟩
  have : (dL (bts s)) = bts (dgT s) := rfl
  rw [this, List.head?_eq_getElem?, List.getElem?_eq_getElem (by exact h1)]
  congr 1
  exact UInt8.toNat_inj.1 h2
theorem num_bad {s : ByteArray} {k : Nat} (h1 : k < (dgT s).size) (h2 : digC (dgT s)[k] = false) : numT s = none := by
  unfold numT
  rw [numL_eq, if_neg]
  intro hc
  obtain ⟨_, _, c⟩ := digsB_parts hc.1
  have := List.all_eq_true.1 c (dgT s)[k] (List.getElem_mem (l := bts (dgT s)) h1)
  rw [h2] at this; cases this
theorem num_good {s : ByteArray} (h0 : 1 ≤ (dgT s).size ∧ (dgT s).size ≤ 17) (h1 : (∀ h : 0 < (dgT s).size, (dgT s)[0]'h ≠ 48) ∨ bts s = [48]) (h2 : dgsT (dgT s) (dgT s).size = true) :
    numT s = some (if ngB (bts s) = true then -(valT (dgT s) (dgT s).size : Int) else (valT (dgT s) (dgT s).size : Int)) := by
  unfold numT
  have e : dL (bts s) = bts (dgT s) := rfl
  have e2 : (bts (dgT s)).take (dgT s).size = bts (dgT s) := List.take_of_length_le (by rw [bts_len]; exact Nat.le_refl _)
  rw [numL_eq, valT_all, e, if_pos]
  refine ⟨digsB_mk h0.1 h0.2 (by unfold dgsT at h2; rw [e2] at h2; exact h2), fun hc => ?_⟩
  rcases h1 with h1 | h1
  · rw [List.head?_eq_getElem?, List.getElem?_eq_getElem (by rw [bts_len]; omega)] at hc
    exact h1 (by omega) (Option.some.inj hc.1)
  · exact hc.2 h1
theorem dg_neg {s : ByteArray} (h : ngB (bts s) = true) : s.size = (dgT s).size + 1 ∧ 0 < s.size := by
  unfold ngB at h
  rw [beq_iff_eq] at h
  obtain ⟨d, hd⟩ : ∃ d, bts s = 45 :: d := by
    cases hb : bts s with
    | nil => rw [hb] at h; cases h
    | cons b t => rw [hb] at h; simp only [List.head?_cons, Option.some.injEq] at h; exact ⟨t, by rw [h]⟩
  have e : (dgT s).size = d.length := by unfold dgT; rw [hd, dL_neg, txt_size]
  have e2 : s.size = d.length + 1 := by rw [← bts_len, hd]; rfl
  omega
theorem dg_pos {s : ByteArray} (h : ngB (bts s) = false) : dgT s = s := by
  unfold ngB at h
  rw [beq_eq_false_iff_ne] at h
  unfold dgT; rw [dL_pos h, txt_bts]
def RetNum (r : Option Int) (w : World) (e : Ending) (w' : World) : Prop := e = .returned (.tuple #[.int .i64 (r.getD 0), .bool r.isSome]) ∧ w = w'
theorem retNum_none {r : Option Int} {w : World} (h : r = none) : RetNum r w (.returned (.tuple #[.int .i64 0, .bool false])) w := by subst h; exact ⟨rfl, rfl⟩
theorem retNum_some {r : Option Int} {w : World} {n : Int} (h : r = some n) : RetNum r w (.returned (.tuple #[.int .i64 n, .bool true])) w := by subst h; exact ⟨rfl, rfl⟩

set_option maxRecDepth 100000 in
set_option maxHeartbeats 1600000 in
theorem parseNumber_c (s : ByteArray) (w : World) (_hs : s.size ≤ 1099511627776) : Calls Tryd.prog 43 #[.string s] w (RetNum (numT s) w) := by
  have HDD := Lib.hid (show (⟨(Lib.trimPrefix s.data.toList (⟨#[45]⟩ : ByteArray).data.toList).toArray⟩ : ByteArray) = dgT s from rfl)
  have hsh := Lib.hid (num_short (s := s))
  have hze := Lib.hid (num_zero (s := s))
  have hba := Lib.hid (fun k (h : k < (dgT s).size) (h2 : digC (dgT s)[k] = false) => num_bad h h2)
  have hgo := Lib.hid (num_good (s := s))
  have hne := Lib.hid (dg_neg (s := s))
  have hpo := Lib.hid (dg_pos (s := s))
  generalize dgT s = D at *
  by_cases h1 : (D.size : Int) < 1
  · have hr := Lib.hid (hsh.out (by omega))
    go_enter Tryd.func43, Tryd.ntmps43
    go_wp2_with fail
    refine (Tryd.strings_TrimPrefix s (⟨#[45]⟩ : ByteArray) _).mono ?_; rintro e w' ⟨rfl, rfl⟩
    rw [HDD.out]
    go_wp2_with fail
    go_ret2
    exact retNum_none hr.out
  · by_cases h2 : (17 : Int) < (D.size : Int)
    · have hr := Lib.hid (hsh.out (by omega))
      go_enter Tryd.func43, Tryd.ntmps43
      go_wp2_with fail
      refine (Tryd.strings_TrimPrefix s (⟨#[45]⟩ : ByteArray) _).mono ?_; rintro e w' ⟨rfl, rfl⟩
      rw [HDD.out]
      go_wp2_with fail
      go_ret2
      exact retNum_none hr.out
    · have hD0 : 0 < D.size := by omega
      have hD17 : D.size ≤ 17 := by omega
      by_cases hz : D[0].toNat = 48 ∧ bts s ≠ [48]
      · have hr := Lib.hid (hze.out hD0 hz.1 hz.2)
        have c0 : ((D[0].toNat : Int) == 48) = true := by rw [beq_iff_eq]; omega
        have c1 := tl_ne hz.2
        have c2 : (s.toList != [48]) = true := by rw [bne, c1]; rfl
        clear hz
        go_enter Tryd.func43, Tryd.ntmps43
        go_wp2_with fail
        refine (Tryd.strings_TrimPrefix s (⟨#[45]⟩ : ByteArray) _).mono ?_; rintro e w' ⟨rfl, rfl⟩
        rw [HDD.out]
        go_wp2_with fail
        go_ret2
        exact retNum_none hr.out
      · have HZ := Lib.hid (show (∀ h : 0 < D.size, D[0]'h ≠ 48) ∨ bts s = [48] by
          by_cases e : bts s = [48]
          · exact .inr e
          · exact .inl fun _ e2 => hz ⟨by rw [e2]; rfl, e⟩)
        have hcs : ((D[0].toNat : Int) == 48) = false ∨ (((D[0].toNat : Int) == 48) = true ∧ (s.toList == [48]) = true ∧ (s.toList != [48]) = false) := by
          by_cases e : D[0].toNat = 48
          · have e2 : bts s = [48] := Classical.byContradiction fun h => hz ⟨e, h⟩
            exact .inr ⟨by rw [beq_iff_eq]; omega, tl_eq e2, by rw [bne, tl_eq e2]; rfl⟩
          · exact .inl (by rw [beq_eq_false_iff_ne]; omega)
        clear hz
        rcases hcs with c0 | ⟨c0, c1, c2⟩
        all_goals
          go_enter Tryd.func43, Tryd.ntmps43
          go_wp2_with fail
          refine (Tryd.strings_TrimPrefix s (⟨#[45]⟩ : ByteArray) _).mono ?_; rintro e w' ⟨rfl, rfl⟩
          rw [HDD.out]
          go_wp2_with fail
          clear c0
          go_loop [5, 26] (fun n i => ∃ k : Nat, k ≤ D.size ∧ i = .int .i64 k ∧ n = .int .i64 (valT D k) ∧ Hid (dgsT D k = true)) (fun _ i => D.size - (intOf i).toNat)
          case atStart => exact ⟨0, Nat.zero_le _, rfl, rfl, Lib.hid rfl⟩
          case round =>
            obtain ⟨k, hk, rfl, rfl, HK⟩ := hrel
            by_cases hlt : k < D.size
            · have hv := valT_lt HK.out (by omega)
              have HS := Lib.hid (valT_succ hlt)
              have HB := Lib.hid (hba.out k hlt)
              have HN := Lib.hid (dgsT_succ hlt HK.out)
              obtain ⟨c, hc⟩ : ∃ c, c = D[k].toNat := ⟨_, rfl⟩
              have HC := Lib.hid (show digC D[k] = (decide (48 ≤ c) && decide (c ≤ 57)) by rw [hc]; rfl)
              have hcI : (D[k].toNat : Int) = (c : Int) := by rw [hc]
              rw [← hc] at HS
              clear hc
              generalize valT D k = N at *
              by_cases ha : c < 48
              · have hr := Lib.hid (HB.out (by rw [HC.out, decide_eq_false (by omega)]; rfl))
                have ha' : (c : Int) < 48 := by omega
                go_wp2_with fail
                go_ret2
                exact retNum_none hr.out
              · by_cases hb : 57 < c
                · have hr := Lib.hid (HB.out (by rw [HC.out, decide_eq_false (show ¬ c ≤ 57 by omega), Bool.and_false]))
                  have ha' : ¬ (c : Int) < 48 := by omega
                  have hb' : (57 : Int) < (c : Int) := by omega
                  go_wp2_with fail
                  go_ret2
                  exact retNum_none hr.out
                · have HG := Lib.hid (HN.out (by rw [HC.out, decide_eq_true (by omega), decide_eq_true (by omega)]; rfl))
                  have ha' : ¬ (c : Int) < 48 := by omega
                  have hb' : ¬ (57 : Int) < (c : Int) := by omega
                  go_wp2_with fail
                  go_round
                  case rel => exact ⟨k + 1, by omega, by go_num, by rw [HS.out]; go_num, HG⟩
                  case measure => simp [intOf]; omega
            · obtain rfl : k = D.size := by omega
              have HR := Lib.hid (hgo.out ⟨by omega, by omega⟩ HZ.out HK.out)
              have hv := valT_lt17 HK.out hD17
              generalize valT D D.size = N at *
              by_cases hn : ngB (bts s) = true
              · have hsz := (hne.out hn).1
                have hlt2 : (D.size : Int) < (s.size : Int) := by omega
                have HR2 := Lib.hid (HR.out.trans (by rw [if_pos hn]))
                clear hn hsz
                go_wp2_with fail
                go_ret2
                exact retNum_some HR2.out
              · have hn' : ngB (bts s) = false := by simpa using hn
                have hsz : ¬ (D.size : Int) < (s.size : Int) := by rw [hpo.out hn']; omega
                have HR2 := Lib.hid (HR.out.trans (by rw [if_neg hn]))
                clear hn hn'
                go_wp2_with fail
                go_ret2
                exact retNum_some HR2.out

theorem dg_ext {s : ByteArray} (h : ngB (bts s) = true) : dgT s = s.extract 1 s.size := by
  unfold ngB at h
  rw [beq_iff_eq] at h
  obtain ⟨d, hd⟩ : ∃ d, bts s = 45 :: d := by
    cases hb : bts s with
    | nil => rw [hb] at h; cases h
    | cons b t => rw [hb] at h; simp only [List.head?_cons, Option.some.injEq] at h; exact ⟨t, by rw [h]⟩
  apply bts_inj
  unfold dgT
  rw [bts_txt, hd, dL_neg]
  have : bts (s.extract 1 s.size) = (bts s).drop 1 := Lib.extract_to_end s 1
  rw [this, hd]; rfl
theorem one_zero {s : ByteArray} (h0 : s.size = 1) (h1 : s[0].toNat = 48) : bts s = [48] := by
  have hl : (bts s).length = 1 := h0
  obtain ⟨b, hb⟩ := List.length_eq_one_iff.1 hl
  have : (bts s)[0]'(by omega) = s[0] := rfl
  rw [hb]
  congr 1
  rw [← UInt8.toNat_inj, ← show s[0] = b by rw [← this]; simp [hb]]; exact h1

set_option maxRecDepth 100000 in
set_option maxHeartbeats 3200000 in
theorem l9Num_c (s : ByteArray) (w : World) (hs : s.size ≤ 1099511627776) : Calls Tryd.prog 29 #[.string s] w (RetNum (numT s) w) := by
  have hsh := Lib.hid (num_short (s := s))
  have hze := Lib.hid (num_zero (s := s))
  have hba := Lib.hid (fun k (h : k < (dgT s).size) (h2 : digC (dgT s)[k] = false) => num_bad h h2)
  have hgo := Lib.hid (num_good (s := s))
  have hne := Lib.hid (dg_neg (s := s))
  have hpo := Lib.hid (dg_pos (s := s))
  have hex := Lib.hid (dg_ext (s := s))
  generalize dgT s = D at *
  by_cases hn : ngB (bts s) = true
  · have hE : s.extract 1 s.size = D := (hex.out hn).symm
    obtain ⟨hsz, hs0⟩ := hne.out hn
    have hg : (0 : Int) < (s.size : Int) := by omega
    have c45 : ((s[0].toNat : Int) == 45) = true := by
      have h := hn
      unfold ngB at h
      rw [beq_iff_eq, List.head?_eq_getElem?, List.getElem?_eq_getElem (by exact hs0)] at h
      have h2 : s[0] = 45 := Option.some.inj h
      rw [h2]; rfl
    have hx : 1 ≤ s.size := by omega
    have HN := Lib.hid hn
    have hX0 : D.size ≤ s.size := by omega
    clear hex hpo hne hn hsz
    have hXz : D.size ≤ 1099511627776 := by omega
    by_cases h1 : D.size < 1
    · have hr := Lib.hid (hsh.out (by omega))
      have hg2 : ((D.size : Int) == 0) = true := by rw [beq_iff_eq]; omega
      go_enter Tryd.func29, Tryd.ntmps29
      go_wp2_with fail
      go_ret2
      exact retNum_none hr.out
    · have hg2 : ((D.size : Int) == 0) = false := by rw [beq_eq_false_iff_ne]; omega
      by_cases h2 : (17 : Int) < (D.size : Int)
      · have hr := Lib.hid (hsh.out (by omega))
        go_enter Tryd.func29, Tryd.ntmps29
        go_wp2_with fail
        go_ret2
        exact retNum_none hr.out
      · have hD0 : 0 < D.size := by omega
        have hD17 : D.size ≤ 17 := by omega
        have hb48 : bts s ≠ [48] := fun e => by have h := HN.out; rw [e] at h; exact absurd h (by decide)
        by_cases hz : D[0].toNat = 48
        · have hr := Lib.hid (hze.out hD0 hz hb48)
          have c0 : ((D[0].toNat : Int) == 48) = true := by rw [beq_iff_eq]; omega
          clear hz
          by_cases hl1 : (1 : Int) < (D.size : Int)
          all_goals
            go_enter Tryd.func29, Tryd.ntmps29
            go_wp2_with fail
            go_ret2
            exact retNum_none hr.out
        · have HZ := Lib.hid (show (∀ h : 0 < D.size, D[0]'h ≠ 48) ∨ bts s = [48] from .inl fun _ e2 => hz (by rw [e2]; rfl))
          have c0 : ((D[0].toNat : Int) == 48) = false := by rw [beq_eq_false_iff_ne]; omega
          clear hz
          go_enter Tryd.func29, Tryd.ntmps29
          go_wp2_with fail
          clear c0
          go_loop [5, 6] (fun n i => ∃ k : Nat, k ≤ D.size ∧ i = .int .i64 k ∧ n = .int .i64 (valT D k) ∧ Hid (dgsT D k = true)) (fun _ i => D.size - (intOf i).toNat)
          case atStart => exact ⟨0, Nat.zero_le _, rfl, rfl, Lib.hid rfl⟩
          case round =>
            obtain ⟨k, hk, rfl, rfl, HK⟩ := hrel
            by_cases hlt : k < D.size
            · have hv := valT_lt HK.out (by omega)
              have HS := Lib.hid (valT_succ hlt)
              have HB := Lib.hid (hba.out k hlt)
              have HNX := Lib.hid (dgsT_succ hlt HK.out)
              obtain ⟨c, hc⟩ : ∃ c, c = (D[k]'hlt).toNat := ⟨_, rfl⟩
              have HC := Lib.hid (show digC (D[k]'hlt) = (decide (48 ≤ c) && decide (c ≤ 57)) by rw [hc]; rfl)
              have hcI : ((D[k]'hlt).toNat : Int) = (c : Int) := by rw [hc]
              rw [← hc] at HS
              clear hc
              generalize valT D k = N at *
              by_cases ha : c < 48
              · have hr := Lib.hid (HB.out (by rw [HC.out, decide_eq_false (by omega)]; rfl))
                have ha' : (c : Int) < 48 := by omega
                go_wp2_with fail
                go_ret2
                exact retNum_none hr.out
              · by_cases hb : 57 < c
                · have hr := Lib.hid (HB.out (by rw [HC.out, decide_eq_false (show ¬ c ≤ 57 by omega), Bool.and_false]))
                  have ha' : ¬ (c : Int) < 48 := by omega
                  have hb' : (57 : Int) < (c : Int) := by omega
                  go_wp2_with fail
                  go_ret2
                  exact retNum_none hr.out
                · have HG := Lib.hid (HNX.out (by rw [HC.out, decide_eq_true (by omega), decide_eq_true (by omega)]; rfl))
                  have ha' : ¬ (c : Int) < 48 := by omega
                  have hb' : ¬ (57 : Int) < (c : Int) := by omega
                  go_wp2_with fail
                  go_round
                  case rel => exact ⟨k + 1, by omega, by go_num, by rw [HS.out]; go_num, HG⟩
                  case measure => simp [intOf]; omega
            · obtain rfl : k = D.size := by omega
              have HR := Lib.hid (hgo.out ⟨by omega, by omega⟩ HZ.out HK.out)
              have hv := valT_lt17 HK.out hD17
              generalize valT D D.size = N at *
              have HR2 := Lib.hid (HR.out.trans (by rw [if_pos HN.out]))
              go_wp2_with fail
              go_ret2
              exact retNum_some HR2.out
  · have hn' : ngB (bts s) = false := by simpa using hn
    obtain rfl := hpo.out hn'
    by_cases hs0 : 0 < D.size
    · have hg : (0 : Int) < (D.size : Int) := by omega
      have c45 : ((D[0].toNat : Int) == 45) = false := by
        rw [beq_eq_false_iff_ne]
        intro e
        unfold ngB at hn'
        rw [beq_eq_false_iff_ne] at hn'
        apply hn'
        rw [List.head?_eq_getElem?, List.getElem?_eq_getElem (by exact hs0)]
        congr 1
        exact UInt8.toNat_inj.1 (by show D[0].toNat = 45; omega)
      have HN := Lib.hid hn'
      clear hex hpo hne hn hn'
      have hXz : D.size ≤ 1099511627776 := by omega
      by_cases h1 : D.size < 1
      · have hr := Lib.hid (hsh.out (by omega))
        have hg2 : ((D.size : Int) == 0) = true := by rw [beq_iff_eq]; omega
        go_enter Tryd.func29, Tryd.ntmps29
        go_wp2_with fail
        go_ret2
        exact retNum_none hr.out
      · have hg2 : ((D.size : Int) == 0) = false := by rw [beq_eq_false_iff_ne]; omega
        by_cases h2 : (17 : Int) < (D.size : Int)
        · have hr := Lib.hid (hsh.out (by omega))
          go_enter Tryd.func29, Tryd.ntmps29
          go_wp2_with fail
          go_ret2
          exact retNum_none hr.out
        · have hD0 : 0 < D.size := by omega
          have hD17 : D.size ≤ 17 := by omega
          by_cases hz : D[0].toNat = 48 ∧ 1 < D.size
          · have hr := Lib.hid (hze.out hD0 hz.1 (fun e => by have := congrArg List.length e; rw [bts_len] at this; simp at this; omega))
            have c0 : ((D[0].toNat : Int) == 48) = true := by rw [beq_iff_eq]; omega
            have c1 : (1 : Int) < (D.size : Int) := by omega
            clear hz
            go_enter Tryd.func29, Tryd.ntmps29
            go_wp2_with fail
            go_ret2
            exact retNum_none hr.out
          · have HZ := Lib.hid (show (∀ h : 0 < D.size, D[0]'h ≠ 48) ∨ bts D = [48] by
              by_cases e : D[0].toNat = 48
              · exact .inr (one_zero (by omega) e)
              · exact .inl fun _ e2 => e (by rw [e2]; rfl))
            have hcs : ((D[0].toNat : Int) == 48) = false ∨ (((D[0].toNat : Int) == 48) = true ∧ ¬ (1 : Int) < (D.size : Int)) := by
              by_cases e : D[0].toNat = 48
              · exact .inr ⟨by rw [beq_iff_eq]; omega, by omega⟩
              · exact .inl (by rw [beq_eq_false_iff_ne]; omega)
            clear hz
            rcases hcs with c0 | ⟨c0, c1⟩
            all_goals
              go_enter Tryd.func29, Tryd.ntmps29
              go_wp2_with fail
              clear c0
              go_loop [5, 6] (fun n i => ∃ k : Nat, k ≤ D.size ∧ i = .int .i64 k ∧ n = .int .i64 (valT D k) ∧ Hid (dgsT D k = true)) (fun _ i => D.size - (intOf i).toNat)
              case atStart => exact ⟨0, Nat.zero_le _, rfl, rfl, Lib.hid rfl⟩
              case round =>
                obtain ⟨k, hk, rfl, rfl, HK⟩ := hrel
                by_cases hlt : k < D.size
                · have hv := valT_lt HK.out (by omega)
                  have HS := Lib.hid (valT_succ hlt)
                  have HB := Lib.hid (hba.out k hlt)
                  have HNX := Lib.hid (dgsT_succ hlt HK.out)
                  obtain ⟨c, hc⟩ : ∃ c, c = (D[k]'hlt).toNat := ⟨_, rfl⟩
                  have HC := Lib.hid (show digC (D[k]'hlt) = (decide (48 ≤ c) && decide (c ≤ 57)) by rw [hc]; rfl)
                  have hcI : ((D[k]'hlt).toNat : Int) = (c : Int) := by rw [hc]
                  rw [← hc] at HS
                  clear hc
                  generalize valT D k = N at *
                  by_cases ha : c < 48
                  · have hr := Lib.hid (HB.out (by rw [HC.out, decide_eq_false (by omega)]; rfl))
                    have ha' : (c : Int) < 48 := by omega
                    go_wp2_with fail
                    go_ret2
                    exact retNum_none hr.out
                  · by_cases hb : 57 < c
                    · have hr := Lib.hid (HB.out (by rw [HC.out, decide_eq_false (show ¬ c ≤ 57 by omega), Bool.and_false]))
                      have ha' : ¬ (c : Int) < 48 := by omega
                      have hb' : (57 : Int) < (c : Int) := by omega
                      go_wp2_with fail
                      go_ret2
                      exact retNum_none hr.out
                    · have HG := Lib.hid (HNX.out (by rw [HC.out, decide_eq_true (by omega), decide_eq_true (by omega)]; rfl))
                      have ha' : ¬ (c : Int) < 48 := by omega
                      have hb' : ¬ (57 : Int) < (c : Int) := by omega
                      go_wp2_with fail
                      go_round
                      case rel => exact ⟨k + 1, by omega, by go_num, by rw [HS.out]; go_num, HG⟩
                      case measure => simp [intOf]; omega
                · obtain rfl : k = D.size := by omega
                  have HR := Lib.hid (hgo.out ⟨by omega, by omega⟩ HZ.out HK.out)
                  have hv := valT_lt17 HK.out hD17
                  generalize valT D D.size = N at *
                  have HR2 := Lib.hid (HR.out.trans (by rw [if_neg (by rw [HN.out]; exact Bool.false_ne_true)]))
                  go_wp2_with fail
                  go_ret2
                  exact retNum_some HR2.out
    · have hr := Lib.hid (hsh.out (by omega))
      have hg : ¬ (0 : Int) < (D.size : Int) := by omega
      have hg2 : ((D.size : Int) == 0) = true := by rw [beq_iff_eq]; omega
      go_enter Tryd.func29, Tryd.ntmps29
      go_wp2_with fail
      go_ret2
      exact retNum_none hr.out

end Go.Proofs.YtdedcablhahbnaaDoor
