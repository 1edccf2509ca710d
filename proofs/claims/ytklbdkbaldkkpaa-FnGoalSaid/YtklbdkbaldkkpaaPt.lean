/- PowerTime of the program and of the reference. No condition beyond lengths. -/
import Derived.Test.YtklbdkbaldkkpaaCy
import Derived.Deep.RegionHeld3
import Derived.IntWalk
namespace Go.Proofs.Ytklbdkbaldkkpaa
open Go.RowKit

theorem cellB_st {l : List Stn} (h : cellB l = true) {i : Nat} (hi : i < l.length) : stB l[i].nm l[i].ph l[i].g l[i].l = true := by
  unfold cellB okT at h
  rw [Bool.and_eq_true, List.all_eq_true] at h
  have := h.2 i (List.mem_range.2 hi)
  unfold goodAt at this
  rw [Bool.and_eq_true, getD_stn hi] at this
  exact this.1
theorem cellB_8 {l : List Stn} (h : cellB l = true) : l.length ≤ 8 := by
  unfold cellB at h
  rw [Bool.and_eq_true] at h
  exact of_decide_eq_true h.1

def goalS (t : Int) (s : Stn) : Int := min (t * s.l) 1000
def gapS (t : Int) (s : Stn) : Int := max (s.g - goalS t s) (-(s.g - goalS t s))
def timeT (l : List Stn) (t : Int) (k : Nat) : Int := ((l.take k).map (gapS t)).foldl max 0
def timeR (l : List Stn) (t : Int) : Int := if (cellB l && inB t 0 40) = true then timeT l t l.length else -1
theorem timeR_no1 {l : List Stn} {t : Int} (h : cellB l = false) : timeR l t = -1 := by simp [timeR, h]
theorem timeR_no2 {l : List Stn} {t : Int} (h : inB t 0 40 = false) : timeR l t = -1 := by simp [timeR, h]
theorem timeR_yes {l : List Stn} {t : Int} (h : cellB l = true) (h' : inB t 0 40 = true) : timeR l t = timeT l t l.length := by simp [timeR, h, h']
theorem timeT_succ {l : List Stn} {t : Int} {k : Nat} (hk : k < l.length) : timeT l t (k + 1) = max (timeT l t k) (gapS t l[k]) := by
  unfold timeT; rw [List.take_succ_eq_append_getElem hk, List.map_append, List.foldl_append]; rfl
theorem goalS_bd {t : Int} {s : Stn} (ht : 0 ≤ t ∧ t ≤ 40) (hl : 1 ≤ s.l ∧ s.l ≤ 20) : 0 ≤ goalS t s ∧ goalS t s ≤ 800 := by
  have hp0 : 0 ≤ t * s.l := Int.mul_nonneg ht.1 (by omega)
  have hp1 : t * s.l ≤ 40 * 20 := Int.mul_le_mul ht.2 hl.2 (by omega) (by omega)
  unfold goalS; omega
theorem foldl_max_bd {L : List Int} {a b m : Int} (h : ∀ x ∈ L, x ≤ b) (hm : a ≤ m) (hb : m ≤ b) : a ≤ L.foldl max m ∧ L.foldl max m ≤ b := by
  induction L generalizing m with
  | nil => exact ⟨hm, hb⟩
  | cons x L ih => exact ih (fun y hy => h y (List.mem_cons_of_mem _ hy)) (by omega) (by have := h x (List.mem_cons_self ..); omega)
theorem gapS_bd {l : List Stn} {t : Int} (h : cellB l = true) (ht : 0 ≤ t ∧ t ≤ 40) {s : Stn} (hs : s ∈ l) : 0 ≤ gapS t s ∧ gapS t s ≤ 1000 := by
  obtain ⟨i, hi, rfl⟩ := List.getElem_of_mem hs
  obtain ⟨hg, hl⟩ := stB_ranges (cellB_st h hi)
  have := goalS_bd (s := l[i]) ht hl
  unfold gapS; omega
theorem timeT_bd {l : List Stn} {t : Int} (h : cellB l = true) (ht : 0 ≤ t ∧ t ≤ 40) (k : Nat) : 0 ≤ timeT l t k ∧ timeT l t k ≤ 1000 := by
  refine foldl_max_bd (fun x hx => ?_) (by omega) (by omega)
  obtain ⟨s, hs, rfl⟩ := List.mem_map.1 hx
  exact (gapS_bd h ht (List.mem_of_mem_take hs)).2

set_option maxHeartbeats 400000 in
theorem absolute_c (n : Int) (w : World) (h0 : -1099511627776 ≤ n) (h1 : n ≤ 1099511627776) : Calls Try.prog 82 #[.int .i64 n] w fun e w' => e = .returned (.int .i64 (max n (-n))) ∧ w = w' := by
  by_cases h : 0 ≤ n
  · have h2 : -n ≤ n := by omega
    go_enter Try.func82, Try.ntmps82
    go_wp2
    all_goals (go_ret; exact ⟨ret_i (by omega), rfl⟩)
  · have h2 : n < -n := by omega
    go_enter Try.func82, Try.ntmps82
    go_wp2
    all_goals (go_ret; exact ⟨ret_i (by omega), rfl⟩)

set_option maxRecDepth 100000 in
set_option maxHeartbeats 4000000 in
theorem PowerTime_c {ao : Option Addr} {n c : Nat} {l : List Stn} {w : World} (t : Int) (h : RdS w ao n l) (hc : n ≤ c) :
    Calls Try.prog 31 #[.slice ao n c, .int .i64 t] w fun e w' => e = .returned (.int .i64 (timeR l t)) ∧ Below w.heap.size w w' := by
  have hs := h.2.1
  have HN := Lib.hid h.1
  by_cases h1 : cellB l = true
  · by_cases h2 : inB t 0 40 = true
    · have ht := inB_iff.1 h2
      have hr := Lib.hid (timeR_yes h1 h2)
      have HC := Lib.hid h1
      go_enter Try.func31, Try.ntmps31
      go_wp2_with fail
      refine (CellValid_c h hc).mono ?_; rintro e w1 ⟨rfl, hb1⟩
      rw [h1]
      have h3 := h.below hb1
      clear h h1
      go_wp2_with fail
      refine (targetValid_c _ _).mono ?_; rintro e w' ⟨rfl, rfl⟩
      rw [h2]
      clear h2
      go_wp2_with fail
      go_loopw [5, 18] (fun m i wr => ∃ k : Nat, k ≤ n ∧ i = .int .i64 k ∧ m = .int .i64 (timeT l t k) ∧ Below w.heap.size w wr ∧ Below w1.heap.size w1 wr) (fun _ i _ => n - (intOf i).toNat)
      case atStart => exact ⟨0, Nat.zero_le _, rfl, rfl, hb1, Below.refl _ _⟩
      case round =>
        obtain ⟨k, hk, rfl, rfl, hb, hb'⟩ := hrel
        obtain ⟨tb0, tb1⟩ := timeT_bd HC.out ht k
        have hz := hb.size
        by_cases hlt : k < n
        · obtain ⟨bk, off, rfl, hl, hc0, hc1, hc2, hc3⟩ := (h3.below hb').at hlt
          have HS := Lib.hid (timeT_succ (t := t) hl)
          have hst := cellB_st HC.out hl
          obtain ⟨hg, hll⟩ := stB_ranges hst
          obtain ⟨hq0, hq1⟩ := goalS_bd (s := l[k]) ht hll
          have HQ := Lib.hid (show goalOf l[k].nm l[k].ph l[k].g l[k].l t = goalS t l[k] from goalOf_yes hst (inB_iff.2 ht))
          have HP := Lib.hid (show gapS t l[k] = max (l[k].g - goalS t l[k]) (-(l[k].g - goalS t l[k])) from rfl)
          have hBx := Box.new wr #[.string l[k].nm, .string l[k].ph, .int .i64 l[k].g, .int .i64 l[k].l] 37
          have hB0 : Below wr.heap.size wr (wr.alloc (.cells #[.string l[k].nm, .string l[k].ph, .int .i64 l[k].g, .int .i64 l[k].l] 37)) := (Below.refl _ _).alloc (Nat.le_refl _) _
          have hlt0 := hBx.lt
          have hBd : Box (wr.alloc (.cells #[.string l[k].nm, .string l[k].ph, .int .i64 l[k].g, .int .i64 l[k].l] 37)).drew wr.heap.size #[.string l[k].nm, .string l[k].ph, .int .i64 l[k].g, .int .i64 l[k].l] 37 := hBx
          have d0 := hBx.cell (i := 0) rfl
          have d1 := hBx.cell (i := 1) rfl
          have d2 := hBx.cell (i := 2) rfl
          have d3 := hBx.cell (i := 3) rfl
          obtain ⟨p0, p1⟩ := gapS_bd HC.out ht (List.getElem_mem hl)
          clear hst
          by_cases hmx : timeT l t k < gapS t l[k]
          all_goals
            have hwr : IntKind.i64.wrap (l[k].g - goalS t l[k]) = l[k].g - goalS t l[k] := IntWalk.i64_in _ (by omega)
            go_wp2_with fail
            go_region_held3 (fun w' => w'.cell? ⟨wr.heap.size, 0, none⟩ = some (.string l[k].nm) ∧ w'.cell? ⟨wr.heap.size, 1, none⟩ = some (.string l[k].ph) ∧ w'.cell? ⟨wr.heap.size, 2, none⟩ = some (.int .i64 l[k].g) ∧ w'.cell? ⟨wr.heap.size, 3, none⟩ = some (.int .i64 l[k].l)) (first | exact ⟨d0, d1, d2, d3⟩ | exact ⟨e0, e1, e2, e3⟩) (first | (go_at_call 20; refine (PowerGoal_c _ _ _ _ _ _).mono ?_; rintro e w2 ⟨rfl, hb2⟩; rw [HQ.out]; have hBy := hBd.below hb2 hlt0; have e0 := hBy.cell (i := 0) rfl; have e1 := hBy.cell (i := 1) rfl; have e2 := hBy.cell (i := 2) rfl; have e3 := hBy.cell (i := 3) rfl) | (go_at_call 82; refine (absolute_c _ _ (by omega) (by omega)).mono ?_; rintro e w' ⟨rfl, rfl⟩; rw [← HP.out]))
            have hb3 := (Below.drew hB0).trans (hb2.mono (by simp))
            have hb4 := hb.trans (hb3.mono hb.size)
            have hb5 := hb'.trans (hb3.mono hb'.size)
            clear hB0 hb2 hb3 hBx hBd hwr
            go_wp2_with fail
            go_roundw
            case rel => exact ⟨k + 1, by omega, by go_num, by rw [HS.out]; go_num, hb4, hb5⟩
            case measure => simp [intOf]; omega
        · have hkl : k = l.length := by have := HN.out; omega
          have hr2 := Lib.hid (show timeT l t k = timeR l t by rw [hr.out, hkl])
          clear hkl
          go_wp2_with fail
          go_ret
          exact ⟨ret_i hr2.out, hb⟩
    · have h2' : inB t 0 40 = false := by simpa using h2
      have hr := Lib.hid (timeR_no2 (l := l) h2')
      clear h2
      go_enter Try.func31, Try.ntmps31
      go_wp2_with fail
      refine (CellValid_c h hc).mono ?_; rintro e w1 ⟨rfl, hb1⟩
      rw [h1]
      go_wp2_with fail
      refine (targetValid_c _ _).mono ?_; rintro e w' ⟨rfl, rfl⟩
      go_wp2_with fail
      go_ret
      exact ⟨ret_i hr.out.symm, hb1⟩
  · have h' : cellB l = false := by simpa using h1
    have hr := Lib.hid (timeR_no1 (t := t) h')
    clear h1
    go_enter Try.func31, Try.ntmps31
    go_wp2_with fail
    refine (CellValid_c h hc).mono ?_; rintro e w1 ⟨rfl, hb1⟩
    rw [h']
    go_wp2_with fail
    go_ret
    exact ⟨ret_i hr.out.symm, hb1⟩

set_option maxRecDepth 100000 in
set_option maxHeartbeats 4000000 in
theorem sPowerTime_c {ao : Option Addr} {n c : Nat} {l : List Stn} {w : World} (t : Int) (h : RdS w ao n l) (hm2 : ∀ i (h : i < l.length), (l[i]'h).nm.size ≤ 1099511627776 ∧ (l[i]'h).ph.size ≤ 1099511627776) :
    Calls Try.prog 32 #[.slice ao n c, .int .i64 t] w fun e w' => e = .returned (.int .i64 (timeR l t)) ∧ Below w.heap.size w w' := by
  have hs := h.2.1
  have HN := Lib.hid h.1
  have HM := Lib.hid hm2; clear hm2
  by_cases h1 : cellB l = true
  · by_cases h2 : inB t 0 40 = true
    · have ht := inB_iff.1 h2
      have hr := Lib.hid (timeR_yes h1 h2)
      have HC := Lib.hid h1
      go_enter Try.func32, Try.ntmps32
      go_wp2_with fail
      refine (sCellValid_c h HM.out).mono ?_; rintro e w1 ⟨rfl, hb1⟩
      rw [h1]
      have h3 := h.below hb1
      clear h h1
      go_wp2_with fail
      refine (l8Target_c _ _).mono ?_; rintro e w' ⟨rfl, rfl⟩
      rw [h2]
      clear h2
      go_wp2_with fail
      go_loopw [5, 6] (fun m i wr => ∃ k : Nat, k ≤ n ∧ i = .int .i64 k ∧ m = .int .i64 (timeT l t k) ∧ Below w.heap.size w wr ∧ Below w1.heap.size w1 wr) (fun _ i _ => n - (intOf i).toNat)
      case atStart => exact ⟨0, Nat.zero_le _, rfl, rfl, hb1, Below.refl _ _⟩
      case round =>
        obtain ⟨k, hk, rfl, rfl, hb, hb'⟩ := hrel
        obtain ⟨tb0, tb1⟩ := timeT_bd HC.out ht k
        have hz := hb.size
        by_cases hlt : k < n
        · obtain ⟨bk, off, rfl, hl, hc0, hc1, hc2, hc3⟩ := (h3.below hb').at hlt
          have HS := Lib.hid (timeT_succ (t := t) hl)
          obtain ⟨hg, hll⟩ := stB_ranges (cellB_st HC.out hl)
          obtain ⟨hq0, hq1⟩ := goalS_bd (s := l[k]) ht hll
          have HQ := Lib.hid (show min (t * l[k].l) 1000 = goalS t l[k] from rfl)
          have HP := Lib.hid (show gapS t l[k] = max (l[k].g - goalS t l[k]) (-(l[k].g - goalS t l[k])) from rfl)
          by_cases hsg : 0 ≤ l[k].g - goalS t l[k]
          all_goals
            have hwr : IntKind.i64.wrap (l[k].g - goalS t l[k]) = l[k].g - goalS t l[k] := IntWalk.i64_in _ (by omega)
            go_wp2_with fail
            go_region_held3 (fun w' => w'.cell? ⟨bk, off + k * 4, none⟩ = some (.string l[k].nm) ∧ w'.cell? ⟨bk, off + k * 4 + 1, none⟩ = some (.string l[k].ph) ∧ w'.cell? ⟨bk, off + k * 4 + 2, none⟩ = some (.int .i64 l[k].g) ∧ w'.cell? ⟨bk, off + k * 4 + 3, none⟩ = some (.int .i64 l[k].l)) (first | exact ⟨hc0, hc1, hc2, hc3⟩ | exact ⟨e0, e1, e2, e3⟩) (first | (go_at_call 70; refine (l8Goal_c _ _ _ _ _ _ ht hll).mono ?_; rintro e w2 ⟨rfl, hb2⟩; rw [HQ.out]; have e0 := (hb2.cell (lt_of_cell hc0)).trans hc0; have e1 := (hb2.cell (lt_of_cell hc1)).trans hc1; have e2 := (hb2.cell (lt_of_cell hc2)).trans hc2; have e3 := (hb2.cell (lt_of_cell hc3)).trans hc3))
            have hb3 : Below wr.heap.size wr w2 := (Below.drew (Below.refl _ _)).trans (hb2.mono (by simp))
            have hb4 := hb.trans (hb3.mono hb.size)
            have hb5 := hb'.trans (hb3.mono hb'.size)
            clear hb2 hb3 hc0 hc1 hc2 hc3 hwr
            go_wp2_with fail
            all_goals
              go_roundw
              case rel => exact ⟨k + 1, by omega, by go_num, by rw [HS.out, HP.out]; go_num, hb4, hb5⟩
              case measure => simp [intOf]; omega
        · have hkl : k = l.length := by have := HN.out; omega
          have hr2 := Lib.hid (show timeT l t k = timeR l t by rw [hr.out, hkl])
          clear hkl
          go_wp2_with fail
          go_ret
          exact ⟨ret_i hr2.out, hb⟩
    · have h2' : inB t 0 40 = false := by simpa using h2
      have hr := Lib.hid (timeR_no2 (l := l) h2')
      clear h2
      go_enter Try.func32, Try.ntmps32
      go_wp2_with fail
      refine (sCellValid_c h HM.out).mono ?_; rintro e w1 ⟨rfl, hb1⟩
      rw [h1]
      go_wp2_with fail
      refine (l8Target_c _ _).mono ?_; rintro e w' ⟨rfl, rfl⟩
      go_wp2_with fail
      go_ret
      exact ⟨ret_i hr.out.symm, hb1⟩
  · have h' : cellB l = false := by simpa using h1
    have hr := Lib.hid (timeR_no1 (t := t) h')
    clear h1
    go_enter Try.func32, Try.ntmps32
    go_wp2_with fail
    refine (sCellValid_c h HM.out).mono ?_; rintro e w1 ⟨rfl, hb1⟩
    rw [h']
    go_wp2_with fail
    go_ret
    exact ⟨ret_i hr.out.symm, hb1⟩

end Go.Proofs.Ytklbdkbaldkkpaa
