/- CellValid of the program. No condition beyond lengths. -/
import Derived.Test.YtdedcablhahbnaaDoorCv
namespace Go.Proofs.YtdedcablhahbnaaDoor
open Go.RowKit

theorem idxS_eq {l : List Stn} {nm : ByteArray} {k : Nat} (h : idxS l nm = k) : ∀ j (_ : j < k) (hj : j < l.length), (l[j].nm.toList == nm.toList) = false := by
  intro j hj hl
  unfold idxS at h
  cases hf : l.findIdx? (fun s => s.nm.toList == nm.toList) with
  | none => rw [hf] at h; simp at h
  | some i =>
    rw [hf] at h
    have hi : i = k := by have e : (i : Int) = k := h; omega
    subst hi
    obtain ⟨_, _, h2⟩ := List.findIdx?_eq_some_iff_getElem.1 hf
    simpa using h2 j hj
theorem idxS_ne {l : List Stn} {k : Nat} (hk : k < l.length) (h : idxS l l[k].nm ≠ k) : ∃ j, j < k ∧ ∃ hj : j < l.length, (l[j].nm.toList == l[k].nm.toList) = true := by
  unfold idxS at h
  cases hf : l.findIdx? (fun s => s.nm.toList == l[k].nm.toList) with
  | none =>
    rw [List.findIdx?_eq_none_iff] at hf
    have := hf l[k] (List.getElem_mem hk)
    simp at this
  | some i =>
    rw [hf] at h
    obtain ⟨hi, h1, h2⟩ := List.findIdx?_eq_some_iff_getElem.1 hf
    refine ⟨i, ?_, hi, h1⟩
    rcases Nat.lt_trichotomy i k with h3 | h3 | h3
    · exact h3
    · subst h3; exact absurd rfl h
    · have := h2 k h3; simp at this
theorem stB_path {nm ph : ByteArray} {g l : Int} (h : stB nm ph g l = true) : pathB ph = true := by
  unfold stB at h; simp only [Bool.and_eq_true] at h; exact h.1.1.2
theorem okT_path {l : List Stn} {i j : Nat} (h : okT l i = true) (hj : j < i) (hl : j < l.length) : pathB l[j].ph = true := by
  unfold okT at h
  rw [List.all_eq_true] at h
  have := h j (List.mem_range.2 hj)
  unfold goodAt at this
  rw [Bool.and_eq_true, getD_stn hl] at this
  exact stB_path this.1

set_option maxRecDepth 100000 in
set_option maxHeartbeats 4000000 in
theorem CellValid_c {ao : Option Addr} {n c : Nat} {l : List Stn} {w : World} (h : RdS w ao n l) (hc : n ≤ c) :
    Calls Tryd.prog 7 #[.slice ao n c] w fun e w' => e = .returned (.bool (cellB l)) ∧ Below w.heap.size w w' := by
  have hs := h.2.1
  have hn := h.1
  by_cases h8 : (8 : Int) < (n : Int)
  · have hr := Lib.hid (cellB_long (l := l) (by omega))
    clear hn
    go_enter Tryd.func7, Tryd.ntmps7
    go_wp2
    go_ret
    exact ⟨ret_b hr.out.symm, Below.refl _ _⟩
  · have HN := Lib.hid hn; clear hn
    go_enter Tryd.func7, Tryd.ntmps7
    go_wp2
    go_loopw [12] (fun i wr => ∃ k : Nat, k ≤ n ∧ i = .int .i64 k ∧ okT l k = true ∧ Below w.heap.size w wr) (fun i _ => n - (intOf i).toNat)
    case atStart => exact ⟨0, Nat.zero_le _, rfl, rfl, Below.refl _ _⟩
    case round =>
      obtain ⟨k, hk, rfl, hok, hb⟩ := hrel
      have HO := Lib.hid hok; clear hok
      obtain ⟨wo, rfl⟩ : ∃ wo : World, wo = wr := ⟨_, rfl⟩
      by_cases hlt : k < n
      · have h2 := h.below hb
        obtain ⟨bk, off, rfl, hl, hc0, hc1, hc2, hc3⟩ := h2.at hlt
        have hG := getD_stn hl
        have hz := hb.size
        have hB0 : Below wo.heap.size wo (wo.alloc (.cells #[.string l[k].nm, .string l[k].ph, .int .i64 l[k].g, .int .i64 l[k].l] 37)) := (Below.refl _ _).alloc (Nat.le_refl _) _
        have hBx := Box.new wo #[.string l[k].nm, .string l[k].ph, .int .i64 l[k].g, .int .i64 l[k].l] 37
        have hb1 := hb.trans (hB0.mono hz)
        have h3 := h2.below hB0
        clear h h2
        by_cases hv : stB l[k].nm l[k].ph l[k].g l[k].l = true
        · have HP := Lib.hid (stB_path hv)
          by_cases hx : idxS l l[k].nm = k
          · have HI := Lib.hid (idxS_eq hx)
            go_wp2_with fail
            refine (stationValid_c _ _ _ _ _).mono ?_; rintro e w2 ⟨rfl, hb2⟩
            rw [hv]
            have hB2 := hBx.below hb2 (by simp)
            have h4 := h3.below hb2
            have hb3 := hb1.trans (hb2.mono (by simp; omega))
            have hz2 : wo.heap.size < w2.heap.size := hB2.lt
            have x0 := hB2.cell (i := 0) rfl
            have x1 := hB2.cell (i := 1) rfl
            clear hb1 hb2 hBx h3 hc0 hc1 hc2 hc3 hB0 hb
            go_wp2_with fail
            refine (stationIndex_c _ h4).mono ?_; rintro e w3 ⟨rfl, hb4⟩
            rw [hx]
            have hB3 := hB2.below hb4 hz2
            have h5 := h4.below hb4
            have hb5 := hb3.trans (hb4.mono (by omega))
            have hz3 : wo.heap.size < w3.heap.size := hB3.lt
            clear x0 x1 hB2 h4 hb3 hb4
            have x1 := hB3.cell (i := 1) rfl
            go_wp2_with fail
            go_loopw [32] (fun i wr => ∃ j : Nat, j ≤ k ∧ i = .int .i64 j ∧ apT l k j = true ∧ Below w3.heap.size w3 wr) (fun i _ => k - (intOf i).toNat)
            case atStart => exact ⟨0, Nat.zero_le _, rfl, rfl, Below.refl _ _⟩
            case round =>
              clear x1
              obtain ⟨j, hj, rfl, hap, hbq⟩ := hrel
              have HA := Lib.hid hap; clear hap
              have hB4 := hB3.below hbq hz3
              have hb6 := hb5.trans (hbq.mono (by have := hb5.size; omega))
              clear hb5
              by_cases hltj : j < k
              · have h6 := h5.below hbq
                obtain ⟨bk2, off2, heq, hl2, hd0, hd1, hd2, hd3⟩ := h6.at (show j < n by omega)
                obtain ⟨rfl, rfl⟩ : bk = bk2 ∧ off = off2 := by simpa using heq
                clear h5 h6 heq
                have x1 := hB4.cell (i := 1) rfl
                have hz4 := hB4.lt
                have HP2 := Lib.hid (okT_path HO.out hltj hl2)
                have hG2 := getD_stn hl2
                have hb7 : Below w.heap.size w (wr.alloc (.cells #[.string l[j].nm, .string l[j].ph, .int .i64 l[j].g, .int .i64 l[j].l] 37)) := hb6.alloc hb6.size _
                have hb8 : Below w3.heap.size w3 (wr.alloc (.cells #[.string l[j].nm, .string l[j].ph, .int .i64 l[j].g, .int .i64 l[j].l] 37)) := hbq.alloc hbq.size _
                by_cases hcf : confB l[k].ph l[j].ph = true
                · have hr := Lib.hid (cellB_bad hl (goodAt_clash hltj (by unfold apart; rw [hG, hG2, confB_comm, hcf]; simp)))
                  clear hG hG2
                  go_wp2_with fail
                  refine (TreeConflict_c _ _ _ HP.out HP2.out).mono ?_; rintro e w4 ⟨rfl, rfl⟩
                  rw [hcf]
                  clear x1 hd0 hd1 hd2 hd3 hcf
                  go_wp2_with fail
                  go_ret
                  exact ⟨ret_b hr.out.symm, hb7⟩
                · have hcf' : confB l[k].ph l[j].ph = false := by simpa using hcf
                  have HT := Lib.hid (apT_succ HA.out (show apart l k j = true by unfold apart; rw [hG, hG2, confB_comm, hcf', HI.out j hltj hl2]; rfl))
                  clear hG hG2 hcf
                  go_wp2_with fail
                  refine (TreeConflict_c _ _ _ HP.out HP2.out).mono ?_; rintro e w4 ⟨rfl, rfl⟩
                  rw [hcf']
                  clear x1 hd0 hd1 hd2 hd3 hcf'
                  go_wp2_with fail
                  go_roundw
                  case rel => exact ⟨j + 1, by omega, by go_num, HT.out, hb8⟩
                  case measure => simp [intOf]; omega
              · have HT := Lib.hid (okT_succ HO.out (goodAt_yes (by rw [hG]; exact hv) ((show k = j by omega) ▸ HA.out)))
                clear hG
                go_wp2
                go_roundw
                case rel => exact ⟨k + 1, by omega, by go_num, HT.out, hb6⟩
                case measure => simp [intOf]; omega
          · obtain ⟨j, hj, hl2, hn2⟩ := idxS_ne hl hx
            have hG2 := getD_stn hl2
            have hr := Lib.hid (cellB_bad hl (goodAt_clash hj (by unfold apart; rw [hG, hG2, hn2]; rfl)))
            have hx' : (idxS l l[k].nm != (k : Int)) = true := by simpa using hx
            clear hG hG2 hx hn2
            go_wp2_with fail
            refine (stationValid_c _ _ _ _ _).mono ?_; rintro e w2 ⟨rfl, hb2⟩
            rw [hv]
            have hB2 := hBx.below hb2 (by simp)
            have h4 := h3.below hb2
            have hb3 := hb1.trans (hb2.mono (by simp; omega))
            have hz2 : wo.heap.size < w2.heap.size := hB2.lt
            have x0 := hB2.cell (i := 0) rfl
            clear hb1 hb2 hBx h3 hc0 hc1 hc2 hc3 hB0 hb
            go_wp2_with fail
            refine (stationIndex_c _ h4).mono ?_; rintro e w3 ⟨rfl, hb4⟩
            have hb5 := hb3.trans (hb4.mono (by omega))
            clear x0 hB2 h4 hb3 hb4
            go_wp2_with fail
            go_ret
            exact ⟨ret_b hr.out.symm, hb5⟩
        · have hv' : stB l[k].nm l[k].ph l[k].g l[k].l = false := by simpa using hv
          have hr := Lib.hid (cellB_bad hl (goodAt_inv (by rw [hG]; exact hv')))
          clear hv hG
          go_wp2_with fail
          refine (stationValid_c _ _ _ _ _).mono ?_; rintro e w2 ⟨rfl, hb2⟩
          rw [hv']
          have hb3 := hb1.trans (hb2.mono (by simp; omega))
          clear hb1 hb2 hBx hc0 hc1 hc2 hc3 hv'
          go_wp2_with fail
          go_ret
          exact ⟨ret_b hr.out.symm, hb3⟩
      · have hr := Lib.hid (cellB_good (l := l) HO.out (by have := HN.out; omega) (by have := HN.out; omega))
        go_wp2
        go_ret
        exact ⟨ret_b hr.out.symm, hb⟩

end Go.Proofs.YtdedcablhahbnaaDoor
