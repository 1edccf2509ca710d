/- CellValid of the reference. No condition beyond lengths. -/
import Derived.Test.YtdedcablhahbnaaDoorCx
namespace Go.Proofs.YtdedcablhahbnaaDoor
open Go.RowKit

theorem quietS_qw {P : Program} {f : FuncId} {args : Array Value} {w : World} {n : Nat} {v : Value}
    (h : Calls P f args (w.drewN n) fun e w' => e = .returned v ∧ Qw (w.drewN n) w') : Calls P f args (w.drewN n) fun e w'' => e = .returned v ∧ ∃ m, w'' = w.drewN m :=
  h.mono fun _ _ ⟨he, m, hm⟩ => ⟨he, n + m, by rw [hm, World.drewN_drewN]⟩

set_option maxRecDepth 100000 in
set_option maxHeartbeats 4000000 in
theorem sCellValid_c {ao : Option Addr} {n c : Nat} {l : List Stn} {w : World} (h : RdS w ao n l) (hm2 : ∀ i (h : i < l.length), (l[i]'h).nm.size ≤ 1099511627776 ∧ (l[i]'h).ph.size ≤ 1099511627776) :
    Calls Tryd.prog 17 #[.slice ao n c] w fun e w' => e = .returned (.bool (cellB l)) ∧ Below w.heap.size w w' := by
  have hs := h.2.1
  have HN := Lib.hid h.1
  have HM := Lib.hid hm2; clear hm2
  go_enter Tryd.func17, Tryd.ntmps17
  go_wp2
  go_loopw [3] (fun i wr => ∃ k : Nat, k ≤ n ∧ i = .int .i64 k ∧ okT l k = true ∧ Below w.heap.size w wr) (fun i _ => n - (intOf i).toNat)
  case atStart => exact ⟨0, Nat.zero_le _, rfl, rfl, Below.refl _ _⟩
  case round =>
    obtain ⟨k, hk, rfl, hok, hb⟩ := hrel
    have HO := Lib.hid hok; clear hok
    obtain ⟨wo, rfl⟩ : ∃ wo : World, wo = wr := ⟨_, rfl⟩
    by_cases hlt : k < n
    · have h2 := h.below hb
      obtain ⟨bk, off, rfl, hl, hc0, hc1, hc2, hc3⟩ := h2.at hlt
      have hG := getD_stn hl
      have hz := hb.size
      have hsk := HM.out k hl
      clear h
      by_cases hv : stB l[k].nm l[k].ph l[k].g l[k].l = true
      · go_wp2_with fail
        refine (l8Station_c _ _ _ _ _ hsk.1 hsk.2).mono ?_; rintro e w2 ⟨rfl, hb2⟩
        rw [hv]
        have h3 := h2.below hb2
        have hb3 := hb.trans (hb2.mono hz)
        clear hc0 hc1 hc2 hc3 h2 hb hb2
        go_wp2_with fail
        go_loopw [4] (fun i wr => ∃ j : Nat, j ≤ k ∧ i = .int .i64 j ∧ apT l k j = true ∧ Qw w2 wr) (fun i _ => k - (intOf i).toNat)
        case atStart => exact ⟨0, Nat.zero_le _, rfl, rfl, Qw.refl _⟩
        case round =>
          obtain ⟨j, hj, rfl, hap, hq⟩ := hrel
          have HA := Lib.hid hap; clear hap
          have h4 := h3.qw hq
          have hb4 := hb3.trans ((hq.below w2.heap.size).mono hb3.size)
          clear h3
          by_cases hltj : j < k
          · obtain ⟨bk2, off2, heq, hl2, hd0, hd1, hd2, hd3⟩ := h4.at (show j < n by omega)
            obtain ⟨rfl, rfl⟩ : bk = bk2 ∧ off = off2 := by simpa using heq
            obtain ⟨bk2, off2, heq, _, hc0, hc1, hc2, hc3⟩ := h4.at hlt
            obtain ⟨rfl, rfl⟩ : bk = bk2 ∧ off = off2 := by simpa using heq
            clear h4 heq
            have hG2 := getD_stn hl2
            have hsj := HM.out j hl2
            by_cases hnm : (l[j].nm.toList == l[k].nm.toList) = true
            · have hr := Lib.hid (cellB_bad hl (goodAt_clash hltj (by unfold apart; rw [hG, hG2, hnm]; rfl)))
              clear hG hG2
              go_wp2_with fail
              go_quiet (fail)
              go_wp2_with fail
              go_ret
              exact ⟨ret_b hr.out.symm, below_drewN hb4 _⟩
            · have hnm' : (l[j].nm.toList == l[k].nm.toList) = false := by simpa using hnm
              by_cases hcf : confB l[j].ph l[k].ph = true
              · have hr := Lib.hid (cellB_bad hl (goodAt_clash hltj (by unfold apart; rw [hG, hG2, hcf]; simp)))
                clear hG hG2 hnm
                go_wp2_with fail
                go_quiet ((first | (go_at_call 37; exact quietS_qw (l3Conflict_c _ _ _ hsj.2 hsk.2))))
                rw [hcf]
                go_wp2_with fail
                go_ret
                exact ⟨ret_b hr.out.symm, below_drewN hb4 _⟩
              · have hcf' : confB l[j].ph l[k].ph = false := by simpa using hcf
                have HT := Lib.hid (apT_succ HA.out (show apart l k j = true by unfold apart; rw [hG, hG2, hcf', hnm']; rfl))
                clear hG hG2 hcf hnm
                go_wp2_with fail
                go_quiet ((first | (go_at_call 37; exact quietS_qw (l3Conflict_c _ _ _ hsj.2 hsk.2))))
                rw [hcf']
                go_wp2_with fail
                go_roundw
                case rel => exact ⟨j + 1, by omega, by go_num, HT.out, hq.trans (Qw.drewN _ _)⟩
                case measure => simp [intOf]; omega
          · have hA2 : apT l k k = true := by
              have h9 := HA.out
              rw [show j = k by omega] at h9
              exact h9
            have HT := Lib.hid (okT_succ HO.out (goodAt_yes (by rw [hG]; exact hv) hA2))
            clear hA2 hG
            go_wp2
            go_roundw
            case rel => exact ⟨k + 1, by omega, by go_num, HT.out, hb4⟩
            case measure => simp [intOf]; omega
      · have hv' : stB l[k].nm l[k].ph l[k].g l[k].l = false := by simpa using hv
        have hr := Lib.hid (cellB_bad hl (goodAt_inv (by rw [hG]; exact hv')))
        clear hv hG
        go_wp2_with fail
        refine (l8Station_c _ _ _ _ _ hsk.1 hsk.2).mono ?_; rintro e w2 ⟨rfl, hb2⟩
        rw [hv']
        have hb3 := hb.trans (hb2.mono hz)
        clear hb hb2 hc0 hc1 hc2 hc3 hv' h2
        go_wp2_with fail
        go_ret
        exact ⟨ret_b hr.out.symm, hb3⟩
    · have hkl : k = l.length := by have := HN.out; omega
      have hr0 : cellB l = decide ((n : Int) ≤ 8) := by
        unfold cellB
        rw [← hkl, HO.out, Bool.and_true, hkl, ← HN.out]
        exact decide_eq_decide.2 (by omega)
      have hr := Lib.hid hr0
      clear hkl hr0
      go_wp2
      go_ret
      exact ⟨ret_b hr.out.symm, hb⟩

end Go.Proofs.YtdedcablhahbnaaDoor
