/- WorstCollisions of the reference. No condition beyond lengths. -/
import Derived.Test.YtklbdkbaldkkpaaWc
import Derived.Deep.RegionHeld3
namespace Go.Proofs.Ytklbdkbaldkkpaa
open Go.RowKit

set_option maxRecDepth 100000 in
set_option maxHeartbeats 1600000 in
theorem sWorstCollisions_c {ao : Option Addr} {n c : Nat} {rs : List RowI} {w : World} (h : RdM w ao n rs) :
    Calls Try.prog 28 #[.slice ao n c] w fun e w' => ∃ v, e = .returned (.int .i64 v) ∧ WPost (nums rs) v ∧ Qw w w' := by
  have hs := h.1.2.1
  have HLN := Lib.hid (show (nums rs).length = n by rw [nums_len, h.1.1])
  by_cases h8 : 8 < n
  · have hno := Lib.hid (wpost_no (allOk_long (L := nums rs) (by rw [HLN.out]; exact h8)))
    have h8' : (8 : Int) < (n : Int) := by omega
    go_enter Try.func28, Try.ntmps28
    go_wp2
    go_ret
    exact ⟨-1, rfl, hno.out, Qw.refl _⟩
  · have h8' : ¬ (8 : Int) < (n : Int) := by omega
    have HAT := Lib.hid (fun i (hi : i < rs.length) => @nums_at rs i hi (by rw [nums_len]; exact hi))
    have HGD := Lib.hid (fun i (hi : i < rs.length) => @nums_getD rs i hi)
    go_enter Try.func28, Try.ntmps28
    go_wp2
    go_loopw [3, 4] (fun v i wr => ∃ (a : Nat) (x : Int), a ≤ n ∧ i = .int .i64 a ∧ v = .int .i64 x ∧ Hid ((∀ y (_ : y < a) (hl : y < (nums rs).length), rowB (hd (nums rs)) (nums rs)[y] = true) ∧ Best (mt (nums rs)) (fun i j k => j < i ∧ i < a ∧ k < (hd (nums rs)).length) x) ∧ Qw w wr) (fun _ i _ => n - (intOf i).toNat)
    case atStart => exact ⟨0, 0, Nat.zero_le _, rfl, rfl, Lib.hid ⟨fun y hy => absurd hy (by omega), Best.none (fun i j k h => by omega)⟩, Qw.refl _⟩
    case round =>
      obtain ⟨a, x, ha, rfl, rfl, HI, hq⟩ := hrel
      obtain ⟨wo, hwo⟩ : ∃ wo : World, wo = wr := ⟨_, rfl⟩
      subst hwo
      by_cases hlt : a < n
      · have hA := h.qw (hq.trans (Qw.drewN _ 1))
        obtain ⟨b1, o1, rfl, hl, hc⟩ := (h.qw hq).1.at hlt
        obtain ⟨b2, o2, he, hl0, hc0⟩ := (h.qw hq).1.at (show 0 < n by omega)
        cases he
        rw [Nat.add_zero] at hc0
        have hR := (hA.2 _ (List.getElem_mem hl)).1
        have hR0 := (hA.2 _ (List.getElem_mem hl0)).1
        unfold RowI.v at hc hc0
        have hn0 : (0 : Int) < (n : Int) := by omega
        have hn1 : 0 < n := by omega
        have hn2 : ¬ n = 0 := by omega
        have hn3 : ¬ (n : Int) ≤ 0 := by omega
        have hc0' : wo.cell? ({ block := b1, off := o1 } : Addr) = some (.slice rs[0].ao rs[0].n rs[0].c) := hc0
        have HH0 := Lib.hid (show hd (nums rs) = rs[0].l from HGD.out 0 hl0)
        clear hA
        go_wp2_with fail
        go_still_tail 7, (by kernel_rfl)
        go_wp2_with fail
        refine (sHopCollisions_c 0 hR hR0).mono ?_; rintro e w2 ⟨rfl, hq2⟩
        have hq3 := (hq.trans (Qw.drewN _ 1)).trans hq2
        by_cases hcol : colOk rs[a].l rs[0].l = true
        · have HC := Lib.hid (colHops_yes (k := 0) hcol)
          have HRW := Lib.hid (show rowB (hd (nums rs)) rs[a].l = true by rw [HH0.out]; exact col_rowB hcol)
          have hge : ¬ colHops rs[a].l rs[0].l 0 < 0 := by rw [HC.out]; omega
          clear hcol hc hc0 hR hR0 hq2
          go_wp2_with fail
          have HA1 := Lib.hid (show ∀ y (_ : y < a + 1) (hy : y < (nums rs).length), rowB (hd (nums rs)) (nums rs)[y] = true from fun y hy hy2 => by
            rcases Nat.lt_succ_iff_lt_or_eq.1 hy with hy | rfl
            · exact HI.out.1 y hy hy2
            · rw [HAT.out y hl]; exact HRW.out)
          have HD := Lib.hid (show (hd (nums rs)).length = rs[0].n by rw [HH0.out]; exact (h.2 _ (List.getElem_mem hl0)).1.1.symm)
          have hbig := (h.2 _ (List.getElem_mem hl0)).1.2.1
          go_loopw [3, 5] (fun v j wr => ∃ (b : Nat) (y : Int), b ≤ a ∧ j = .int .i64 b ∧ v = .int .i64 y ∧ Hid (Best (mt (nums rs)) (fun i j k => (j < i ∧ i < a ∧ k < (hd (nums rs)).length) ∨ (i = a ∧ j < b ∧ k < (hd (nums rs)).length)) y) ∧ Qw w wr) (fun _ j _ => a - (intOf j).toNat)
          case atStart => exact ⟨0, x, Nat.zero_le _, rfl, rfl, Lib.hid (HI.out.2.same (fun i j k => by omega)), hq3⟩
          case round =>
            obtain ⟨b, y, hb, rfl, rfl, HY, hqb⟩ := hrel
            obtain ⟨w3, hw3⟩ : ∃ w3 : World, w3 = wr := ⟨_, rfl⟩
            subst hw3
            by_cases hlb : b < a
            · go_wp2_with fail
              go_loopw [3, 6] (fun v k wr => ∃ (q : Nat) (z : Int), q ≤ rs[0].n ∧ k = .int .i64 q ∧ v = .int .i64 z ∧ Hid (Best (mt (nums rs)) (fun i j k => ((j < i ∧ i < a ∧ k < (hd (nums rs)).length) ∨ (i = a ∧ j < b ∧ k < (hd (nums rs)).length)) ∨ (i = a ∧ j = b ∧ k < q)) z) ∧ Qw w wr) (fun _ k _ => rs[0].n - (intOf k).toNat)
              case atStart => exact ⟨0, y, Nat.zero_le _, rfl, rfl, Lib.hid (HY.out.same (fun i j k => by omega)), hqb⟩
              case round =>
                obtain ⟨q, z, hqn, rfl, rfl, HZ, hqc⟩ := hrel
                obtain ⟨w4, hw4⟩ : ∃ w4 : World, w4 = wr := ⟨_, rfl⟩
                subst hw4
                obtain ⟨b3, o3, he, hl3, hc3⟩ := (h.qw hqc).1.at (show 0 < n by omega)
                cases he
                rw [Nat.add_zero] at hc3
                unfold RowI.v at hc3
                by_cases hlq : q < rs[0].n
                · obtain ⟨b4, o4, he, hl4, hc4⟩ := (h.qw hqc).1.at hlt
                  cases he
                  obtain ⟨b5, o5, he, hl5, hc5⟩ := (h.qw hqc).1.at (show b < n by omega)
                  cases he
                  unfold RowI.v at hc4 hc5
                  have hbn : b < n := by omega
                  have hRa := ((h.qw (hqc.trans (Qw.drewN _ 1))).2 _ (List.getElem_mem hl4)).1
                  have hRb := ((h.qw (hqc.trans (Qw.drewN _ 1))).2 _ (List.getElem_mem hl5)).1
                  have hpos : 0 < rs[b].n := by
                    have h1 := HA1.out b (by omega) (by rw [HLN.out]; omega)
                    rw [HAT.out b hl5] at h1
                    rw [hRb.1]; exact (rowB_parts h1).2.1
                  have HMT := Lib.hid (show mt (nums rs) a b q = (meet rs[a].l rs[b].l (q : Int) : Nat) by unfold mt; rw [HGD.out a hl4, HGD.out b hl5])
                  go_wp2_with fail
                  go_region_held3 (fun w' => w'.cell? ⟨b1, o1 + a, none⟩ = some (.slice rs[a].ao rs[a].n rs[a].c) ∧ w'.cell? ⟨b1, o1 + b, none⟩ = some (.slice rs[b].ao rs[b].n rs[b].c)) (first | exact ⟨hc4, hc5⟩ | exact ⟨e4, e5⟩) (first | (go_at_call 80; refine (l7Meet_c (q : Int) hRa hRb hpos).mono ?_; rintro e w5 ⟨rfl, hq5⟩; have hb5 := hq5.below w4.heap.size; have e4 := (hb5.cell (lt_of_cell hc4)).trans hc4; have e5 := (hb5.cell (lt_of_cell hc5)).trans hc5))
                  have hq6 := (hqc.trans (Qw.drewN _ 1)).trans hq5
                  generalize hmx : (if z < ((meet rs[a].l rs[b].l (q : Int) : Nat) : Int) then ((meet rs[a].l rs[b].l (q : Int) : Nat) : Int) else z) = y2
                  have HX := Lib.hid (show y2 = max z (mt (nums rs) a b q) by rw [HMT.out, ← hmx]; split <;> omega)
                  clear hmx
                  go_wp2_with fail
                  go_roundw
                  case rel => exact ⟨q + 1, y2, by omega, by go_num, rfl, Lib.hid ((HZ.out.step a b q HX.out).same (fun i j k => by omega)), hq6⟩
                  case measure => simp [intOf]; omega
                · obtain rfl : q = rs[0].n := by omega
                  go_wp2_with fail
                  go_roundw
                  case rel => exact ⟨b + 1, z, by omega, by go_num, rfl, Lib.hid (HZ.out.same (fun i j k => by have := HD.out; omega)), hqc⟩
                  case measure => simp [intOf]; omega
            · obtain rfl : b = a := by omega
              go_wp2_with fail
              go_roundw
              case rel => exact ⟨b + 1, y, by omega, by go_num, rfl, Lib.hid ⟨HA1.out, HY.out.same (fun i j k => by omega)⟩, hqb⟩
              case measure => simp [intOf]; omega
        · have HC := Lib.hid (colHops_no (k := 0) (show colOk rs[a].l rs[0].l = false by simpa using hcol))
          have hno := Lib.hid (show WPost (nums rs) (-1) from wpost_no (allOk_bad (i := a) (by rw [HLN.out]; exact hlt) (by
            rw [HAT.out a hl]
            by_cases hr : rowB (hd (nums rs)) rs[a].l = true
            · exfalso; apply hcol
              rw [HH0.out] at hr
              by_cases ha0 : a = 0
              · subst ha0; exact rowB_col hr hr
              · have h0 := HI.out.1 0 (by omega) (by rw [HLN.out]; omega)
                rw [HAT.out 0 hl0, HH0.out] at h0
                exact rowB_col hr h0
            · simpa using hr)))
          rw [HC.out]
          clear hcol
          go_wp2_with fail
          go_ret
          exact ⟨-1, rfl, hno.out, hq3⟩
      · obtain rfl : a = n := by omega
        have hyes := Lib.hid (show WPost (nums rs) x by
          have hok : allOk (nums rs) = true := allOk_yes (by rw [HLN.out]; omega) (fun i hi => HI.out.1 i (by rw [← HLN.out]; exact hi) hi)
          unfold WPost; rw [if_pos hok, HLN.out]; exact HI.out.2)
        go_wp2_with fail
        go_ret
        exact ⟨x, rfl, hyes.out, hq⟩

end Go.Proofs.Ytklbdkbaldkkpaa
