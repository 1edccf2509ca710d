/- WorstCollisions of the program. No condition beyond lengths. -/
import Derived.Test.YtklbdkbaldkkpaaWm
import Derived.Test.YtklbdkbaldkkpaaHj
namespace Go.Proofs.Ytklbdkbaldkkpaa
open Go.RowKit

theorem rowB_no1 {h0 h : List Int} (h1 : hopsB h 16 = false) : rowB h0 h = false := by unfold rowB; rw [h1]; rfl
theorem rowB_no2 {h0 h : List Int} (h1 : h.length = 0) : rowB h0 h = false := by unfold rowB; rw [decide_eq_false (show ¬ 0 < h.length by omega)]; simp
theorem rowB_no3 {h0 h : List Int} (h1 : h.length ≠ h0.length) : rowB h0 h = false := by unfold rowB; rw [decide_eq_false h1]; simp
theorem rowB_ok {h0 h : List Int} (h1 : hopsB h 16 = true) (h2 : 0 < h.length) (h3 : h.length = h0.length) : rowB h0 h = true := by unfold rowB; rw [h1, decide_eq_true h2, decide_eq_true h3]; rfl

set_option maxRecDepth 100000 in
set_option maxHeartbeats 3200000 in
theorem WorstCollisions_c {ao : Option Addr} {n c : Nat} {rs : List RowI} {w : World} (h : RdM w ao n rs) (hcap : n ≤ c) :
    Calls Try.prog 27 #[.slice ao n c] w fun e w' => ∃ v, e = .returned (.int .i64 v) ∧ WPost (nums rs) v ∧ Below w.heap.size w w' := by
  have hs := h.1.2.1
  have HLN := Lib.hid (show (nums rs).length = n by rw [nums_len, h.1.1])
  by_cases h8 : 8 < n
  · have hno := Lib.hid (wpost_no (allOk_long (L := nums rs) (by rw [HLN.out]; exact h8)))
    have h8' : (8 : Int) < (n : Int) := by omega
    go_enter Try.func27, Try.ntmps27
    go_wp2
    go_ret
    exact ⟨-1, rfl, hno.out, Below.refl _ _⟩
  · have h8' : ¬ (8 : Int) < (n : Int) := by omega
    have HAT := Lib.hid (fun i (hi : i < rs.length) => @nums_at rs i hi (by rw [nums_len]; exact hi))
    have HGD := Lib.hid (fun i (hi : i < rs.length) => @nums_getD rs i hi)
    go_enter Try.func27, Try.ntmps27
    go_wp2
    go_loop [16] (fun i => ∃ a : Nat, a ≤ n ∧ i = .int .i64 a ∧ Hid (∀ y (_ : y < a) (hl : y < (nums rs).length), rowB (hd (nums rs)) (nums rs)[y] = true)) (fun i => n - (intOf i).toNat)
    case atStart => exact ⟨0, Nat.zero_le _, rfl, Lib.hid (fun y hy => absurd hy (by omega))⟩
    case round =>
      obtain ⟨a, ha, rfl, HI⟩ := hrel
      by_cases hlt : a < n
      · obtain ⟨b1, o1, rfl, hl, hc⟩ := h.1.at hlt
        obtain ⟨b2, o2, he, hl0, hc0⟩ := h.1.at (show 0 < n by omega)
        cases he
        rw [Nat.add_zero] at hc0
        have hR := (h.2 _ (List.getElem_mem hl)).1
        have hR0 := (h.2 _ (List.getElem_mem hl0)).1
        have HRN := Lib.hid hR.1
        have HR0N := Lib.hid hR0.1
        unfold RowI.v at hc hc0
        have hn0 : (0 : Int) < (n : Int) := by omega
        have hn1 : 0 < n := by omega
        have hn2 : ¬ n = 0 := by omega
        have hn3 : ¬ (n : Int) ≤ 0 := by omega
        have HH0 := Lib.hid (show hd (nums rs) = rs[0].l from HGD.out 0 hl0)
        have HNO := Lib.hid (show rowB (hd (nums rs)) rs[a].l = false → WPost (nums rs) (-1) from fun hr => wpost_no (allOk_bad (i := a) (by rw [HLN.out]; exact hlt) (by rw [HAT.out a hl]; exact hr)))
        go_wp2_with fail
        refine (isHops_c hR).mono ?_; rintro e w' ⟨rfl, rfl⟩
        by_cases hb : hopsB rs[a].l 16 = true
        · rw [hb]
          have HB := Lib.hid hb; clear hb
          by_cases hz : rs[a].n = 0
          · have hz' : ((rs[a].n : Int) == 0) = true := by simp; omega
            have hno := Lib.hid (HNO.out (rowB_no2 (by rw [← HRN.out]; exact hz)))
            clear hz
            go_wp2_with fail
            go_ret
            exact ⟨-1, rfl, hno.out, Below.refl _ _⟩
          · have hz' : ((rs[a].n : Int) == 0) = false := by simp; omega
            by_cases hq : rs[a].n = rs[0].n
            · have hq' : ((rs[a].n : Int) != (rs[0].n : Int)) = false := by simp; omega
              have HA1 := Lib.hid (show ∀ y (_ : y < a + 1) (hy : y < (nums rs).length), rowB (hd (nums rs)) (nums rs)[y] = true from fun y hy hy2 => by
                rcases Nat.lt_succ_iff_lt_or_eq.1 hy with hy | rfl
                · exact HI.out y hy hy2
                · rw [HAT.out y hl, HH0.out]; exact rowB_ok HB.out (by rw [← HRN.out]; omega) (by rw [← HRN.out, ← HR0N.out]; exact hq))
              clear hq
              go_wp2_with fail
              go_round
              case rel => exact ⟨a + 1, by omega, by go_num, HA1⟩
              case measure => simp [intOf]; omega
            · have hq' : ((rs[a].n : Int) != (rs[0].n : Int)) = true := by simp; omega
              have hno := Lib.hid (HNO.out (by rw [HH0.out]; exact rowB_no3 (by rw [← HRN.out, ← HR0N.out]; exact hq)))
              clear hq
              go_wp2_with fail
              go_ret
              exact ⟨-1, rfl, hno.out, Below.refl _ _⟩
        · have hb' : hopsB rs[a].l 16 = false := by simpa using hb
          have hno := Lib.hid (HNO.out (rowB_no1 hb'))
          rw [hb']
          clear hb hb'
          go_wp2_with fail
          go_ret
          exact ⟨-1, rfl, hno.out, Below.refl _ _⟩
      · obtain rfl : a = n := by omega
        have HOK := Lib.hid (show allOk (nums rs) = true from allOk_yes (by rw [HLN.out]; omega) (fun i hi => HI.out i (by rw [← HLN.out]; exact hi) hi))
        have HROW := Lib.hid (show ∀ y (hy : y < rs.length), rowB (hd (nums rs)) rs[y].l = true from fun y hy => by have := HI.out y (by rw [← HLN.out, nums_len]; exact hy) (by rw [nums_len]; exact hy); rwa [HAT.out y hy] at this)
        clear hlt ha
        go_wp2_with fail
        go_loopw [5, 40] (fun v i wr => ∃ (x : Nat) (y : Int), x ≤ a ∧ i = .int .i64 x ∧ v = .int .i64 y ∧ Hid (Best (mt (nums rs)) (fun i j k => i < j ∧ j < a ∧ k < (hd (nums rs)).length ∧ i < x) y) ∧ Below w.heap.size w wr) (fun _ i _ => a - (intOf i).toNat)
        case atStart => exact ⟨0, 0, Nat.zero_le _, rfl, rfl, Lib.hid (Best.none (fun i j k h => by omega)), Below.refl _ _⟩
        case round =>
          obtain ⟨x, y, hx, rfl, rfl, HY, hb⟩ := hrel
          obtain ⟨w3, hw3⟩ : ∃ w3 : World, w3 = wr := ⟨_, rfl⟩
          subst hw3
          by_cases hlx : x < a
          · obtain ⟨b1, o1, rfl, hl, hc⟩ := (h.below hb).1.at hlx
            unfold RowI.v at hc
            have q3 : (0 : Int) ≤ (x : Int) + 1 := by omega
            have q4 : (x : Int) + 1 ≤ (a : Int) := by omega
            have hRW0 := (h.2 _ (List.getElem_mem hl)).1.1
            have HXL := Lib.hid (show rs[x].l.length = (hd (nums rs)).length from (rowB_parts (HROW.out x hl)).2.2)
            by_cases hcl : c = x + 1
            · have hax : a = x + 1 := by omega
              have hcl' : (c : Int) = (x : Int) + 1 := by omega
              subst hcl
              subst hax
              clear hRW0
              go_wp2_with fail
              go_loopw [5, 50] (fun v i wr => i = .int .i64 0 ∧ v = .int .i64 y ∧ Below w.heap.size w wr) (fun _ _ _ => 0)
              case atStart => exact ⟨rfl, rfl, hb⟩
              case round =>
                obtain ⟨rfl, rfl, hb2⟩ := hrel
                go_wp2_with fail
                go_roundw
                case rel => exact ⟨x + 1, y, by omega, by go_num, rfl, Lib.hid (HY.out.same (fun i j k => by omega)), hb2⟩
                case measure => simp [intOf]
            · have hcl' : ¬ (c : Int) = (x : Int) + 1 := by omega
              have hcl2 : x + 1 ≤ c := by omega
              have hcl3 : (x : Int) + 1 ≤ (c : Int) := by omega
              clear hRW0
              go_wp2_with fail
              go_loopw [5, 50] (fun v i wr => ∃ (b : Nat) (z : Int), b ≤ a - (x + 1) ∧ i = .int .i64 b ∧ v = .int .i64 z ∧ Hid (Best (mt (nums rs)) (fun i j k => (i < j ∧ j < a ∧ k < (hd (nums rs)).length ∧ i < x) ∨ (i = x ∧ x < j ∧ j < x + 1 + b ∧ k < (hd (nums rs)).length)) z) ∧ Below w.heap.size w wr) (fun _ i _ => a - (x + 1) - (intOf i).toNat)
              case atStart => exact ⟨0, y, Nat.zero_le _, rfl, rfl, Lib.hid (HY.out.same (fun i j k => by omega)), hb⟩
              case round =>
                obtain ⟨b, z, hbn, rfl, rfl, HZ, hb2⟩ := hrel
                obtain ⟨w4, hw4⟩ : ∃ w4 : World, w4 = wr := ⟨_, rfl⟩
                subst hw4
                by_cases hlb : b < a - (x + 1)
                · obtain ⟨b3, o3, he, hl3, hc3⟩ := (h.below hb2).1.at (show x + 1 + b < a by omega)
                  cases he
                  unfold RowI.v at hc3
                  have hc4 : w4.cell? ⟨b1, o1 + (x + 1) + b, none⟩ = some (.slice rs[x + 1 + b].ao rs[x + 1 + b].n rs[x + 1 + b].c) := by rw [Nat.add_assoc]; exact hc3
                  have hbig := (h.2 _ (List.getElem_mem hl3)).1.2.1
                  have HBL := Lib.hid (show rs[x + 1 + b].n = (hd (nums rs)).length by rw [(h.2 _ (List.getElem_mem hl3)).1.1]; exact (rowB_parts (HROW.out _ hl3)).2.2)
                  have HCOL := Lib.hid (rowB_col (HROW.out x hl) (HROW.out _ hl3))
                  have HMT := Lib.hid (fun q : Nat => show mt (nums rs) x (x + 1 + b) q = (meet rs[x].l rs[x + 1 + b].l (q : Int) : Nat) by unfold mt; rw [HGD.out x hl, HGD.out _ hl3])
                  have HRB := Lib.hid (h.2 _ (List.getElem_mem hl3))
                  have HRX := Lib.hid (h.2 _ (List.getElem_mem hl))
                  clear hc3
                  obtain ⟨t, ht⟩ : ∃ t, t = x + 1 + b := ⟨_, rfl⟩
                  have HT := Lib.hid ht
                  generalize hrt : rs[x + 1 + b] = r at *
                  clear ht hrt
                  go_wp2_with fail
                  go_loopw [5, 56] (fun v k wr => ∃ (q : Nat) (u : Int), q ≤ r.n ∧ k = .int .i64 q ∧ v = .int .i64 u ∧ Hid (Best (mt (nums rs)) (fun i j k => ((i < j ∧ j < a ∧ k < (hd (nums rs)).length ∧ i < x) ∨ (i = x ∧ x < j ∧ j < x + 1 + b ∧ k < (hd (nums rs)).length)) ∨ (i = x ∧ j = x + 1 + b ∧ k < q)) u) ∧ Below w.heap.size w wr) (fun _ k _ => r.n - (intOf k).toNat)
                  case atStart => exact ⟨0, z, Nat.zero_le _, rfl, rfl, Lib.hid (HZ.out.same (fun i j k => by omega)), hb2⟩
                  case round =>
                    obtain ⟨q, u, hqn, rfl, rfl, HU, hb5⟩ := hrel
                    obtain ⟨w5, hw5⟩ : ∃ w5 : World, w5 = wr := ⟨_, rfl⟩
                    subst hw5
                    by_cases hlq : q < r.n
                    · have HC := Lib.hid (colHops_yes (k := (q : Int)) HCOL.out)
                      go_wp2_with fail
                      refine (HopCollisions_c (q : Int) (HRX.out.1.below hb5) (HRB.out.1.below hb5) HRB.out.2).mono ?_; rintro e w6 ⟨rfl, hb6⟩
                      rw [HC.out]
                      have hb7 := hb5.trans (hb6.mono hb5.size)
                      go_wp2_with fail
                      generalize hmx : (if u < ((meet rs[x].l r.l (q : Int) : Nat) : Int) then ((meet rs[x].l r.l (q : Int) : Nat) : Int) else u) = y2
                      have HX := Lib.hid (show y2 = max u (mt (nums rs) x (x + 1 + b) q) by rw [HMT.out, ← hmx]; split <;> omega)
                      clear hmx
                      go_roundw
                      case rel => exact ⟨q + 1, y2, by omega, by go_num, rfl, Lib.hid ((HU.out.step x (x + 1 + b) q HX.out).same (fun i j k => by omega)), hb7⟩
                      case measure => simp [intOf]; omega
                    · obtain rfl : q = r.n := by omega
                      go_wp2_with fail
                      go_roundw
                      case rel => exact ⟨b + 1, u, by omega, by go_num, rfl, Lib.hid (HU.out.same (fun i j k => by have := HBL.out; omega)), hb5⟩
                      case measure => simp [intOf]; omega
                · obtain rfl : b = a - (x + 1) := by omega
                  go_wp2_with fail
                  go_roundw
                  case rel => exact ⟨x + 1, z, by omega, by go_num, rfl, Lib.hid (HZ.out.same (fun i j k => by omega)), hb2⟩
                  case measure => simp [intOf]; omega
          · obtain rfl : x = a := by omega
            have hyes := Lib.hid (show WPost (nums rs) y from best_turn HOK.out (by rw [HLN.out]; exact HY.out.same (fun i j k => by omega)))
            go_wp2_with fail
            go_ret
            exact ⟨y, rfl, hyes.out, hb⟩

end Go.Proofs.Ytklbdkbaldkkpaa
