/- RemapHops of the program and of the reference. No condition beyond lengths. -/
import Derived.Test.YtnklnafcbjnmfaaHc
namespace Go.Proofs.Ytnklnafcbjnmfaa
open Go.RowKit

def goodL (m : Nat) (bad : List Int) : List Int := ((List.range m).map fun i : Nat => (i : Int)).filter fun c => !hasB bad c
theorem goodL_hit {k : Nat} {bad : List Int} (h : hasB bad (k : Int) = false) : goodL (k + 1) bad = goodL k bad ++ [(k : Int)] := by
  unfold goodL; rw [map_range_succ, List.filter_append]; simp [h]
theorem goodL_drop {k : Nat} {bad : List Int} (h : hasB bad (k : Int) = true) : goodL (k + 1) bad = goodL k bad := by
  unfold goodL; rw [map_range_succ, List.filter_append]; simp [h]
theorem goodL_le {k : Nat} {bad : List Int} : (goodL k bad).length ≤ k := by
  unfold goodL; refine Nat.le_trans (List.length_filter_le _ _) ?_; simp
def remAt (m : Nat) (bad : List Int) (x : Int) : Int := if hasB bad x = true then (goodL m bad).getD (x.toNat % (goodL m bad).length) 0 else x
def remOk (l : List Int) (ch : Int) (bad : List Int) : Bool := hopsB l ch && jamB bad && decide (0 < (goodL ch.toNat bad).length)
def remHops (l : List Int) (ch : Int) (bad : List Int) : Option (List Int) := if remOk l ch bad = true then some (l.map (remAt ch.toNat bad)) else none
theorem remHops_no {l : List Int} {ch : Int} {bad : List Int} (h : remOk l ch bad = false) : remHops l ch bad = none := by simp [remHops, h]
theorem remHops_yes {l : List Int} {ch : Int} {bad : List Int} (h : remOk l ch bad = true) : remHops l ch bad = some (l.map (remAt ch.toNat bad)) := by simp [remHops, h]
theorem remOk_nil {l : List Int} {ch : Int} {bad : List Int} (h : (goodL ch.toNat bad).length = 0) : remOk l ch bad = false := by unfold remOk; rw [decide_eq_false (by omega)]; simp
theorem remOk_yes {l : List Int} {ch : Int} {bad : List Int} (h1 : hopsB l ch = true) (h2 : jamB bad = true) (h : 0 < (goodL ch.toNat bad).length) : remOk l ch bad = true := by unfold remOk; rw [h1, h2, decide_eq_true h]; rfl

theorem set_mid {L Z : List Int} {k : Nat} {y : Int} (hk : k < Z.length) (hl : L.length = Z.length) : ((L.take k ++ Z.drop k).map (Value.int .i64)).set k (.int .i64 y) = (L.take k ++ (Z.set k y).drop k).map (Value.int .i64) := by
  apply List.ext_getElem?
  intro j
  rw [List.getElem?_set]
  simp only [List.length_map, List.length_append, List.length_take, List.length_drop, List.getElem?_map, List.getElem?_append, List.getElem?_take, List.getElem?_drop, List.getElem?_set]
  rw [show min k L.length = k by omega]
  by_cases h : k = j
  · subst h
    rw [if_pos rfl, if_pos (by omega), if_neg (by omega), Nat.sub_self, Nat.add_zero, if_pos rfl, if_pos hk]; rfl
  · rw [if_neg h]
    by_cases h2 : j < k
    · rw [if_pos h2, if_pos h2, if_pos h2]
    · rw [if_neg h2, if_neg h2, if_neg (show ¬ k = k + (j - k) by omega)]
theorem Fill.put {w : World} {lo g m k : Nat} {L Z : List Int} (h : Fill w lo g m L Z k) (hk : k < m) (y : Int) : Fill (w.setCell ⟨g, k, none⟩ (.int .i64 y)) lo g m L (Z.set k y) k := by
  obtain ⟨ho, hL, hZ⟩ := h
  have h2 := (ho.stored k (.int .i64 y)).1
  rw [set_mid (by omega) (by omega)] at h2
  exact ⟨h2, hL, by rw [List.length_set]; exact hZ⟩

set_option maxHeartbeats 3200000 in
theorem RemapHops_c {ao bo : Option Addr} {n m c d : Nat} {l bad : List Int} (ch : Int) {w : World} (h : Rd w ao n l) (h' : Rd w bo m bad) :
    Calls Try.prog 43 #[.slice ao n c, .int .i64 ch, .slice bo m d] w (RetIntsB w (remHops l ch bad)) := by
  have hs := h.2.1
  have hn := h.1
  by_cases h1 : hopsB l ch = true
  · obtain ⟨hch, hln, hal⟩ := hopsB_ch h1
    obtain ⟨q, rfl⟩ := Int.eq_ofNat_of_zero_le (show 0 ≤ ch by omega)
    by_cases h2 : jamB bad = true
    · have HA := Lib.hid hal
      have HN := Lib.hid hn
      clear hal hn
      go_enter Try.func43, Try.ntmps43
      go_wp2_with fail
      refine (HopsValid_c _ h).mono ?_; rintro e w' ⟨rfl, rfl⟩
      go_wp2_with fail
      refine (jammedValid_c h').mono ?_; rintro e w' ⟨rfl, rfl⟩
      go_wp2_with fail
      go_loopw [8, 24] (fun v i wr => ∃ k : Nat, k ≤ q ∧ i = .int .i64 k ∧ OwnV wr w.heap.size v (goodL k bad) ∧ Below w.heap.size w wr) (fun _ i _ => q - (intOf i).toNat)
      case atStart => exact ⟨0, Nat.zero_le _, rfl, OwnV.made0 w (Nat.le_refl _), (Below.refl _ _).alloc (Nat.le_refl _) _⟩
      case round =>
        obtain ⟨k, hk, rfl, hown, hb⟩ := hrel
        have hsz := hb.size
        have hle := @goodL_le k bad
        by_cases hlt : k < q
        · by_cases h3 : hasB bad (k : Int) = true
          · have HG := Lib.hid (goodL_drop h3)
            go_wp2_with (go_at_call 67; refine (Contains_c _ (h'.below hb)).mono ?_; rintro e w' ⟨rfl, rfl⟩)
            go_roundw
            case rel => exact ⟨k + 1, by omega, by go_num, by rw [HG.out]; exact hown, hb⟩
            case measure => simp [intOf]; omega
          · have h4 : hasB bad (k : Int) = false := by simpa using h3
            have HG := Lib.hid (goodL_hit h4)
            go_wp2_with (first | (go_at_call 67; refine (Contains_c _ (h'.below hb)).mono ?_; rintro e w' ⟨rfl, rfl⟩) | (at_builtin; refine wp_app1 wr rfl _ _ rfl w.heap.size _ _ _ rfl (by exact hown) rfl (by omega) hsz ?_; intro v' w1 hown' _ hb'))
            have hown2 : OwnV w1 w.heap.size v' (goodL (k + 1) bad) := by rw [HG.out]; exact hown'
            have hb2 := hb.trans hb'
            clear hown' hown hb hb'
            go_wp2
            go_roundw
            case rel => exact ⟨k + 1, by omega, by go_num, hown2, hb2⟩
            case measure => simp [intOf]; omega
        · obtain rfl : k = q := by omega
          obtain ⟨ag, ng, cg, rfl, hG⟩ := hown.own (by omega)
          have hng := hG.1
          by_cases hz : ng = 0
          · have hr := Lib.hid (remHops_no (remOk_nil (l := l) (ch := (k : Int)) (bad := bad) (by rw [Int.toNat_natCast]; omega)))
            have hz' : ((ng : Int) == 0) = true := by simp [hz]
            have HZ := Lib.hid hz; have HNG := Lib.hid hng; clear hz hng
            go_wp2
            go_ret2
            exact retIntsB_nil hr.out hb
          · have hr := Lib.hid (remHops_yes (remOk_yes (ch := (k : Int)) h1 h2 (by rw [Int.toNat_natCast]; omega)))
            rw [Int.toNat_natCast] at hr
            have hz' : ((ng : Int) == 0) = false := by simp [hz]
            have hng2 : ng ≤ 16 := by omega
            have HNG := Lib.hid hng; clear hng
            go_wp2_with (at_make; refine wp_make wr rfl _ _ rfl .i64 .i64 n rfl rfl (by omega) ?_; intro w1 hown1 hb1)
            have hL : (l.map (remAt k bad)).length = n := by rw [List.length_map]; exact HN.out.symm
            have hF := Fill.start (w := w1) (g := wr.heap.size) (lo := wr.heap.size) hown1 hL (by simp)
            have hglt := hG.below'
            go_loopw [44] (fun i wq => ∃ j : Nat, j ≤ n ∧ i = .int .i64 j ∧ (∃ Z, Fill wq wr.heap.size wr.heap.size n (l.map (remAt k bad)) Z j) ∧ Below wr.heap.size wr wq) (fun i _ => n - (intOf i).toNat)
            case atStart => exact ⟨0, Nat.zero_le _, rfl, ⟨_, hF⟩, hb1⟩
            case round =>
              clear hF hb1 hown1
              obtain ⟨j, hj, rfl, ⟨Z, hF⟩, hbq⟩ := hrel
              by_cases hltj : j < n
              · have hbw := hb.trans (hbq.mono hsz)
                obtain ⟨b1, o1, rfl, hl1, hc1⟩ := (h.below hbw).at hltj
                obtain ⟨hx0, hx1⟩ := allB_get HA.out hl1
                obtain ⟨x, hx⟩ := Int.eq_ofNat_of_zero_le hx0
                rw [hx] at hc1 hx1
                have hcF := hF.cell hltj
                have hfF := hF.free j
                have hLj : (l.map (remAt k bad)).getD j 0 = remAt k bad (x : Int) := by rw [← hx]; simp [List.getD, hl1]
                have HX := Lib.hid hx
                have HLJ := Lib.hid hLj
                clear hx hx0 hLj hL
                by_cases h3 : hasB bad (x : Int) = true
                · have HR := Lib.hid (show remAt k bad (x : Int) = (goodL k bad).getD (x % ng) 0 by unfold remAt; rw [if_pos h3, HNG.out, Int.toNat_natCast])
                  obtain ⟨g, hg⟩ : ∃ g, g = x % ng := ⟨_, rfl⟩
                  have hgn : g < ng := by rw [hg]; exact Nat.mod_lt _ (by omega)
                  rw [← hg] at HR
                  have hput := hF.put hltj (x : Int)
                  have hc2 := hput.cell hltj
                  have hf2 := hput.free j
                  have hst := hput.step hltj (HLJ.out.trans HR.out)
                  have hbq2 := (hF.below hbq (.int .i64 (x : Int)))
                  have hbq3 := (hput.below hbq2 (.int .i64 ((goodL k bad).getD g 0)))
                  obtain ⟨b2, o2, rfl, hl2, hcg⟩ := (hG.rd.below hbq2).at hgn
                  have hbad := h'.below (hb.trans (hbq2.mono hsz))
                  have e2 : (goodL k bad).getD g 0 = (goodL k bad)[g] := by simp [List.getD, hl2]
                  rw [e2] at hst hbq3
                  generalize (goodL k bad)[g] = y at *
                  have hm1 : (x : Int).tmod (ng : Int) = (g : Int) := by rw [hg]; rfl
                  have hm2 : (x : Int) % (ng : Int) = (g : Int) := by rw [hg]; rfl
                  have HG := Lib.hid hg; have HE := Lib.hid e2
                  clear hg e2 hF hput hbq hbq2 hglt hG h hbw
                  go_wp2_with (go_at_call 67; refine (Contains_c _ hbad).mono ?_; rintro e w' ⟨rfl, rfl⟩)
                  go_roundw
                  case rel => exact ⟨j + 1, by omega, by go_num, ⟨_, hst⟩, hbq3⟩
                  case measure => simp [intOf]; omega
                · have h4 : hasB bad (x : Int) = false := by simpa using h3
                  have HR := Lib.hid (show remAt k bad (x : Int) = (x : Int) by unfold remAt; rw [if_neg h3])
                  have hst := hF.step hltj (HLJ.out.trans HR.out)
                  have hbq2 := (hF.below hbq (.int .i64 (x : Int)))
                  have hbad := h'.below (hb.trans (hbq2.mono hsz))
                  clear hF hbq hglt hG h hbw
                  go_wp2_with (go_at_call 67; refine (Contains_c _ hbad).mono ?_; rintro e w' ⟨rfl, rfl⟩)
                  go_roundw
                  case rel => exact ⟨j + 1, by omega, by go_num, ⟨_, hst⟩, hbq2⟩
                  case measure => simp [intOf]; omega
              · go_wp2
                go_ret2
                refine retIntsB_mk ((hF.done (by omega)).mono hsz) (by rw [List.length_map, ← HN.out]; exact hs) (by rw [hr.out]; rfl) (by rw [hr.out]; rfl) (hb.trans (hbq.mono hsz))
    · have h2' : jamB bad = false := by simpa using h2
      have hr := Lib.hid (remHops_no (show remOk l (q : Int) bad = false by simp [remOk, h2']))
      have HN := Lib.hid hn
      clear h2 hn
      go_enter Try.func43, Try.ntmps43
      go_wp2_with fail
      refine (HopsValid_c _ h).mono ?_; rintro e w' ⟨rfl, rfl⟩
      go_wp2_with fail
      refine (jammedValid_c h').mono ?_; rintro e w' ⟨rfl, rfl⟩
      go_wp2_with fail
      go_ret2
      exact retIntsB_nil hr.out (Below.refl _ _)
  · have h1' : hopsB l ch = false := by simpa using h1
    have hr := Lib.hid (remHops_no (show remOk l ch bad = false by simp [remOk, h1']))
    have HN := Lib.hid hn
    clear h1 hn
    go_enter Try.func43, Try.ntmps43
    go_wp2_with fail
    refine (HopsValid_c _ h).mono ?_; rintro e w' ⟨rfl, rfl⟩
    go_wp2_with fail
    go_ret2
    exact retIntsB_nil hr.out (Below.refl _ _)

set_option maxHeartbeats 3200000 in
theorem sRemapHops_c {ao bo : Option Addr} {n m c d : Nat} {l bad : List Int} (ch : Int) {w : World} (h : Rd w ao n l) (h' : Rd w bo m bad) :
    Calls Try.prog 44 #[.slice ao n c, .int .i64 ch, .slice bo m d] w (RetIntsB w (remHops l ch bad)) := by
  have hs := h.2.1
  have hn := h.1
  have hb0 : Below w.heap.size w (w.alloc (.cells #[] 3)) := (Below.refl _ _).alloc (Nat.le_refl _) _
  have hb00 : Below w.heap.size w ((w.alloc (.cells #[] 3)).alloc (.cells #[] 3)) := hb0.alloc (by simp) _
  have hout0 := OwnV.made0 w (lo := w.heap.size) (Nat.le_refl _)
  by_cases hch : chB ch = true
  · have hch' := chB_iff.1 hch
    obtain ⟨q, rfl⟩ := Int.eq_ofNat_of_zero_le (show 0 ≤ ch by omega)
    have HN := Lib.hid hn
    clear hn
    go_enter Try.func44, Try.ntmps44
    go_wp2_with fail
    go_loopw [9, 10] (fun v i wr => ∃ k : Nat, k ≤ q ∧ i = .int .i64 k ∧ OwnV wr (w.heap.size + 1) v (goodL k bad) ∧ OwnV wr w.heap.size (.slice (some ⟨w.heap.size, 0, none⟩) 0 0) [] ∧ Below w.heap.size w wr) (fun _ i _ => q - (intOf i).toNat)
    case atStart => exact ⟨0, Nat.zero_le _, rfl, by have := OwnV.made0 (w.alloc (.cells #[] 3)) (lo := w.heap.size + 1) (by simp); simpa [goodL] using this, ownsRow_below hout0 ((Below.refl (w.heap.size + 1) _).alloc (by simp) _) (by intro k hk; simp [Value.ownBlock] at hk; omega), hb00⟩
    case round =>
      obtain ⟨k, hk, rfl, hown, hout, hb⟩ := hrel
      have hsz := hb.size
      have hle := @goodL_le k bad
      have hsz1 : w.heap.size < wr.heap.size := by
        have := hout.lt w.heap.size rfl; omega
      by_cases hlt : k < q
      · by_cases h3 : hasB bad (k : Int) = true
        · have HG := Lib.hid (goodL_drop h3)
          go_wp2_with (first | (go_at_call 60; refine (l7Channels_c _ _).mono ?_; rintro e w' ⟨rfl, rfl⟩) | (go_at_call 70; refine (l2Has_c _ (h'.below hb)).mono ?_; rintro e w' ⟨rfl, rfl⟩))
          go_roundw
          case rel => exact ⟨k + 1, by omega, by go_num, by rw [HG.out]; exact hown, hout, hb⟩
          case measure => simp [intOf]; omega
        · have h4 : hasB bad (k : Int) = false := by simpa using h3
          have HG := Lib.hid (goodL_hit h4)
          go_wp2_with (first | (go_at_call 60; refine (l7Channels_c _ _).mono ?_; rintro e w' ⟨rfl, rfl⟩) | (go_at_call 70; refine (l2Has_c _ (h'.below hb)).mono ?_; rintro e w' ⟨rfl, rfl⟩) | (at_builtin; refine wp_app1x wr rfl _ _ rfl (w.heap.size + 1) _ _ _ rfl (by exact hown) rfl (by omega) hsz1 ?_; intro v' w1 hown' _ hb' _))
          have hown2 : OwnV w1 (w.heap.size + 1) v' (goodL (k + 1) bad) := by rw [HG.out]; exact hown'
          have hb2 := hb.trans (hb'.mono (by omega))
          have hout2 : OwnV w1 w.heap.size (.slice (some ⟨w.heap.size, 0, none⟩) 0 0) [] := ownsRow_below hout hb' (by intro k hk; simp [Value.ownBlock] at hk; omega)
          clear hown' hown hb hb' hout
          go_wp2
          go_roundw
          case rel => exact ⟨k + 1, by omega, by go_num, hown2, hout2, hb2⟩
          case measure => simp [intOf]; omega
      · obtain rfl : k = q := by omega
        obtain ⟨ag, ng, cg, rfl, hG⟩ := hown.own (by omega)
        have hng := hG.1
        by_cases h1 : hopsB l (k : Int) = true
        · obtain ⟨_, hln, hal⟩ := hopsB_ch h1
          by_cases h2 : jamB bad = true
          · by_cases hz : ng = 0
            · have hr := Lib.hid (remHops_no (remOk_nil (l := l) (ch := (k : Int)) (bad := bad) (by rw [Int.toNat_natCast]; omega)))
              have hz' : ((ng : Int) == 0) = true := by simp [hz]
              have HZ := Lib.hid hz; have HNG := Lib.hid hng; clear hz hng
              go_wp2_with (first | (go_at_call 60; refine (l7Channels_c _ _).mono ?_; rintro e w' ⟨rfl, rfl⟩) | (go_at_call 75; refine (sHopsValid_c _ (h.below hb)).mono ?_; rintro e w' ⟨rfl, rfl⟩) | (go_at_call 69; refine (l7Jam_c (h'.below hb)).mono ?_; rintro e w' ⟨rfl, rfl⟩))
              go_ret2
              exact retIntsB_mk hout (by simp) (by rw [hr.out]; rfl) (by rw [hr.out]; rfl) hb
            · have hr := Lib.hid (remHops_yes (remOk_yes (ch := (k : Int)) h1 h2 (by rw [Int.toNat_natCast]; omega)))
              rw [Int.toNat_natCast] at hr
              have hz' : ((ng : Int) == 0) = false := by simp [hz]
              have hng2 : ng ≤ 16 := by omega
              have hnl : n ≤ 300 := by rw [HN.out]; exact hln
              have HNG := Lib.hid hng; clear hng
              have HA := Lib.hid hal; clear hal
              have hne0 : ∀ g, (Value.slice (some ⟨w.heap.size, 0, none⟩) 0 0).ownBlock = some g → (Value.slice ag ng cg).ownBlock ≠ some g := by
                intro g hg e
                have := hG.2.2.lt g e
                simp [Value.ownBlock] at hg
                omega
              go_wp2_with (first | (go_at_call 60; refine (l7Channels_c _ _).mono ?_; rintro e w' ⟨rfl, rfl⟩) | (go_at_call 75; refine (sHopsValid_c _ (h.below hb)).mono ?_; rintro e w' ⟨rfl, rfl⟩) | (go_at_call 69; refine (l7Jam_c (h'.below hb)).mono ?_; rintro e w' ⟨rfl, rfl⟩))
              go_loopw [8, 11] (fun v i wq => ∃ j : Nat, j ≤ n ∧ i = .int .i64 j ∧ OwnV wq w.heap.size v ((l.take j).map (remAt k bad)) ∧ Own wq (w.heap.size + 1) ag ng cg (goodL k bad) ∧ (∀ g, v.ownBlock = some g → (Value.slice ag ng cg).ownBlock ≠ some g) ∧ Below w.heap.size w wq) (fun _ i _ => n - (intOf i).toNat)
              case atStart => exact ⟨0, Nat.zero_le _, rfl, hout, hG, hne0, hb⟩
              case round =>
                clear hown hne0 hout hG hb hsz hsz1 hle
                obtain ⟨j, hj, rfl, hown, hG, hne, hb⟩ := hrel
                have hsz := hb.size
                by_cases hltj : j < n
                · obtain ⟨b1, o1, rfl, hl1, hc1⟩ := (h.below hb).at hltj
                  obtain ⟨hx0, hx1⟩ := allB_get HA.out hl1
                  obtain ⟨x, hx⟩ := Int.eq_ofNat_of_zero_le hx0
                  rw [hx] at hc1 hx1
                  have hbad := h'.below hb
                  have HT := Lib.hid (map_take_succ (f := remAt k bad) hl1)
                  rw [hx] at HT
                  have HX := Lib.hid hx; clear hx hx0
                  have hlen := Lib.hid (show ((l.take j).map (remAt k bad)).length ≤ 1099511627775 by rw [List.length_map, List.length_take]; omega)
                  by_cases h3 : hasB bad (x : Int) = true
                  · have HR := Lib.hid (show remAt k bad (x : Int) = (goodL k bad).getD (x % ng) 0 by unfold remAt; rw [if_pos h3, HNG.out, Int.toNat_natCast])
                    obtain ⟨g, hg⟩ : ∃ g, g = x % ng := ⟨_, rfl⟩
                    have hgn : g < ng := by rw [hg]; exact Nat.mod_lt _ (by omega)
                    rw [← hg] at HR
                    obtain ⟨b2, o2, rfl, hl2, hcg⟩ := hG.rd.at hgn
                    have e2 : (goodL k bad).getD g 0 = (goodL k bad)[g] := by simp [List.getD, hl2]
                    rw [e2] at HR
                    generalize (goodL k bad)[g] = y at *
                    rw [HR.out] at HT
                    have hm1 : (x : Int).tmod (ng : Int) = (g : Int) := by rw [hg]; rfl
                    have hm2 : (x : Int) % (ng : Int) = (g : Int) := by rw [hg]; rfl
                    have HG := Lib.hid hg; clear hg e2
                    go_wp2_with (first | (go_at_call 70; refine (l2Has_c _ hbad).mono ?_; rintro e w' ⟨rfl, rfl⟩) | (at_builtin; refine wp_app1x wr rfl _ _ rfl w.heap.size u8 _ _ rfl (by exact hown) rfl hlen.out hsz ?_; intro v' w1 hown' hgr hb' hat))
                    have hown2 : OwnV w1 w.heap.size v' ((l.take (j + 1)).map (remAt k bad)) := by rw [HT.out]; exact hown'
                    have hb2 := hb.trans hb'
                    have hblk := hG.below'
                    have hG2 : Own w1 (w.heap.size + 1) (some ⟨b2, o2, none⟩) ng cg (goodL k bad) := ⟨hG.1, hG.2.1, hG.2.2.kept hgr (by
                      rcases hvb : u8.ownBlock with _ | g'
                      · right; simp [Value.ownBlock]
                      · exact .inr (hne g' hvb))⟩
                    have hne2 : ∀ g, v'.ownBlock = some g → (Value.slice (some ⟨b2, o2, none⟩) ng cg).ownBlock ≠ some g := by
                      intro g' hg' e
                      rcases hat g' hg' with h5 | h5
                      · exact hne g' h5 e
                      · simp [Value.ownBlock] at e
                        have := hblk _ rfl
                        simp at this
                        omega
                    clear hown' hown hb hb' hgr hat hne hG hblk hbad
                    go_wp2
                    go_roundw
                    case rel => exact ⟨j + 1, by omega, by go_num, hown2, hG2, hne2, hb2⟩
                    case measure => simp [intOf]; omega
                  · have h4 : hasB bad (x : Int) = false := by simpa using h3
                    have HR := Lib.hid (show remAt k bad (x : Int) = (x : Int) by unfold remAt; rw [if_neg h3])
                    rw [HR.out] at HT
                    go_wp2_with (first | (go_at_call 70; refine (l2Has_c _ hbad).mono ?_; rintro e w' ⟨rfl, rfl⟩) | (at_builtin; refine wp_app1x wr rfl _ _ rfl w.heap.size u8 _ _ rfl (by exact hown) rfl hlen.out hsz ?_; intro v' w1 hown' hgr hb' hat))
                    have hown2 : OwnV w1 w.heap.size v' ((l.take (j + 1)).map (remAt k bad)) := by rw [HT.out]; exact hown'
                    have hb2 := hb.trans hb'
                    have hblk := hG.below'
                    have hG2 : Own w1 (w.heap.size + 1) ag ng cg (goodL k bad) := ⟨hG.1, hG.2.1, hG.2.2.kept hgr (by
                      rcases hvb : u8.ownBlock with _ | g'
                      · rcases hab : (Value.slice ag ng cg).ownBlock with _ | g''
                        · exact .inl rfl
                        · right; simp
                      · exact .inr (hne g' hvb))⟩
                    have hne2 : ∀ g, v'.ownBlock = some g → (Value.slice ag ng cg).ownBlock ≠ some g := by
                      intro g' hg' e
                      rcases hat g' hg' with h5 | h5
                      · exact hne g' h5 e
                      · have := hG.2.2.lt g' e
                        omega
                    clear hown' hown hb hb' hgr hat hne hG hblk hbad
                    go_wp2
                    go_roundw
                    case rel => exact ⟨j + 1, by omega, by go_num, hown2, hG2, hne2, hb2⟩
                    case measure => simp [intOf]; omega
                · go_wp2
                  go_ret2
                  refine retIntsB_mk hown (by rw [List.length_map, List.length_take]; omega) ?_ (by rw [hr.out]; rfl) hb
                  rw [hr.out, List.take_of_length_le (by rw [← HN.out]; omega)]; rfl
          · have h2' : jamB bad = false := by simpa using h2
            have hr := Lib.hid (remHops_no (show remOk l (k : Int) bad = false by simp [remOk, h2']))
            clear h2
            have HNG := Lib.hid hng; clear hng
            go_wp2_with (first | (go_at_call 60; refine (l7Channels_c _ _).mono ?_; rintro e w' ⟨rfl, rfl⟩) | (go_at_call 75; refine (sHopsValid_c _ (h.below hb)).mono ?_; rintro e w' ⟨rfl, rfl⟩) | (go_at_call 69; refine (l7Jam_c (h'.below hb)).mono ?_; rintro e w' ⟨rfl, rfl⟩))
            go_ret2
            exact retIntsB_mk hout (by simp) (by rw [hr.out]; rfl) (by rw [hr.out]; rfl) hb
        · have h1' : hopsB l (k : Int) = false := by simpa using h1
          have hr := Lib.hid (remHops_no (show remOk l (k : Int) bad = false by simp [remOk, h1']))
          clear h1
          have HNG := Lib.hid hng; clear hng
          go_wp2_with (first | (go_at_call 60; refine (l7Channels_c _ _).mono ?_; rintro e w' ⟨rfl, rfl⟩) | (go_at_call 75; refine (sHopsValid_c _ (h.below hb)).mono ?_; rintro e w' ⟨rfl, rfl⟩))
          go_ret2
          exact retIntsB_mk hout (by simp) (by rw [hr.out]; rfl) (by rw [hr.out]; rfl) hb
  · have hch' : chB ch = false := by simpa using hch
    have h1' : hopsB l ch = false := by unfold hopsB; rw [hch']; rfl
    have hr := Lib.hid (remHops_no (show remOk l ch bad = false by simp [remOk, h1']))
    have HN := Lib.hid hn
    have hout : OwnV ((w.alloc (.cells #[] 3)).alloc (.cells #[] 3)) w.heap.size (.slice (some ⟨w.heap.size, 0, none⟩) 0 0) [] := ownsRow_below hout0 ((Below.refl (w.heap.size + 1) _).alloc (by simp) _) (by intro k hk; simp [Value.ownBlock] at hk; omega)
    clear hch hn
    by_cases hlt : 0 < ch
    all_goals
      go_enter Try.func44, Try.ntmps44
      go_wp2_with fail
      refine wp_loop_rounds 1 ?_
      rw [rounds_succ]
      go_wp2_with (first | (go_at_call 60; refine (l7Channels_c _ _).mono ?_; rintro e w' ⟨rfl, rfl⟩) | (go_at_call 75; refine (sHopsValid_c _ (h.below hb00)).mono ?_; rintro e w' ⟨rfl, rfl⟩))
      go_ret2
      exact retIntsB_mk hout (by simp) (by rw [hr.out]; rfl) (by rw [hr.out]; rfl) hb00

end Go.Proofs.Ytnklnafcbjnmfaa
