/- Draws of chapter 7: two users (DrawHopCollisions), linear hops. No condition beyond lengths. -/
import Derived.Test.YtnklnafcbjnmfaaDx
import Derived.Test.YtnklnafcbjnmfaaHm
namespace Go.Proofs.Ytnklnafcbjnmfaa
open Go.RowKit

set_option maxRecDepth 100000 in
set_option maxHeartbeats 1600000 in
theorem DrawHopCollisions_c {w : World} {ao : Option Addr} {n c : Nat} (h : CodeW w ao n c) : Calls Try.prog 40 #[.slice ao n c] w (RetHHI w (-9223372036854775808) 9223372036854775807) := by
  obtain ⟨lb, hR, hcap, hby⟩ := h
  go_enter Try.func40, Try.ntmps40
  go_wp2_with fail
  refine (l9Open_c hR hcap hby).mono ?_; rintro e w1 ⟨rfl, hr1, hb1⟩
  have hz1 := hb1.size
  clear hR hby
  go_wp2_with fail
  refine (l7Some_c hr1 (by omega)).mono ?_; rintro e w2 ⟨a1, n1, c1, l1, ch, q1, rfl, ho1, hch, hv, h0, h14, hq0, hq1, hr2, hg2⟩
  have hb2 := hb1.trans (below_of_gr hg2 (Nat.le_refl _) hz1)
  have hgl := hr1.lt
  have hz2 := hg2.size
  have hz2' := hb2.size
  have HN := Lib.hid ho1.1
  have hn14 : n1 ≤ 14 := by have := HN.out; omega
  have hn0 : 0 < n1 := by have := HN.out; omega
  have hs1 := ho1.2.1
  have hov : OwnV (w2.alloc (.cells #[] 3)) w2.heap.size (.slice (some ⟨w2.heap.size, 0, none⟩) 0 0) [] := OwnV.made0 w2 (Nat.le_refl _)
  have ho2 := ho1.below ((Below.refl _ _).alloc (Nat.le_refl w2.heap.size) (.cells #[] 3))
  have hr3 := hr2.alloc (.cells #[] 3)
  have hb3 := hb2.alloc hz2' (.cells #[] 3)
  clear hr1 hg2 hr2
  go_wp2_with fail
  go_loopw [8] (fun v wr => ∃ l : List Int, l.length ≤ n1 ∧ OwnV wr w2.heap.size v l ∧ allB 0 (ch - 1) l = true ∧ Own wr w1.heap.size a1 n1 c1 l1 ∧ Rdr wr w.heap.size (q1 + l.length) ∧ Below w.heap.size w wr ∧ w2.heap.size ≤ wr.heap.size) (fun v _ => match v with | .slice _ k _ => n1 - k | _ => 0)
  case atStart => exact ⟨[], Nat.zero_le _, hov, rfl, ho2, hr3, hb3, by simp⟩
  case round =>
    clear hov ho2 hr3 hb3
    obtain ⟨l, hl, hov, hal, ho, hr, hb, hzw⟩ := hrel
    have HA := Lib.hid hal; clear hal
    obtain ⟨av, nv, cv, hv', hov2⟩ := hov.own (by omega)
    subst hv'
    have HV := Lib.hid hov2.1
    have hvn : nv ≤ n1 := by have := HV.out; omega
    by_cases hlt : nv < n1
    · go_wp2_with fail
      refine (pick_c _ hr (by omega)).mono ?_; rintro e w4 ⟨x, rfl, x0, x1, hr4, hg4⟩
      have hov3 := hov.gr hg4 (by omega)
      have ho4 := ho.gr hg4 hgl
      have hb4 := hb.trans (below_of_gr hg4 (Nat.le_refl _) hb.size)
      have hzw4 := Nat.le_trans hzw hg4.size
      clear hov hov2 hr ho hb hg4
      go_wp2_with (at_builtin; refine wp_app1 w4 rfl (.tmp 22) (.tmp 26) rfl w2.heap.size _ l x rfl hov3 rfl (by omega) hzw4 ?_; intro v' w5 hov5 hgr5 hb5)
      obtain ⟨a5, n5, c5, hv5, hov6⟩ := hov5.own (by simp; omega)
      have hn5 : n5 = nv + 1 := by rw [hov6.1, List.length_append, ← HV.out]; rfl
      subst hv5
      subst hn5
      have hr5 := hr4.farGt2 hb5 (by omega)
      have ho5 : Own w5 w1.heap.size a1 n1 c1 l1 := ⟨ho4.1, ho4.2.1, ownsRow_below ho4.2.2 hb5 fun k hk => by
        have := (ho1.2.2.lt k hk).2; exact this⟩
      have hb6 := hb4.trans (hb5.mono (by omega))
      have hzw5 := Nat.le_trans hzw4 hb5.size
      clear hov3 hr4 ho4 hb4 hgr5 hb5
      go_roundw
      case rel => exact ⟨l ++ [x], by rw [List.length_append, ← HV.out]; simp; omega, hov5, by unfold allB at *; rw [List.all_append, HA.out]; simp [inB]; omega, ho5, by rw [List.length_append]; simpa [Nat.add_assoc] using hr5, hb6, hzw5⟩
      case measure => simp; omega
    · have hnv : nv = n1 := by omega
      have hll : l.length ≤ 14 := by omega
      have hll2 := Lib.hid (show l.length = n1 by rw [← HV.out]; exact hnv)
      subst hnv
      have HB := Lib.hid (show hopsB l ch = true from hopsB_mk hch (by omega) HA.out)
      have HM := Lib.hid hv
      clear hlt hov hvn
      go_wp2_with fail
      refine (pick_c _ hr (by omega)).mono ?_; rintro e w4 ⟨u, rfl, u0, u1, hr4, hg4⟩
      have ho4 := ho.gr hg4 hgl
      have hov4 := hov2.gr hg4 (by omega)
      have hb4 := hb.trans (below_of_gr hg4 (Nat.le_refl _) hb.size)
      have hz4 := Nat.le_trans hzw hg4.size
      have ho1lt : ∀ a, a1 = some a → a.block < w2.heap.size := fun a ha => (ho1.lt a ha).2
      clear hr ho hov2 hb hg4
      by_cases hu : (u == 0) = true
      · go_wp2_with fail
        refine (pick_c _ hr4 (by omega)).mono ?_; rintro e w5 ⟨d, rfl, d0, d1, hr5, hg5⟩
        have ho5 := ho4.gr hg5 hgl
        have hb5 := hb4.trans (below_of_gr hg5 (Nat.le_refl _) hb4.size)
        have hz5 := Nat.le_trans hz4 hg5.size
        have HY := Lib.hid (movHops_yes (show movOk l1 ch d = true by unfold movOk; rw [HM.out, inB_true (by omega) (by omega)]; rfl))
        clear hr4 ho4 hov4 hb4 hg5
        go_wp2_with fail
        refine (sMoveHops_c ch d ho5.rd).mono ?_; rintro e wM hret
        rw [HY.out] at hret; obtain ⟨a6, n6, c6, rfl, hm6, hb6⟩ := hret.some
        have hrM := hr5.below hb6
        have hoM := ho5.below hb6
        have hbM := hb5.trans (hb6.mono hb5.size)
        have hzM := Nat.le_trans hz5 hb6.size
        have hM := hm6.rdc
        have hMb : ∀ b, a6 = some b → w2.heap.size ≤ b.block := fun b hb => by have := (hm6.lt b hb).1; omega
        have hM301 : (l1.map fun x => (x + d) % ch).length ≤ 301 := by rw [List.length_map]; omega
        have hM0 : 0 < n6 := by rw [hm6.1, List.length_map]; omega
        have hnM : n6 ≤ 301 := by rw [hm6.1]; exact hM301
        generalize (l1.map fun x => (x + d) % ch) = l6 at *
        clear hm6 hr5 ho5 hb5 hb6
        go_wp2_with fail
        refine (pick_c _ hrM (by omega)).mono ?_; rintro e wX ⟨u2, rfl, u20, u21, hrX, hgX⟩
        have hoX := hoM.gr hgX hgl
        have hbX := hbM.trans (below_of_gr hgX (Nat.le_refl _) hbM.size)
        have hzX := Nat.le_trans hzM hgX.size
        have hBM : RdC wX a6 n6 c6 l6 := ⟨hM.1.gr hgX (fun b hb _ => by have := hMb b hb; omega), hM.2⟩
        clear hrM hoM hbM hzM hM hgX
        by_cases hu2 : (u2 == 0) = true
        · obtain ⟨bb, boff, rfl, hbl, hbc⟩ := hBM.1.at hM0
          have hD := hBM.1.drop (show 1 ≤ n6 by omega)
          have q1 : (1 : Int) ≤ (n6 : Int) := by omega
          have hcM := hBM.2.1
          by_cases hc1 : c6 = 1
          · have hn1 : n6 = 1 := by omega
            have hB : RdC wX (some ⟨bb, boff, none⟩) 0 0 [] := ⟨Rd.zero _ _, Nat.le_refl _, fun e => by cases e⟩
            have hBb : ∀ b, (some ⟨bb, boff, none⟩ : Option Addr) = some b → w2.heap.size ≤ b.block := hMb
            have hB301 : ([] : List Int).length ≤ 301 := by simp
            have HC1 := Lib.hid hc1; have HN1 := Lib.hid hn1; clear hn1
            subst hc1
            skip
            go_wp2_with fail
            refine (l7Bad_c hrX (by omega) hoX hgl (by omega) (Nat.le_trans hz2 hzX)).mono ?_; rintro e wB ⟨a7, n7, c7, l7, q7, rfl, hrc7, h7, hq7, hq8, hr7, hg7, hne7⟩
            have hB7 : Rd wB (some ⟨bb, boff, none⟩) 0 [] := hB.1.gr2 hg7 (fun b hb _ => by have := hBb b hb; omega) (fun a b ha hb _ => by have := (hoX.lt a ha).1; have := hBb b hb; have := ho1lt a ha; omega)
            have hb7 := hbX.trans (hg7.below (Nat.le_refl _) (fun a ha => by have := (hoX.lt a ha).1; omega) hbX.size)
            clear hrX hoX hg7
            go_wp2_with fail
            refine (l2Number_c hr7 (by omega)).mono ?_; rintro e wC ⟨k, q9, rfl, hk0, hk1, hq9, hq10, hr9, hg9⟩
            have hrc9 : RdC wC a7 n7 c7 l7 := ⟨hrc7.1.gr hg9 (fun a ha _ => Nat.ne_of_gt (hne7 a ha)), hrc7.2⟩
            have hB9 : RdC wC (some ⟨bb, boff, none⟩) 0 0 [] := ⟨hB7.gr hg9 (fun b hb _ => by have := hBb b hb; omega), hB.2⟩
            have hb9 := hb7.trans (below_of_gr hg9 (Nat.le_refl _) hb7.size)
            go_wp2_with fail
            go_ret3
            exact ⟨a7, n7, c7, l7, (some ⟨bb, boff, none⟩), 0, 0, [], k, rfl, hrc9, h7, hB9, hB301, hk0, hk1, hb9⟩
          · have hc1i : ¬ (c6 : Int) = 1 := by omega
            have hB : RdC wX (some ⟨bb, boff + 1, none⟩) (n6 - 1) (c6 - 1) (l6.drop 1) := ⟨hD, by omega, fun e => by cases e⟩
            have hBb : ∀ b, (some ⟨bb, boff + 1, none⟩ : Option Addr) = some b → w2.heap.size ≤ b.block := fun b hb => by cases hb; exact hMb ⟨bb, boff, none⟩ rfl
            have hB301 : (l6.drop 1).length ≤ 301 := by rw [List.length_drop]; omega
            go_wp2_with fail
            refine (l7Bad_c hrX (by omega) hoX hgl (by omega) (Nat.le_trans hz2 hzX)).mono ?_; rintro e wB ⟨a7, n7, c7, l7, q7, rfl, hrc7, h7, hq7, hq8, hr7, hg7, hne7⟩
            have hB7 : Rd wB (some ⟨bb, boff + 1, none⟩) (n6 - 1) (l6.drop 1) := hB.1.gr2 hg7 (fun b hb _ => by have := hBb b hb; omega) (fun a b ha hb _ => by have := (hoX.lt a ha).1; have := hBb b hb; have := ho1lt a ha; omega)
            have hb7 := hbX.trans (hg7.below (Nat.le_refl _) (fun a ha => by have := (hoX.lt a ha).1; omega) hbX.size)
            clear hrX hoX hg7
            go_wp2_with fail
            refine (l2Number_c hr7 (by omega)).mono ?_; rintro e wC ⟨k, q9, rfl, hk0, hk1, hq9, hq10, hr9, hg9⟩
            have hrc9 : RdC wC a7 n7 c7 l7 := ⟨hrc7.1.gr hg9 (fun a ha _ => Nat.ne_of_gt (hne7 a ha)), hrc7.2⟩
            have hB9 : RdC wC (some ⟨bb, boff + 1, none⟩) (n6 - 1) (c6 - 1) (l6.drop 1) := ⟨hB7.gr hg9 (fun b hb _ => by have := hBb b hb; omega), hB.2⟩
            have hb9 := hb7.trans (below_of_gr hg9 (Nat.le_refl _) hb7.size)
            go_wp2_with fail
            go_ret3
            exact ⟨a7, n7, c7, l7, (some ⟨bb, boff + 1, none⟩), (n6 - 1), (c6 - 1), (l6.drop 1), k, rfl, hrc9, h7, hB9, hB301, hk0, hk1, hb9⟩
        · have hu2' : (u2 == 0) = false := by simpa using hu2
          clear hu2
          have hB := hBM; have hBb := hMb; have hB301 := hM301
          go_wp2_with fail
          refine (l7Bad_c hrX (by omega) hoX hgl (by omega) (Nat.le_trans hz2 hzX)).mono ?_; rintro e wB ⟨a7, n7, c7, l7, q7, rfl, hrc7, h7, hq7, hq8, hr7, hg7, hne7⟩
          have hB7 : Rd wB a6 n6 l6 := hB.1.gr2 hg7 (fun b hb _ => by have := hBb b hb; omega) (fun a b ha hb _ => by have := (hoX.lt a ha).1; have := hBb b hb; have := ho1lt a ha; omega)
          have hb7 := hbX.trans (hg7.below (Nat.le_refl _) (fun a ha => by have := (hoX.lt a ha).1; omega) hbX.size)
          clear hrX hoX hg7
          go_wp2_with fail
          refine (l2Number_c hr7 (by omega)).mono ?_; rintro e wC ⟨k, q9, rfl, hk0, hk1, hq9, hq10, hr9, hg9⟩
          have hrc9 : RdC wC a7 n7 c7 l7 := ⟨hrc7.1.gr hg9 (fun a ha _ => Nat.ne_of_gt (hne7 a ha)), hrc7.2⟩
          have hB9 : RdC wC a6 n6 c6 l6 := ⟨hB7.gr hg9 (fun b hb _ => by have := hBb b hb; omega), hB.2⟩
          have hb9 := hb7.trans (below_of_gr hg9 (Nat.le_refl _) hb7.size)
          go_wp2_with fail
          go_ret3
          exact ⟨a7, n7, c7, l7, a6, n6, c6, l6, k, rfl, hrc9, h7, hB9, hB301, hk0, hk1, hb9⟩
      · have hu' : (u == 0) = false := by simpa using hu
        clear hu
        have hrM := hr4; have hoM := ho4; have hbM := hb4; have hzM := hz4
        have hM := hov4.rdc
        have hMb : ∀ b, av = some b → w2.heap.size ≤ b.block := fun b hb => (hov4.lt b hb).1
        have hM301 : l.length ≤ 301 := by omega
        have hM0 := hn0
        have hnM : nv ≤ 301 := by omega
        clear hr4 ho4 hov4 hb4
        go_wp2_with fail
        refine (pick_c _ hrM (by omega)).mono ?_; rintro e wX ⟨u2, rfl, u20, u21, hrX, hgX⟩
        have hoX := hoM.gr hgX hgl
        have hbX := hbM.trans (below_of_gr hgX (Nat.le_refl _) hbM.size)
        have hzX := Nat.le_trans hzM hgX.size
        have hBM : RdC wX av nv cv l := ⟨hM.1.gr hgX (fun b hb _ => by have := hMb b hb; omega), hM.2⟩
        clear hrM hoM hbM hzM hM hgX
        by_cases hu2 : (u2 == 0) = true
        · obtain ⟨bb, boff, rfl, hbl, hbc⟩ := hBM.1.at hM0
          have hD := hBM.1.drop (show 1 ≤ nv by omega)
          have q1 : (1 : Int) ≤ (nv : Int) := by omega
          have hcM := hBM.2.1
          by_cases hc1 : cv = 1
          · have hn1 : nv = 1 := by omega
            have hB : RdC wX (some ⟨bb, boff, none⟩) 0 0 [] := ⟨Rd.zero _ _, Nat.le_refl _, fun e => by cases e⟩
            have hBb : ∀ b, (some ⟨bb, boff, none⟩ : Option Addr) = some b → w2.heap.size ≤ b.block := hMb
            have hB301 : ([] : List Int).length ≤ 301 := by simp
            have HC1 := Lib.hid hc1; have HN1 := Lib.hid hn1; clear hn1
            subst hc1
            skip
            go_wp2_with fail
            refine (l7Bad_c hrX (by omega) hoX hgl (by omega) (Nat.le_trans hz2 hzX)).mono ?_; rintro e wB ⟨a7, n7, c7, l7, q7, rfl, hrc7, h7, hq7, hq8, hr7, hg7, hne7⟩
            have hB7 : Rd wB (some ⟨bb, boff, none⟩) 0 [] := hB.1.gr2 hg7 (fun b hb _ => by have := hBb b hb; omega) (fun a b ha hb _ => by have := (hoX.lt a ha).1; have := hBb b hb; have := ho1lt a ha; omega)
            have hb7 := hbX.trans (hg7.below (Nat.le_refl _) (fun a ha => by have := (hoX.lt a ha).1; omega) hbX.size)
            clear hrX hoX hg7
            go_wp2_with fail
            refine (l2Number_c hr7 (by omega)).mono ?_; rintro e wC ⟨k, q9, rfl, hk0, hk1, hq9, hq10, hr9, hg9⟩
            have hrc9 : RdC wC a7 n7 c7 l7 := ⟨hrc7.1.gr hg9 (fun a ha _ => Nat.ne_of_gt (hne7 a ha)), hrc7.2⟩
            have hB9 : RdC wC (some ⟨bb, boff, none⟩) 0 0 [] := ⟨hB7.gr hg9 (fun b hb _ => by have := hBb b hb; omega), hB.2⟩
            have hb9 := hb7.trans (below_of_gr hg9 (Nat.le_refl _) hb7.size)
            go_wp2_with fail
            go_ret3
            exact ⟨a7, n7, c7, l7, (some ⟨bb, boff, none⟩), 0, 0, [], k, rfl, hrc9, h7, hB9, hB301, hk0, hk1, hb9⟩
          · have hc1i : ¬ (cv : Int) = 1 := by omega
            have hB : RdC wX (some ⟨bb, boff + 1, none⟩) (nv - 1) (cv - 1) (l.drop 1) := ⟨hD, by omega, fun e => by cases e⟩
            have hBb : ∀ b, (some ⟨bb, boff + 1, none⟩ : Option Addr) = some b → w2.heap.size ≤ b.block := fun b hb => by cases hb; exact hMb ⟨bb, boff, none⟩ rfl
            have hB301 : (l.drop 1).length ≤ 301 := by rw [List.length_drop]; omega
            go_wp2_with fail
            refine (l7Bad_c hrX (by omega) hoX hgl (by omega) (Nat.le_trans hz2 hzX)).mono ?_; rintro e wB ⟨a7, n7, c7, l7, q7, rfl, hrc7, h7, hq7, hq8, hr7, hg7, hne7⟩
            have hB7 : Rd wB (some ⟨bb, boff + 1, none⟩) (nv - 1) (l.drop 1) := hB.1.gr2 hg7 (fun b hb _ => by have := hBb b hb; omega) (fun a b ha hb _ => by have := (hoX.lt a ha).1; have := hBb b hb; have := ho1lt a ha; omega)
            have hb7 := hbX.trans (hg7.below (Nat.le_refl _) (fun a ha => by have := (hoX.lt a ha).1; omega) hbX.size)
            clear hrX hoX hg7
            go_wp2_with fail
            refine (l2Number_c hr7 (by omega)).mono ?_; rintro e wC ⟨k, q9, rfl, hk0, hk1, hq9, hq10, hr9, hg9⟩
            have hrc9 : RdC wC a7 n7 c7 l7 := ⟨hrc7.1.gr hg9 (fun a ha _ => Nat.ne_of_gt (hne7 a ha)), hrc7.2⟩
            have hB9 : RdC wC (some ⟨bb, boff + 1, none⟩) (nv - 1) (cv - 1) (l.drop 1) := ⟨hB7.gr hg9 (fun b hb _ => by have := hBb b hb; omega), hB.2⟩
            have hb9 := hb7.trans (below_of_gr hg9 (Nat.le_refl _) hb7.size)
            go_wp2_with fail
            go_ret3
            exact ⟨a7, n7, c7, l7, (some ⟨bb, boff + 1, none⟩), (nv - 1), (cv - 1), (l.drop 1), k, rfl, hrc9, h7, hB9, hB301, hk0, hk1, hb9⟩
        · have hu2' : (u2 == 0) = false := by simpa using hu2
          clear hu2
          have hB := hBM; have hBb := hMb; have hB301 := hM301
          go_wp2_with fail
          refine (l7Bad_c hrX (by omega) hoX hgl (by omega) (Nat.le_trans hz2 hzX)).mono ?_; rintro e wB ⟨a7, n7, c7, l7, q7, rfl, hrc7, h7, hq7, hq8, hr7, hg7, hne7⟩
          have hB7 : Rd wB av nv l := hB.1.gr2 hg7 (fun b hb _ => by have := hBb b hb; omega) (fun a b ha hb _ => by have := (hoX.lt a ha).1; have := hBb b hb; have := ho1lt a ha; omega)
          have hb7 := hbX.trans (hg7.below (Nat.le_refl _) (fun a ha => by have := (hoX.lt a ha).1; omega) hbX.size)
          clear hrX hoX hg7
          go_wp2_with fail
          refine (l2Number_c hr7 (by omega)).mono ?_; rintro e wC ⟨k, q9, rfl, hk0, hk1, hq9, hq10, hr9, hg9⟩
          have hrc9 : RdC wC a7 n7 c7 l7 := ⟨hrc7.1.gr hg9 (fun a ha _ => Nat.ne_of_gt (hne7 a ha)), hrc7.2⟩
          have hB9 : RdC wC av nv cv l := ⟨hB7.gr hg9 (fun b hb _ => by have := hBb b hb; omega), hB.2⟩
          have hb9 := hb7.trans (below_of_gr hg9 (Nat.le_refl _) hb7.size)
          go_wp2_with fail
          go_ret3
          exact ⟨a7, n7, c7, l7, av, nv, cv, l, k, rfl, hrc9, h7, hB9, hB301, hk0, hk1, hb9⟩

end Go.Proofs.Ytnklnafcbjnmfaa
