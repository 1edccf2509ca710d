/- Copies that are drawn: DrawCombineCopies, DrawLostBits, DrawSendHops. No condition beyond lengths. -/
import Derived.Test.YtklbdkbaldkkpaaDoorEd
namespace Go.Proofs.YtklbdkbaldkkpaaDoor
open Go.RowKit

theorem sendR_size (s : ByteArray) (l j : List Int) : ((sendR s l j).getD ByteArray.empty).size ≤ s.size := by
  unfold sendR
  by_cases h : readyB s l j = true
  · rw [if_pos h]
    show (text _).size ≤ _
    rw [text_size, sendL_length]
    exact Nat.le_refl _
  · rw [if_neg h]; exact Nat.zero_le _
theorem OwnVF.gr {α : Type} {f : α → Value} {t : TypeId} {w w' : World} {g lo : Nat} {v : Value} {l : List α} (h : OwnVF f t w lo v l) (hg : w.grownBy w' (some g)) (hlt : g < lo) : OwnVF f t w' lo v l := ownsRow_gr h hg hlt
theorem OwnF.gr {α : Type} {f : α → Value} {t : TypeId} {w w' : World} {g lo n c : Nat} {ao : Option Addr} {l : List α} (h : OwnF f t w lo ao n c l) (hg : w.grownBy w' (some g)) (hlt : g < lo) : OwnF f t w' lo ao n c l := ⟨h.1, h.2.1, ownsRow_gr h.2.2 hg hlt⟩
theorem small_snoc {l : List ByteArray} {s : ByteArray} {m : Nat} (h : ∀ s ∈ l, s.size ≤ m) (hs : s.size ≤ m) : ∀ t ∈ l ++ [s], t.size ≤ m := by
  intro t ht
  rcases List.mem_append.1 ht with h1 | h1
  · exact h t h1
  · rw [List.mem_singleton.1 h1]; exact hs

set_option maxRecDepth 100000 in
set_option maxHeartbeats 1600000 in
theorem DrawCombineCopies_c {w : World} {ao : Option Addr} {n c : Nat} (h : CodeW w ao n c) : Calls Tryd.prog 6 #[.slice ao n c] w (TextsP w) := by
  obtain ⟨lb, hR, hcap, hby⟩ := h
  go_enter Tryd.func6, Tryd.ntmps6
  go_wp2_with fail
  refine (l9Open_c hR hcap hby).mono ?_; rintro e w1 ⟨rfl, hr1, hb1⟩
  have hz1 := hb1.size
  have hgl := hr1.lt
  clear hR hby
  go_wp2_with fail
  refine (l1String_c 12 hr1 (by omega) (by omega)).mono ?_; rintro e w2 ⟨dt, q1, rfl, hdt, hq0, hq1, hr2, hg2⟩
  have hb2 := hb1.trans (below_of_gr hg2 (Nat.le_refl _) hz1)
  have hz2 := hg2.size
  have hov : OwnVT (w2.alloc (.cells #[] 9)) w2.heap.size (.slice (some ⟨w2.heap.size, 0, none⟩) 0 0) [] := OwnVF.made0 _ _ w2 (Nat.le_refl _)
  have hov1 := hov.mono hz2
  have hr3 := hr2.alloc (.cells #[] 9)
  have hb3 := hb2.alloc hb2.size (.cells #[] 9)
  have hz3 : w1.heap.size ≤ (w2.alloc (.cells #[] 9)).heap.size := by simp; omega
  clear hr1 hg2 hr2 hov hb2
  go_wp2_with fail
  refine (pick_c _ hr3 (by omega)).mono ?_; rintro e w4 ⟨m, rfl, m0, m1, hr4, hg4⟩
  have ho4 := hov1.gr hg4 hgl
  have hb4 := hb3.trans (below_of_gr hg4 (Nat.le_refl _) hb3.size)
  have hz4 := Nat.le_trans hz3 hg4.size
  clear hr3 hg4 hov1 hb3 hz3
  go_wp2_with fail
  go_loopw [5, 6] (fun v i wr => ∃ (k q : Nat) (l : List ByteArray), i = .int .i64 (k : Nat) ∧ l.length + k ≤ 4 ∧ q + 30 * k ≤ 400 ∧ OwnVT wr w1.heap.size v l ∧ (∀ s ∈ l, s.size ≤ 21) ∧ Rdr wr w.heap.size q ∧ Below w.heap.size w wr ∧ w1.heap.size ≤ wr.heap.size) (fun _ i _ => (intOf i).toNat)
  case atStart =>
    obtain ⟨k, hk⟩ := Int.eq_ofNat_of_zero_le (show 0 ≤ 1 + m by omega)
    exact ⟨k, q1 + 1, [], by rw [hk], by simp; omega, by omega, ho4, (fun s hs => by simp at hs), hr4, hb4, hz4⟩
  case round =>
    clear ho4 hr4 hb4 hz4 m0 m1
    obtain ⟨k, q, l, rfl, hlk, hqk, ho, hsm, hr, hb, hz⟩ := hrel
    have HS := Lib.hid hsm; clear hsm
    by_cases hk0 : 0 < k
    · go_wp2_with fail
      refine (l7Some_c hr (by omega)).mono ?_; rintro e w5 ⟨a1, n1, c1, l1, ch, q5, rfl, ho1, hch, hv, h0, h14, hq50, hq51, hr5, hg5⟩
      have HV := Lib.hid hv; clear hv
      have ho5 := ho.gr hg5 hgl
      have hb5 := hb.trans (below_of_gr hg5 (Nat.le_refl _) hb.size)
      have hz5 := Nat.le_trans hz hg5.size
      have ho1' := ho1.mono hz
      clear ho hb hr hg5 ho1
      go_wp2_with fail
      refine (pick_c _ hr5 (by omega)).mono ?_; rintro e w6 ⟨x, rfl, x0, x1, hr6, hg6⟩
      have ho6 := ho5.gr hg6 hgl
      have hb6 := hb5.trans (below_of_gr hg6 (Nat.le_refl _) hb5.size)
      have hz6 := Nat.le_trans hz5 hg6.size
      have ho1 := ho1'.gr hg6 hgl
      clear ho5 hb5 hr5 hg6 ho1'
      go_wp2_with fail
      refine (pick_c _ hr6 (by omega)).mono ?_; rintro e w7 ⟨y, rfl, y0, y1, hr7, hg7⟩
      have ho7 := ho6.gr hg7 hgl
      have hb7 := hb6.trans (below_of_gr hg7 (Nat.le_refl _) hb6.size)
      have hz7 := Nat.le_trans hz6 hg7.size
      have ho1' := ho1.gr hg7 hgl
      clear ho6 hb6 hr6 hg7 ho1
      have hrj := rd_lit w7 [x, y] 3 (by simp)
      have hbj : Below w7.heap.size w7 (w7.alloc (.cells #[.int .i64 x, .int .i64 y] 3)) := (Below.refl _ _).alloc (Nat.le_refl _) _
      have hrh := ho1'.rd.below hbj
      have ho8 := ho7.below hbj
      have hb8 := hb7.trans (hbj.mono hb7.size)
      have hr8 := hr7.below hbj
      have hz8 := Nat.le_trans hz7 hbj.size
      clear ho7 hb7 hr7 hbj ho1'
      go_wp2_with fail
      refine (sSendHops_c dt hrh hrj (by omega)).mono ?_; rintro e w9 ⟨rfl, hb9⟩
      have hsz := sendR_size dt l1 [x, y]
      have ho9 := ho8.below hb9
      have hr9 := hr8.below hb9
      have hb10 := hb8.trans (hb9.mono hb8.size)
      have hz9 := Nat.le_trans hz8 hb9.size
      generalize (sendR dt l1 [x, y]).getD ByteArray.empty = u at *
      generalize (sendR dt l1 [x, y]).isSome = bb at *
      clear ho8 hr8 hb8 hb9 hrh hrj
      have HS2 := Lib.hid (small_snoc HS.out (show u.size ≤ 21 by omega))
      go_wp2_with (at_builtin; refine wp_app1F 23 9 16 ByteArray.empty Tryd.underlying23 info_str rfl (by decide) (fun _ => rfl) w9 rfl _ _ rfl w1.heap.size _ _ _ rfl (by exact ho9) rfl (by omega) hz9 ?_; intro v' w10 ho10 _ hbA)
      have hr10 := hr9.farGt2 hbA hgl
      have hb11 := hb10.trans (hbA.mono hz1)
      have hz10 := Nat.le_trans hz9 hbA.size
      clear ho9 hr9 hb10 hbA
      go_roundw
      case rel => exact ⟨k - 1, _, l ++ [u], by go_num, by simp; omega, by omega, ho10, HS2.out, hr10, hb11, hz10⟩
      case measure => simp [intOf]; omega
    · obtain rfl : k = 0 := by omega
      obtain ⟨a2, n2, c2, hv, ho2⟩ := ho.own (by omega)
      subst hv
      have HN2 := Lib.hid ho2.1
      have hn24 : n2 ≤ 4 := by have := HN2.out; omega
      clear ho
      go_wp2_with fail
      refine (pick_c _ hr (by omega)).mono ?_; rintro e w5 ⟨u, rfl, u0, u1, hr5, hg5⟩
      have ho5 := ho2.gr hg5 hgl
      have hb5 := hb.trans (below_of_gr hg5 (Nat.le_refl _) hb.size)
      have hz5 := Nat.le_trans hz hg5.size
      clear ho2 hb hr hg5 u1
      by_cases hu0 : (u == 0) = true
      · have hcp := ho5.cap
        have hc0 : (0 : Int) ≤ (c2 : Int) := by omega
        go_wp2_with fail
        go_ret
        exact ⟨a2, 0, c2, [], rfl, ⟨rfl, by omega, fun i hi => absurd hi (by simp)⟩, by omega, ho5.zero, by simp, (fun s hs => by simp at hs), (fun a ha => Nat.le_trans hz1 (ho5.lt a ha).1), hb5⟩
      · have hu0' : (u == 0) = false := by simpa using hu0
        clear hu0
        by_cases hu1 : (u == 1) = true
        · go_wp2_with fail
          refine (l1String_c 12 hr5 (by omega) (by omega)).mono ?_; rintro e w6 ⟨d2, q6, rfl, hd2, hq60, hq61, hr6, hg6⟩
          have ho6 := (ho5.gr hg6 hgl).v
          have hb6 := hb5.trans (below_of_gr hg6 (Nat.le_refl _) hb5.size)
          have hz6 := Nat.le_trans hz5 hg6.size
          clear ho5 hb5 hr5 hg6
          go_wp2_with (at_builtin; refine wp_app1F 23 9 16 ByteArray.empty Tryd.underlying23 info_str rfl (by decide) (fun _ => rfl) w6 rfl _ _ rfl w1.heap.size _ _ _ rfl (by exact ho6) rfl (by omega) hz6 ?_; intro v' w7 ho7 _ hb7)
          obtain ⟨a3, n3, c3, hv, ho8⟩ := ho7.own (by simp; omega)
          subst hv
          go_ret
          exact ⟨a3, n3, c3, _, rfl, ho8.rd, ho8.cap, ho8.zero, by simp; omega, small_snoc HS.out (by omega), (fun a ha => Nat.le_trans hz1 (ho8.lt a ha).1), hb6.trans (hb7.mono hz1)⟩
        · have hu1' : (u == 1) = false := by simpa using hu1
          clear hu1
          by_cases hu2 : (u == 2) = true
          · have ho6 := ho5.v
            clear ho5
            go_wp2_with (at_builtin; refine wp_app1F 23 9 16 ByteArray.empty Tryd.underlying23 info_str rfl (by decide) (fun _ => rfl) w5 rfl _ _ rfl w1.heap.size _ _ _ rfl (by exact ho6) rfl (by omega) hz5 ?_; intro v' w7 ho7 _ hb7)
            obtain ⟨a3, n3, c3, hv, ho8⟩ := ho7.own (by simp; omega)
            subst hv
            go_ret
            exact ⟨a3, n3, c3, _, rfl, ho8.rd, ho8.cap, ho8.zero, by simp; omega, small_snoc HS.out (by rw [ByteArray.size_append]; show dt.size + 1 ≤ 21; omega), (fun a ha => Nat.le_trans hz1 (ho8.lt a ha).1), hb5.trans (hb7.mono hz1)⟩
          · have hu2' : (u == 2) = false := by simpa using hu2
            clear hu2
            go_wp2_with fail
            go_ret
            exact ⟨a2, n2, c2, l, rfl, ho5.rd, ho5.cap, ho5.zero, by omega, HS.out, (fun a ha => Nat.le_trans hz1 (ho5.lt a ha).1), hb5⟩

set_option maxRecDepth 100000 in
set_option maxHeartbeats 800000 in
theorem DrawLostBits_c {w : World} {ao : Option Addr} {n c : Nat} (h : CodeW w ao n c) : Calls Tryd.prog 10 #[.slice ao n c] w fun e w' => (∃ s : ByteArray, e = .returned (.string s) ∧ s.size ≤ 601) ∧ Below w.heap.size w w' := by
  have h' := h
  obtain ⟨lb, hR, hcap, hby⟩ := h
  go_enter Tryd.func10, Tryd.ntmps10
  go_wp2_with fail
  refine (l9Open_c hR hcap hby).mono ?_; rintro e w1 ⟨rfl, hr1, hb1⟩
  have hz1 := hb1.size
  have hC := h'.below hb1
  have hgl := hr1.lt
  clear hR hby h'
  go_wp2_with fail
  refine (DrawCombineCopies_c hC).mono ?_; rintro e w2 ⟨a2, n2, c2, l2, rfl, hrd, hnc, hc0, hl5, hsm, hne2, hb2⟩
  have hr2 := hr1.below hb2
  have hb3 := hb1.trans (hb2.mono hz1)
  have hz3 := hb3.size
  clear hr1 hb2 hC hb1
  have HS := Lib.hid hsm; clear hsm
  by_cases hn : n2 = 0
  · subst hn
    go_wp2_with fail
    refine (l6Wild_c _ hr2 (by omega) (by decide)).mono ?_; rintro e w4 ⟨s, q, rfl, hs, _, _, _, hg4⟩
    go_wp2_with fail
    go_ret
    exact ⟨⟨s, rfl, hs⟩, hb3.trans (below_of_gr hg4 (Nat.le_refl _) hz3)⟩
  · have hne : ((n2 : Int) == 0) = false := by simp; omega
    have hlt2 := hrd.lt
    have hs2 := hrd.2.1
    go_wp2_with fail
    refine (pick_c _ hr2 (by omega)).mono ?_; rintro e w4 ⟨k, rfl, k0, k1, hr4, hg4⟩
    obtain ⟨K, rfl⟩ := Int.eq_ofNat_of_zero_le k0
    have hK : K < n2 := by omega
    have hne3 : ∀ a, a2 = some a → 0 < n2 → a.block ≠ w.heap.size := fun a ha _ => by have := hne2 a ha; omega
    obtain ⟨b, off, rfl, hl, hc⟩ := (hrd.gr hg4 hne3).at hK
    have hsK : (l2[K]'hl).size ≤ 21 := HS.out _ (List.getElem_mem hl)
    have hb4 := hb3.trans (below_of_gr hg4 (Nat.le_refl _) hz3)
    clear hb3 hr2 hrd hg4 k1 hne3 hne2 hlt2
    go_wp2_with fail
    refine (l6Wild_c _ hr4 (by omega) (by omega)).mono ?_; rintro e w5 ⟨s, q, rfl, hs, _, _, _, hg5⟩
    go_wp2_with fail
    go_ret
    exact ⟨⟨s, rfl, hs⟩, hb4.trans (below_of_gr hg5 (Nat.le_refl _) hb4.size)⟩

set_option maxRecDepth 100000 in
set_option maxHeartbeats 800000 in
theorem DrawSendHops_c {w : World} {ao : Option Addr} {n c : Nat} (h : CodeW w ao n c) : Calls Tryd.prog 12 #[.slice ao n c] w fun e w' =>
    ∃ s a1 n1 c1, ∃ l1 : List Int, ∃ a2 n2 c2, ∃ l2 : List Int, e = .returned (.tuple #[.string s, .slice a1 n1 c1, .slice a2 n2 c2]) ∧ s.size ≤ 601 ∧ RdC w' a1 n1 c1 l1 ∧ l1.length ≤ 301 ∧ RdC w' a2 n2 c2 l2 ∧ l2.length ≤ 17 ∧ Below w.heap.size w w' := by
  obtain ⟨lb, hR, hcap, hby⟩ := h
  go_enter Tryd.func12, Tryd.ntmps12
  go_wp2_with fail
  refine (l9Open_c hR hcap hby).mono ?_; rintro e w1 ⟨rfl, hr1, hb1⟩
  have hz1 := hb1.size
  clear hR hby
  go_wp2_with fail
  refine (l7Some_c hr1 (by omega)).mono ?_; rintro e w2 ⟨a1, n1, c1, l1, ch, q1, rfl, ho1, hch, hv, h0, h14, hq0, hq1, hr2, hg2⟩
  have hb2 := hb1.trans (below_of_gr hg2 (Nat.le_refl _) hz1)
  have hgl := hr1.lt
  have hz2 := hg2.size
  clear hr1 hg2 hv
  go_wp2_with fail
  refine (l1String_c 20 hr2 (by omega) (by omega)).mono ?_; rintro e w3 ⟨dt, q3, rfl, hdt, hq30, hq31, hr3, hg3⟩
  have ho3 := ho1.gr hg3 hgl
  have hb3 := hb2.trans (below_of_gr hg3 (Nat.le_refl _) hb2.size)
  have hz3 := Nat.le_trans hz2 hg3.size
  clear ho1 hr2 hg3 hb2
  go_wp2_with fail
  refine (l6Wild_c dt hr3 (by omega) (by omega)).mono ?_; rintro e w4 ⟨s, q4, rfl, hs, hq40, hq41, hrA, hg4⟩
  have hoA := ho3.gr hg4 hgl
  have hbA := hb3.trans (below_of_gr hg4 (Nat.le_refl _) hb3.size)
  have hzA := Nat.le_trans hz3 hg4.size
  clear ho3 hr3 hg4 hb3
  go_wp2_with fail
  refine (l7Bad_c hrA (by omega) hoA hgl (by omega) hzA).mono ?_; rintro e wB ⟨a2, n2, c2, l2, q2, rfl, hrc, h301, hq2, hq3, hrB, hgB, hne2⟩
  have hbB := hbA.trans (hgB.below (Nat.le_refl _) (fun a ha => by have := (hoA.lt a ha).1; omega) hbA.size)
  have hzB := hbB.size
  go_wp2_with fail
  refine (l7Set_c ch hrB (by omega)).mono ?_; rintro e wN ⟨b2, m2, d2, j2, q3, rfl, hoJ, h17, hq4, hq5, hrN, hgN⟩
  have hbN := hbB.trans (below_of_gr hgN (Nat.le_refl _) hzB)
  have hrc2 : RdC wN a2 n2 c2 l2 := ⟨hrc.1.gr hgN (fun a ha _ => Nat.ne_of_gt (hne2 a ha)), hrc.2⟩
  clear hrc
  go_wp2_with fail
  go_ret3
  exact ⟨s, a2, n2, c2, l2, b2, m2, d2, j2, rfl, hs, hrc2, h301, hoJ.rdc, h17, hbN⟩

end Go.Proofs.YtklbdkbaldkkpaaDoor
