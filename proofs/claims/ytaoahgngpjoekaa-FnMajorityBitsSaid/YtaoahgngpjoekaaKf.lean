/- Draws of chapter 6: streams of frames, harmed bits. No condition beyond lengths. -/
import Derived.Test.YtaoahgngpjoekaaKg
import Derived.Test.YtaoahgngpjoekaaEd
namespace Go.Proofs.Ytaoahgngpjoekaa
open Go.RowKit

/-- Bits that were drawn, with a bound. -/
def TextB (w : World) (g p k m : Nat) (e : Ending) (w' : World) : Prop :=
  ∃ v : ByteArray, ∃ q, e = .returned (.string v) ∧ v.size ≤ m ∧ allS bitC v = true ∧ p ≤ q ∧ q ≤ p + k ∧ Rdr w' g q ∧ w.grownBy w' (some g)
/-- Bits that were drawn, of one length. -/
def TextH (w : World) (g p m : Nat) (e : Ending) (w' : World) : Prop :=
  ∃ v : ByteArray, ∃ q, e = .returned (.string v) ∧ v.size = m ∧ allS bitC v = true ∧ p ≤ q ∧ q ≤ p + 7 ∧ Rdr w' g q ∧ w.grownBy w' (some g)
theorem allS_text {l : List Int} (h : ∀ x ∈ l, x = 48 ∨ x = 49) : allS bitC (text l) = true := by
  unfold allS text
  rw [List.all_eq_true]
  intro c hc
  simp only [List.mem_map] at hc
  obtain ⟨x, hx, rfl⟩ := hc
  rcases h x hx with rfl | rfl <;> rfl
theorem bit_snoc {l : List Int} {y : Int} (h : ∀ x ∈ l, x = 48 ∨ x = 49) (hy : y = 48 ∨ y = 49) : ∀ x ∈ l ++ [y], x = 48 ∨ x = 49 := by
  intro x hx
  rcases List.mem_append.1 hx with h1 | h1
  · exact h x h1
  · rw [List.mem_singleton.1 h1]; exact hy
def flipT (s : ByteArray) (k : Nat) : ByteArray := s.extract 0 k ++ invT (s.extract k (k + 1)) ++ s.extract (k + 1) s.size
theorem flip_size {s : ByteArray} {k : Nat} (h : k < s.size) : (flipT s k).size = s.size := by
  unfold flipT; rw [ap_size, ap_size, inv_size, ex_size (by omega), ex_size (by omega), ex_size (by omega)]; omega
theorem flip_bits {s : ByteArray} (k : Nat) (h : allS bitC s = true) : allS bitC (flipT s k) = true := by
  unfold flipT; rw [allS_ap, allS_ap, allS_ex _ _ h, inv_all (allS_ex _ _ h), allS_ex _ _ h]; rfl

set_option maxHeartbeats 800000 in
theorem l1StringB_c {w : World} {g p : Nat} (most : Nat) (h : Rdr w g p) (hp : p ≤ 1073740000) (hm : most ≤ 40) : Calls Try.prog 83 #[.pointer (some ⟨g, 0, none⟩), .int .i64 most] w (TextB w g p (most + 1) most) := by
  have hgl := h.lt
  go_enter Try.func83, Try.ntmps83
  go_wp2_with (at_make; refine wp_make0B w rfl _ _ rfl .i64 .i64 most _ rfl rfl rfl (by omega) ?_; intro w1 ho0 hb0)
  have hr0 := h.below hb0
  have hg0 := gr_of_below hb0 (some g)
  clear h hb0
  go_wp2_with fail
  refine (pick_c _ hr0 (by omega)).mono ?_; rintro e w3 ⟨m, rfl, m0, m1, hr4, hg4⟩
  have hgD := hg0.trans hg4
  have ho1 : OwnVB w3 w.heap.size _ [] := ownsRow_gr ho0 hg4 hgl
  clear hg4 hr0 ho0 hg0
  go_wp2_with fail
  go_loopw [5, 6] (fun v i wr => ∃ (k : Nat) (l : List Int), i = .int .i64 (k : Nat) ∧ l.length + k ≤ most ∧ Hid (∀ x ∈ l, x = 48 ∨ x = 49) ∧ OwnVB wr w.heap.size v l ∧ Rdr wr g (p + 1 + l.length) ∧ w.grownBy wr (some g)) (fun _ i _ => (intOf i).toNat)
  case atStart =>
    obtain ⟨k, hk⟩ := Int.eq_ofNat_of_zero_le m0
    exact ⟨k, [], by rw [hk], by simp; omega, Lib.hid (fun x hx => by cases hx), ho1, hr4, hgD⟩
  case round =>
    clear ho1 hr4 hgD m0 m1
    obtain ⟨k, l, rfl, hlk, HX, ho, hr, hg⟩ := hrel
    have hz := hg.size
    by_cases hk0 : 0 < k
    · go_wp2_with fail
      refine (pick_c _ hr (by omega)).mono ?_; rintro e w4 ⟨v2, rfl, v20, v21, hr5, hg5⟩
      have ho2 : OwnVB w4 w.heap.size _ l := ownsRow_gr ho hg5 hgl
      have hgE := hg.trans hg5
      have hzE := hgE.size
      clear ho hg hg5 hr
      obtain rfl | rfl : v2 = 0 ∨ v2 = 1 := by omega
      · clear v20 v21
        go_wp2_with (at_builtin; refine wp_app1F 22 5 1 (0 : Int) Try.underlying22 info_u8 rfl (by decide) (fun _ => rfl) w4 rfl _ _ rfl w.heap.size _ l 48 rfl (by exact ho2) rfl (by omega) hzE ?_; intro v' w5 ho3 _ hb5)
        have hr6 := hr5.farGt2 hb5 hgl
        have hgF := gr_trans_below2 hgE hb5
        clear ho2 hr5 hgE hb5
        go_roundw
        case rel => exact ⟨k - 1, l ++ [48], by go_num, by simp; omega, Lib.hid (bit_snoc HX.out (.inl rfl)), ho3, by simpa [Nat.add_assoc] using hr6, hgF⟩
        case measure => simp [intOf]; omega
      · clear v20 v21
        go_wp2_with (at_builtin; refine wp_app1F 22 5 1 (0 : Int) Try.underlying22 info_u8 rfl (by decide) (fun _ => rfl) w4 rfl _ _ rfl w.heap.size _ l 49 rfl (by exact ho2) rfl (by omega) hzE ?_; intro v' w5 ho3 _ hb5)
        have hr6 := hr5.farGt2 hb5 hgl
        have hgF := gr_trans_below2 hgE hb5
        clear ho2 hr5 hgE hb5
        go_roundw
        case rel => exact ⟨k - 1, l ++ [49], by go_num, by simp; omega, Lib.hid (bit_snoc HX.out (.inr rfl)), ho3, by simpa [Nat.add_assoc] using hr6, hgF⟩
        case measure => simp [intOf]; omega
    · obtain rfl : k = 0 := by omega
      obtain ⟨a2, n2, c2, hv, ho2⟩ := OwnVF.own ho (by omega)
      subst hv
      have hrd := ho2.rd
      clear ho ho2
      go_wp2_with (with_reducible refine wp_text 22 5 9 Try.underlying22 Try.underlying5 Try.underlying9 _ rfl (.tmp 24) rfl rfl hrd ?_)
      go_ret
      exact ⟨text l, _, rfl, by rw [text_size]; omega, allS_text HX.out, by omega, by omega, hr, hg⟩

set_option maxHeartbeats 800000 in
theorem l6Flip_c (s : ByteArray) (k : Nat) (w : World) (hk : k < s.size) (hs : s.size ≤ 1000) (hb : allS bitC s = true) : Calls Try.prog 139 #[.string s, .int .i64 k] w fun e w' => e = .returned (.string (flipT s k)) ∧ Below w.heap.size w w' := by
  have HB := Lib.hid (codes_bits (allS_ex k (k + 1) hb))
  have HF := Lib.hid (show flipT s k = s.extract 0 k ++ invT (s.extract k (k + 1)) ++ s.extract (k + 1) s.size from rfl)
  have hx1 : (s.extract k (k + 1)).size = 1 := by rw [ex_size (by omega)]; omega
  have hx0 : (s.extract 0 k).size = k := by rw [ex_size (by omega)]; omega
  have hx2 : (s.extract (k + 1) s.size).size = s.size - (k + 1) := by rw [ex_size (by omega)]
  have hx3 : (invT (s.extract k (k + 1))).size = 1 := by rw [inv_size, hx1]
  have hx4 : (s.extract 0 k ++ invT (s.extract k (k + 1))).size = k + 1 := by rw [ap_size, hx0, hx3]
  have wk : IntKind.i64.wrap ((k : Int) + 1) = ((k + 1 : Nat) : Int) := by rw [IntWalk.i64_in _ (by omega)]; omega
  have hk1 : k + 1 ≤ s.size := hk
  have hkk : k ≤ k + 1 := Nat.le_succ k
  have hk0 : k ≤ s.size := Nat.le_of_lt hk
  obtain ⟨X, hX⟩ : ∃ X, X = s.extract k (k + 1) := ⟨_, rfl⟩
  have hXI := inv_size X
  rw [← hX] at HB HF hx1 hx3 hx4
  have HC := Lib.hid hX
  clear hb hX
  go_enter Try.func139, Try.ntmps139
  go_wp2_with fail
  go_region_with (first | (go_at_call 79; rw [← HC.out]; refine (l2Invert_c X _ (by omega) HB.out).mono ?_; rintro e w1 ⟨rfl, hb1⟩))
  all_goals
    have hb3 := (Below.drew (Below.refl w.heap.size w)).trans hb1
    clear hb1 wk
    go_wp2_with fail
    go_ret
    exact ⟨by rw [HF.out]; rfl, hb3⟩

set_option maxHeartbeats 800000 in
theorem l6Harm_c {w : World} {g p : Nat} (s : ByteArray) (h : Rdr w g p) (hp : p ≤ 1073740000) (hs : s.size ≤ 600) (hb : allS bitC s = true) : Calls Try.prog 84 #[.pointer (some ⟨g, 0, none⟩), .string s] w (TextH w g p s.size) := by
  have hgl := h.lt
  have HB := Lib.hid hb
  clear hb
  go_enter Try.func84, Try.ntmps84
  go_wp2_with fail
  refine (num_lit [0, 1, 0, 2, 3] h (by omega) rfl rfl (by decide) (by decide)).mono ?_; rintro e w1 ⟨x, rfl, hx, hr1, hg1⟩
  have hgA := (gr_of_below ((Below.refl w.heap.size w).alloc (Nat.le_refl w.heap.size) _) (some g)).trans hg1
  have hx2 : 0 ≤ x ∧ x ≤ 3 := by simp at hx; omega
  clear hx hg1 h
  obtain ⟨n, rfl⟩ := Int.eq_ofNat_of_zero_le hx2.1
  have hn3 : n ≤ 3 := by omega
  clear hx2
  go_wp2_with fail
  go_loopw [1, 5] (fun v i wr => ∃ (k : Nat) (u : ByteArray) (q : Nat), k ≤ n ∧ i = .int .i64 (k : Nat) ∧ v = .string u ∧ Hid (u.size = s.size ∧ allS bitC u = true) ∧ p + 1 ≤ q ∧ q + 2 * k ≤ p + 7 ∧ Rdr wr g q ∧ w.grownBy wr (some g)) (fun _ i _ => (intOf i).toNat)
  case atStart => exact ⟨n, s, p + 1, Nat.le_refl _, rfl, rfl, Lib.hid ⟨rfl, HB.out⟩, Nat.le_refl _, by omega, hr1, hgA⟩
  case round =>
    clear hr1 hgA
    obtain ⟨k, u, q, hk, rfl, rfl, HU, hq0, hq1, hr, hg⟩ := hrel
    have hus : u.size ≤ 600 := by rw [HU.out.1]; exact hs
    by_cases hk0 : 0 < k
    · by_cases hu0 : 0 < u.size
      · go_wp2_with fail
        refine (pick_c _ hr (by omega)).mono ?_; rintro e w4 ⟨a, rfl, a0, a1, hr4, hg4⟩
        have hgB := hg.trans hg4
        clear hr hg hg4
        go_wp2_with fail
        refine (pick_c _ hr4 (by omega)).mono ?_; rintro e w5 ⟨b, rfl, b0, b1, hr5, hg5⟩
        have hgC := hgB.trans hg5
        clear hr4 hgB hg5
        obtain ⟨A, rfl⟩ := Int.eq_ofNat_of_zero_le a0
        obtain ⟨B, rfl⟩ := Int.eq_ofNat_of_zero_le b0
        obtain ⟨r, hr⟩ : ∃ r, r = (A + B) % u.size := ⟨_, rfl⟩
        have hru : r < u.size := by rw [hr]; exact Nat.mod_lt _ hu0
        have e1 : ((A : Int) + (B : Int)).tmod (u.size : Int) = (r : Int) := by rw [hr]; rfl
        have e2 : ((A : Int) + (B : Int)) % (u.size : Int) = (r : Int) := by rw [hr]; rfl
        have hne : ((u.size : Int) == 0) = false := by rw [beq_eq_false_iff_ne]; omega
        have hA : A < 256 := by rcases a1 with h | h <;> omega
        have hB : B < 256 := by rcases b1 with h | h <;> omega
        clear hr a0 b0 a1 b1
        have HFZ := Lib.hid (flip_size hru)
        have HFB := Lib.hid (flip_bits r HU.out.2)
        have hz := hgC.size
        go_wp2_with fail
        refine (l6Flip_c u r _ hru (by omega) HU.out.2).mono ?_; rintro e w6 ⟨rfl, hb6⟩
        have hr6 := hr5.below hb6
        have hgD := gr_trans_below hgC hb6
        clear e1 e2 hr5 hgC hb6
        go_wp2_with fail
        go_roundw
        case rel => exact ⟨k - 1, flipT u r, q + 1 + 1, by omega, by go_num, rfl, Lib.hid ⟨HFZ.out.trans HU.out.1, HFB.out⟩, by omega, by omega, hr6, hgD⟩
        case measure => simp [intOf]; omega
      · have hu0' : ¬ (0 : Int) < (u.size : Int) := by omega
        go_wp2_with fail
        go_ret
        exact ⟨u, q, rfl, HU.out.1, HU.out.2, by omega, by omega, hr, hg⟩
    · have hk0' : ¬ (0 : Int) < (k : Int) := by omega
      go_wp2_with fail
      go_ret
      exact ⟨u, q, rfl, HU.out.1, HU.out.2, by omega, by omega, hr, hg⟩

set_option maxHeartbeats 800000 in
theorem l6Stream_c {w : World} {g p : Nat} (h : Rdr w g p) (hp : p ≤ 1073730000) : Calls Try.prog 64 #[.pointer (some ⟨g, 0, none⟩)] w (TextB w g p 200 200) := by
  have hgl := h.lt
  go_enter Try.func64, Try.ntmps64
  go_wp2_with fail
  refine (l1StringB_c 9 h (by omega) (by omega)).mono ?_; rintro e w1 ⟨u, q1, rfl, hu, hub, hq0, hq1, hr1, hg1⟩
  have HU := Lib.hid hub
  clear h hub
  go_wp2_with fail
  refine (pick_c _ hr1 (by omega)).mono ?_; rintro e w2 ⟨m, rfl, m0, m1, hr2, hg2⟩
  have hgA := hg1.trans hg2
  clear hr1 hg1 hg2
  obtain ⟨M, rfl⟩ := Int.eq_ofNat_of_zero_le m0
  have hM : M ≤ 3 := by rcases m1 with h | h <;> omega
  clear m0 m1
  go_wp2_with fail
  go_loopw [3, 4] (fun v i wr => ∃ (k : Nat) (u : ByteArray) (q : Nat), k ≤ M ∧ i = .int .i64 (k : Nat) ∧ v = .string u ∧ u.size + 49 * k ≤ 160 ∧ Hid (allS bitC u = true) ∧ p ≤ q ∧ q + 28 * k ≤ p + 100 ∧ Rdr wr g q ∧ w.grownBy wr (some g)) (fun _ i _ => (intOf i).toNat)
  case atStart => exact ⟨M, u, q1 + 1, Nat.le_refl _, rfl, rfl, by omega, HU, by omega, by omega, hr2, hgA⟩
  case round =>
    clear hr2 hgA HU
    obtain ⟨k, u, q, hk, rfl, rfl, hus, HU, hq2, hq3, hr, hg⟩ := hrel
    by_cases hk0 : 0 < k
    · go_wp2_with fail
      refine (l1StringB_c 20 hr (by omega) (by omega)).mono ?_; rintro e w3 ⟨a, q3, rfl, ha, hab, hq4, hq5, hr3, hg3⟩
      have hpay : payB a = true := payB_yes (by omega) (bits_mk (by omega) hab)
      have hgB := hg.trans hg3
      have HFB := Lib.hid (frame_bits hpay)
      have hfz := frame_size a
      clear hr hg hg3
      have hz := hgB.size
      go_wp2_with fail
      refine (l6Frame_c a _ hpay).mono ?_; rintro e w4 ⟨rfl, hb4⟩
      have hr4 := hr3.below hb4
      have hgC := gr_trans_below hgB hb4
      clear hr3 hgB hb4 hpay
      generalize frameT a = F at *
      have hs1 : (u ++ F).size = u.size + F.size := ap_size _ _
      go_wp2_with fail
      refine (l1StringB_c 6 hr4 (by omega) (by omega)).mono ?_; rintro e w5 ⟨b, q5, rfl, hb, hbb, hq6, hq7, hr5, hg5⟩
      have hgD := hgC.trans hg5
      have hs2 : (u ++ F ++ b).size = (u ++ F).size + b.size := ap_size _ _
      have HN : Hid (allS bitC (u ++ F ++ b) = true) := Lib.hid (by rw [allS_ap, allS_ap, HU.out, HFB.out, hbb]; rfl)
      clear hr4 hgC hg5 hbb hab
      go_wp2_with fail
      go_roundw
      case rel => exact ⟨k - 1, u ++ F ++ b, q5, by omega, by go_num, rfl, by omega, HN, by omega, by omega, hr5, hgD⟩
      case measure => simp [intOf]; omega
    · have hk0' : ¬ (0 : Int) < (k : Int) := by omega
      go_wp2_with fail
      refine (pick_c _ hr (by omega)).mono ?_; rintro e w3 ⟨y, rfl, y0, y1, hr3, hg3⟩
      have hgB := hg.trans hg3
      clear hr hg hg3 y1
      by_cases hy : (y == 0) = true
      · go_wp2_with fail
        refine (l6Harm_c u hr3 (by omega) (by omega) HU.out).mono ?_; rintro e w4 ⟨v, q4, rfl, hv, hvb, hq6, hq7, hr4, hg4⟩
        have hgC := hgB.trans hg4
        have HV := Lib.hid hvb
        clear hr3 hgB hg4 hvb
        go_wp2_with fail
        refine (pick_c _ hr4 (by omega)).mono ?_; rintro e w5 ⟨z, rfl, z0, z1, hr5, hg5⟩
        have hgD := hgC.trans hg5
        clear hr4 hgC hg5 z1
        by_cases hz : (z == 0) = true
        · have HIB := Lib.hid (codes_bits HV.out)
          have HIA := Lib.hid (inv_all HV.out)
          have hiz := inv_size v
          have hzz := hgD.size
          go_wp2_with fail
          refine (l2Invert_c v _ (by omega) HIB.out).mono ?_; rintro e w6 ⟨rfl, hb6⟩
          have hr6 := hr5.below hb6
          have hgE := gr_trans_below hgD hb6
          go_wp2_with fail
          go_ret
          exact ⟨invT v, _, rfl, by omega, HIA.out, by omega, by omega, hr6, hgE⟩
        · have hz' : (z == 0) = false := by simpa using hz
          clear hz
          go_wp2_with fail
          go_ret
          exact ⟨v, _, rfl, by omega, HV.out, by omega, by omega, hr5, hgD⟩
      · have hy' : (y == 0) = false := by simpa using hy
        clear hy
        go_wp2_with fail
        refine (pick_c _ hr3 (by omega)).mono ?_; rintro e w5 ⟨z, rfl, z0, z1, hr5, hg5⟩
        have hgD := hgB.trans hg5
        clear hr3 hgB hg5 z1
        by_cases hz : (z == 0) = true
        · have HIB := Lib.hid (codes_bits HU.out)
          have HIA := Lib.hid (inv_all HU.out)
          have hiz := inv_size u
          have hzz := hgD.size
          go_wp2_with fail
          refine (l2Invert_c u _ (by omega) HIB.out).mono ?_; rintro e w6 ⟨rfl, hb6⟩
          have hr6 := hr5.below hb6
          have hgE := gr_trans_below hgD hb6
          go_wp2_with fail
          go_ret
          exact ⟨invT u, _, rfl, by omega, HIA.out, by omega, by omega, hr6, hgE⟩
        · have hz' : (z == 0) = false := by simpa using hz
          clear hz
          go_wp2_with fail
          go_ret
          exact ⟨u, _, rfl, by omega, HU.out, by omega, by omega, hr5, hgD⟩

/-- A text that was drawn out of the code. -/
def TextO (w : World) (m : Nat) (e : Ending) (w' : World) : Prop := ∃ v : ByteArray, e = .returned (.string v) ∧ v.size ≤ m ∧ Below w.heap.size w w'
set_option maxHeartbeats 400000 in
theorem DrawAllFrames_c {w : World} {ao : Option Addr} {n c : Nat} (h : CodeW w ao n c) : Calls Try.prog 19 #[.slice ao n c] w (TextO w 601) := by
  obtain ⟨lb, hR, hcap, hby⟩ := h
  go_enter Try.func19, Try.ntmps19
  go_wp2_with fail
  refine (l9Open_c hR hcap hby).mono ?_; rintro e w1 ⟨rfl, hr1, hb1⟩
  have hz1 := hb1.size
  clear hR hby
  go_wp2_with fail
  refine (l6Stream_c hr1 (by omega)).mono ?_; rintro e w2 ⟨u, q1, rfl, hu, hub, hq0, hq1, hr2, hg2⟩
  have hb2 := hb1.trans (below_of_gr hg2 (Nat.le_refl _) hz1)
  clear hr1 hg2 hb1
  go_wp2_with fail
  refine (l6Wild_c u hr2 (by omega) (by omega)).mono ?_; rintro e w4 ⟨s, q4, rfl, hs, hq40, hq41, hrA, hg4⟩
  have hbA := hb2.trans (below_of_gr hg4 (Nat.le_refl _) hb2.size)
  go_wp2_with fail
  go_ret
  exact ⟨s, rfl, hs, hbA⟩

set_option maxHeartbeats 400000 in
theorem DrawFixPolarity_c {w : World} {ao : Option Addr} {n c : Nat} (h : CodeW w ao n c) : Calls Try.prog 24 #[.slice ao n c] w (TextO w 601) := by
  go_enter Try.func24, Try.ntmps24
  go_wp2_with fail
  refine (DrawAllFrames_c h).mono ?_; rintro e w1 ⟨v, rfl, hv, hb⟩
  go_wp2_with fail
  go_ret
  exact ⟨v, rfl, hv, hb⟩

def TextI (w : World) (e : Ending) (w' : World) : Prop :=
  ∃ (v : ByteArray) (a : Int), e = .returned (.tuple #[.string v, .int .i64 a]) ∧ v.size ≤ 601 ∧ -1 ≤ a ∧ a ≤ 9223372036854775807 ∧ Below w.heap.size w w'
set_option maxHeartbeats 800000 in
theorem DrawParseFrame_c {w : World} {ao : Option Addr} {n c : Nat} (h : CodeW w ao n c) : Calls Try.prog 14 #[.slice ao n c] w (TextI w) := by
  obtain ⟨lb, hR, hcap, hby⟩ := h
  go_enter Try.func14, Try.ntmps14
  go_wp2_with fail
  refine (l9Open_c hR hcap hby).mono ?_; rintro e w1 ⟨rfl, hr1, hb1⟩
  have hz1 := hb1.size
  clear hR hby
  go_wp2_with fail
  refine (l6Stream_c hr1 (by omega)).mono ?_; rintro e w2 ⟨u, q1, rfl, hu, hub, hq0, hq1, hr2, hg2⟩
  have hb2 := hb1.trans (below_of_gr hg2 (Nat.le_refl _) hz1)
  clear hr1 hg2 hb1
  go_wp2_with fail
  refine (pick_c _ hr2 (by omega)).mono ?_; rintro e w3 ⟨x, rfl, x0, x1, hr3, hg3⟩
  have hb3 := hb2.trans (below_of_gr hg3 (Nat.le_refl _) hb2.size)
  clear hr2 hg3 hb2
  go_wp2_with fail
  refine (sFindFrame_c u x _ (by omega)).mono ?_; rintro e w4 ⟨rfl, hb4⟩
  have hr4 := hr3.below hb4
  have hb5 := hb3.trans (hb4.mono hb3.size)
  clear hr3 hb3 hb4
  obtain ⟨f, hf, hf0, hf1⟩ : ∃ f : Int, findR u x = f ∧ -1 ≤ f ∧ f ≤ 600 := by
    refine ⟨_, rfl, ?_⟩
    rcases find_is (s := u) (a := x) with h | ⟨v, p, n, h, _, _, h2, _⟩ <;> rw [h] <;> omega
  rw [hf]
  clear hf
  rcases (show f < 0 ∨ 0 ≤ f by omega) with hfn | hfn
  all_goals
    go_wp2_with fail
    refine (pick_c _ hr4 (by omega)).mono ?_; rintro e w5 ⟨y, rfl, y0, y1, hr5, hg5⟩
    have hb6 := hb5.trans (below_of_gr hg5 (Nat.le_refl _) hb5.size)
    have hu2 : (u.size : Int) ≤ 200 := by omega
    clear hr4 hg5 hb5 y1
    by_cases hy : (y == 0) = true
    · go_wp2_with fail
      refine (num_lit [-1, (u.size : Int), (u.size : Int) + 1, 9223372036854775807] hr5 (by omega) rfl rfl (by simp) (by simp)).mono ?_; rintro e w6 ⟨z, rfl, hz, hr6, hg6⟩
      have hbl : Below w5.heap.size w5 (w5.alloc (.cells (([-1, (u.size : Int), (u.size : Int) + 1, 9223372036854775807] : List Int).map (Value.int .i64)).toArray 3)) := (Below.refl _ _).alloc (Nat.le_refl _) _
      have hb7 := hb6.trans (hbl.mono hb6.size)
      have hb8 := hb7.trans (below_of_gr hg6 (Nat.le_refl _) hb7.size)
      have hz2 : -1 ≤ z ∧ z ≤ 9223372036854775807 := by simp at hz; omega
      clear hz hg6 hbl hb7 hr5 hb6
      go_wp2_with fail
      refine (l6Wild_c u hr6 (by omega) (by omega)).mono ?_; rintro e w7 ⟨s, q7, rfl, hs, hq70, hq71, hr7, hg7⟩
      have hb9 := hb8.trans (below_of_gr hg7 (Nat.le_refl _) hb8.size)
      go_wp2_with fail
      go_ret2
      exact ⟨s, z, rfl, hs, hz2.1, hz2.2, hb9⟩
    · have hy' : (y == 0) = false := by simpa using hy
      clear hy
      by_cases hv : (y == 1) = true
      · go_wp2_with fail
        refine (pick_c _ hr5 (by omega)).mono ?_; rintro e w6 ⟨z, rfl, z0, z1, hr6, hg6⟩
        have hb8 := hb6.trans (below_of_gr hg6 (Nat.le_refl _) hb6.size)
        have hz2 : z ≤ 200 := by rcases z1 with h | h <;> omega
        clear z1 hg6 hr5 hb6
        go_wp2_with fail
        refine (l6Wild_c u hr6 (by omega) (by omega)).mono ?_; rintro e w7 ⟨s, q7, rfl, hs, hq70, hq71, hr7, hg7⟩
        have hb9 := hb8.trans (below_of_gr hg7 (Nat.le_refl _) hb8.size)
        go_wp2_with fail
        go_ret2
        exact ⟨s, z, rfl, hs, by omega, by omega, hb9⟩
      · have hv' : (y == 1) = false := by simpa using hv
        clear hv
        go_wp2_with fail
        refine (l6Wild_c u hr5 (by omega) (by omega)).mono ?_; rintro e w7 ⟨s, q7, rfl, hs, hq70, hq71, hr7, hg7⟩
        have hb9 := hb6.trans (below_of_gr hg7 (Nat.le_refl _) hb6.size)
        go_wp2_with fail
        go_ret2
        exact ⟨s, _, rfl, hs, by omega, by omega, hb9⟩

end Go.Proofs.Ytaoahgngpjoekaa
