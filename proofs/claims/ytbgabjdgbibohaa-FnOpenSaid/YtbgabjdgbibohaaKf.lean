/- Draws of chapter 6: streams of frames, harmed bits. No condition beyond lengths. -/
import Derived.Test.YtbgabjdgbibohaaKg
import Derived.Test.YtbgabjdgbibohaaEd
namespace Go.Proofs.Ytbgabjdgbibohaa
open Go.RowKit

/-- Bits that were drawn, with a bound. -/
def TextB (w : World) (g p k m : Nat) (e : Ending) (w' : World) : Prop :=
  ∃ v : ByteArray, ∃ q, e = .returned (.string v) ∧ v.size ≤ m ∧ allS bitC v = true ∧ p ≤ q ∧ q ≤ p + k ∧ Rdr w' g q ∧ w.grownBy w' (some g)
/-- Bits that were drawn, of one length. -/
def TextH (w : World) (g p m : Nat) (e : Ending) (w' : World) : Prop :=
  ∃ v : ByteArray, ∃ q, e = .returned (.string v) ∧ v.size = m ∧ allS bitC v = true ∧ p ≤ q ∧ q ≤ p + 7 ∧ Rdr w' g q ∧ w.grownBy w' (some g)
theorem allS_text {l : List Int} (h : ∀ x ∈ l, x = 48 ∨ x = 49) : allS bitC (text l) = true := by
  unfold allS text
  rw [List.all_eq_true]
  intro c hc
  simp only [List.mem_map] at hc
  obtain ⟨x, hx, rfl⟩ := hc
  rcases h x hx with rfl | rfl <;> rfl
theorem bit_snoc {l : List Int} {y : Int} (h : ∀ x ∈ l, x = 48 ∨ x = 49) (hy : y = 48 ∨ y = 49) : ∀ x ∈ l ++ [y], x = 48 ∨ x = 49 := by
  intro x hx
  rcases List.mem_append.1 hx with h1 | h1
  · exact h x h1
  · rw [List.mem_singleton.1 h1]; exact hy
def flipT (s : ByteArray) (k : Nat) : ByteArray := s.extract 0 k ++ invT (s.extract k (k + 1)) ++ s.extract (k + 1) s.size
theorem flip_size {s : ByteArray} {k : Nat} (h : k < s.size) : (flipT s k).size = s.size := by
  unfold flipT; rw [ap_size, ap_size, inv_size, ex_size (by omega), ex_size (by omega), ex_size (by omega)]; omega
theorem flip_bits {s : ByteArray} (k : Nat) (h : allS bitC s = true) : allS bitC (flipT s k) = true := by
  unfold flipT; rw [allS_ap, allS_ap, allS_ex _ _ h, inv_all (allS_ex _ _ h), allS_ex _ _ h]; rfl

set_option maxHeartbeats 800000 in
theorem l1StringB_c {w : World} {g p : Nat} (most : Nat) (h : Rdr w g p) (hp : p ≤ 1073740000) (hm : most ≤ 40) : Calls Try.prog 30 #[.pointer (some ⟨g, 0, none⟩), .int .i64 most] w (TextB w g p (most + 1) most) := by
  have hgl := h.lt
  go_enter Try.func30, Try.ntmps30
  go_wp2_with (at_make; refine wp_make0B w rfl _ _ rfl .i64 .i64 most _ rfl rfl rfl (by omega) ?_; intro w1 ho0 hb0)
  have hr0 := h.below hb0
  have hg0 := gr_of_below hb0 (some g)
  clear h hb0
  go_wp2_with fail
  refine (pick_c _ hr0 (by omega)).mono ?_; rintro e w3 ⟨m, rfl, m0, m1, hr4, hg4⟩
  have hgD := hg0.trans hg4
  have ho1 : OwnVB w3 w.heap.size _ [] := ownsRow_gr ho0 hg4 hgl
  clear hg4 hr0 ho0 hg0
  go_wp2_with fail
  go_loopw [5, 6] (fun v i wr => ∃ (k : Nat) (l : List Int), i = .int .i64 (k : Nat) ∧ l.length + k ≤ most ∧ Hid (∀ x ∈ l, x = 48 ∨ x = 49) ∧ OwnVB wr w.heap.size v l ∧ Rdr wr g (p + 1 + l.length) ∧ w.grownBy wr (some g)) (fun _ i _ => (intOf i).toNat)
  case atStart =>
    obtain ⟨k, hk⟩ := Int.eq_ofNat_of_zero_le m0
    exact ⟨k, [], by rw [hk], by simp; omega, Lib.hid (fun x hx => by cases hx), ho1, hr4, hgD⟩
  case round =>
    clear ho1 hr4 hgD m0 m1
    obtain ⟨k, l, rfl, hlk, HX, ho, hr, hg⟩ := hrel
    have hz := hg.size
    by_cases hk0 : 0 < k
    · go_wp2_with fail
      refine (pick_c _ hr (by omega)).mono ?_; rintro e w4 ⟨v2, rfl, v20, v21, hr5, hg5⟩
      have ho2 : OwnVB w4 w.heap.size _ l := ownsRow_gr ho hg5 hgl
      have hgE := hg.trans hg5
      have hzE := hgE.size
      clear ho hg hg5 hr
      obtain rfl | rfl : v2 = 0 ∨ v2 = 1 := by omega
      · clear v20 v21
        go_wp2_with (at_builtin; refine wp_app1F 29 5 1 (0 : Int) Try.underlying29 info_u8 rfl (by decide) (fun _ => rfl) w4 rfl _ _ rfl w.heap.size _ l 48 rfl (by exact ho2) rfl (by omega) hzE ?_; intro v' w5 ho3 _ hb5)
        have hr6 := hr5.farGt2 hb5 hgl
        have hgF := gr_trans_below2 hgE hb5
        clear ho2 hr5 hgE hb5
        go_roundw
        case rel => exact ⟨k - 1, l ++ [48], by go_num, by simp; omega, Lib.hid (bit_snoc HX.out (.inl rfl)), ho3, by simpa [Nat.add_assoc] using hr6, hgF⟩
        case measure => simp [intOf]; omega
      · clear v20 v21
        go_wp2_with (at_builtin; refine wp_app1F 29 5 1 (0 : Int) Try.underlying29 info_u8 rfl (by decide) (fun _ => rfl) w4 rfl _ _ rfl w.heap.size _ l 49 rfl (by exact ho2) rfl (by omega) hzE ?_; intro v' w5 ho3 _ hb5)
        have hr6 := hr5.farGt2 hb5 hgl
        have hgF := gr_trans_below2 hgE hb5
        clear ho2 hr5 hgE hb5
        go_roundw
        case rel => exact ⟨k - 1, l ++ [49], by go_num, by simp; omega, Lib.hid (bit_snoc HX.out (.inr rfl)), ho3, by simpa [Nat.add_assoc] using hr6, hgF⟩
        case measure => simp [intOf]; omega
    · obtain rfl : k = 0 := by omega
      obtain ⟨a2, n2, c2, hv, ho2⟩ := OwnVF.own ho (by omega)
      subst hv
      have hrd := ho2.rd
      clear ho ho2
      go_wp2_with (with_reducible refine wp_text 29 5 9 Try.underlying29 Try.underlying5 Try.underlying9 _ rfl (.tmp 24) rfl rfl hrd ?_)
      go_ret
      exact ⟨text l, _, rfl, by rw [text_size]; omega, allS_text HX.out, by omega, by omega, hr, hg⟩

set_option maxHeartbeats 800000 in
theorem l6Flip_c (s : ByteArray) (k : Nat) (w : World) (hk : k < s.size) (hs : s.size ≤ 1000) (hb : allS bitC s = true) : Calls Try.prog 72 #[.string s, .int .i64 k] w fun e w' => e = .returned (.string (flipT s k)) ∧ Below w.heap.size w w' := by
  have HB := Lib.hid (codes_bits (allS_ex k (k + 1) hb))
  have HF := Lib.hid (show flipT s k = s.extract 0 k ++ invT (s.extract k (k + 1)) ++ s.extract (k + 1) s.size from rfl)
  have hx1 : (s.extract k (k + 1)).size = 1 := by rw [ex_size (by omega)]; omega
  have hx0 : (s.extract 0 k).size = k := by rw [ex_size (by omega)]; omega
  have hx2 : (s.extract (k + 1) s.size).size = s.size - (k + 1) := by rw [ex_size (by omega)]
  have hx3 : (invT (s.extract k (k + 1))).size = 1 := by rw [inv_size, hx1]
  have hx4 : (s.extract 0 k ++ invT (s.extract k (k + 1))).size = k + 1 := by rw [ap_size, hx0, hx3]
  have wk : IntKind.i64.wrap ((k : Int) + 1) = ((k + 1 : Nat) : Int) := by rw [IntWalk.i64_in _ (by omega)]; omega
  have hk1 : k + 1 ≤ s.size := hk
  have hkk : k ≤ k + 1 := Nat.le_succ k
  have hk0 : k ≤ s.size := Nat.le_of_lt hk
  obtain ⟨X, hX⟩ : ∃ X, X = s.extract k (k + 1) := ⟨_, rfl⟩
  have hXI := inv_size X
  rw [← hX] at HB HF hx1 hx3 hx4
  have HC := Lib.hid hX
  clear hb hX
  go_enter Try.func72, Try.ntmps72
  go_wp2_with fail
  go_region_with (first | (go_at_call 87; rw [← HC.out]; refine (l2Invert_c X _ (by omega) HB.out).mono ?_; rintro e w1 ⟨rfl, hb1⟩))
  all_goals
    have hb3 := (Below.drew (Below.refl w.heap.size w)).trans hb1
    clear hb1 wk
    go_wp2_with fail
    go_ret
    exact ⟨by rw [HF.out]; rfl, hb3⟩

set_option maxHeartbeats 800000 in
theorem l6Harm_c {w : World} {g p : Nat} (s : ByteArray) (h : Rdr w g p) (hp : p ≤ 1073740000) (hs : s.size ≤ 600) (hb : allS bitC s = true) : Calls Try.prog 39 #[.pointer (some ⟨g, 0, none⟩), .string s] w (TextH w g p s.size) := by
  have hgl := h.lt
  have HB := Lib.hid hb
  clear hb
  go_enter Try.func39, Try.ntmps39
  go_wp2_with fail
  refine (num_lit [0, 1, 0, 2, 3] h (by omega) rfl rfl (by decide) (by decide)).mono ?_; rintro e w1 ⟨x, rfl, hx, hr1, hg1⟩
  have hgA := (gr_of_below ((Below.refl w.heap.size w).alloc (Nat.le_refl w.heap.size) _) (some g)).trans hg1
  have hx2 : 0 ≤ x ∧ x ≤ 3 := by simp at hx; omega
  clear hx hg1 h
  obtain ⟨n, rfl⟩ := Int.eq_ofNat_of_zero_le hx2.1
  have hn3 : n ≤ 3 := by omega
  clear hx2
  go_wp2_with fail
  go_loopw [1, 5] (fun v i wr => ∃ (k : Nat) (u : ByteArray) (q : Nat), k ≤ n ∧ i = .int .i64 (k : Nat) ∧ v = .string u ∧ Hid (u.size = s.size ∧ allS bitC u = true) ∧ p + 1 ≤ q ∧ q + 2 * k ≤ p + 7 ∧ Rdr wr g q ∧ w.grownBy wr (some g)) (fun _ i _ => (intOf i).toNat)
  case atStart => exact ⟨n, s, p + 1, Nat.le_refl _, rfl, rfl, Lib.hid ⟨rfl, HB.out⟩, Nat.le_refl _, by omega, hr1, hgA⟩
  case round =>
    clear hr1 hgA
    obtain ⟨k, u, q, hk, rfl, rfl, HU, hq0, hq1, hr, hg⟩ := hrel
    have hus : u.size ≤ 600 := by rw [HU.out.1]; exact hs
    by_cases hk0 : 0 < k
    · by_cases hu0 : 0 < u.size
      · go_wp2_with fail
        refine (pick_c _ hr (by omega)).mono ?_; rintro e w4 ⟨a, rfl, a0, a1, hr4, hg4⟩
        have hgB := hg.trans hg4
        clear hr hg hg4
        go_wp2_with fail
        refine (pick_c _ hr4 (by omega)).mono ?_; rintro e w5 ⟨b, rfl, b0, b1, hr5, hg5⟩
        have hgC := hgB.trans hg5
        clear hr4 hgB hg5
        obtain ⟨A, rfl⟩ := Int.eq_ofNat_of_zero_le a0
        obtain ⟨B, rfl⟩ := Int.eq_ofNat_of_zero_le b0
        obtain ⟨r, hr⟩ : ∃ r, r = (A + B) % u.size := ⟨_, rfl⟩
        have hru : r < u.size := by rw [hr]; exact Nat.mod_lt _ hu0
        have e1 : ((A : Int) + (B : Int)).tmod (u.size : Int) = (r : Int) := by rw [hr]; rfl
        have e2 : ((A : Int) + (B : Int)) % (u.size : Int) = (r : Int) := by rw [hr]; rfl
        have hne : ((u.size : Int) == 0) = false := by rw [beq_eq_false_iff_ne]; omega
        have hA : A < 256 := by rcases a1 with h | h <;> omega
        have hB : B < 256 := by rcases b1 with h | h <;> omega
        clear hr a0 b0 a1 b1
        have HFZ := Lib.hid (flip_size hru)
        have HFB := Lib.hid (flip_bits r HU.out.2)
        have hz := hgC.size
        go_wp2_with fail
        refine (l6Flip_c u r _ hru (by omega) HU.out.2).mono ?_; rintro e w6 ⟨rfl, hb6⟩
        have hr6 := hr5.below hb6
        have hgD := gr_trans_below hgC hb6
        clear e1 e2 hr5 hgC hb6
        go_wp2_with fail
        go_roundw
        case rel => exact ⟨k - 1, flipT u r, q + 1 + 1, by omega, by go_num, rfl, Lib.hid ⟨HFZ.out.trans HU.out.1, HFB.out⟩, by omega, by omega, hr6, hgD⟩
        case measure => simp [intOf]; omega
      · have hu0' : ¬ (0 : Int) < (u.size : Int) := by omega
        go_wp2_with fail
        go_ret
        exact ⟨u, q, rfl, HU.out.1, HU.out.2, by omega, by omega, hr, hg⟩
    · have hk0' : ¬ (0 : Int) < (k : Int) := by omega
      go_wp2_with fail
      go_ret
      exact ⟨u, q, rfl, HU.out.1, HU.out.2, by omega, by omega, hr, hg⟩

end Go.Proofs.Ytbgabjdgbibohaa
