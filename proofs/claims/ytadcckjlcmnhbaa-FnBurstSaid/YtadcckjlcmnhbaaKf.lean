/- Draws of chapter 6: streams of frames, harmed bits. No condition beyond lengths. -/
import Derived.Test.YtadcckjlcmnhbaaKg
import Derived.Test.YtadcckjlcmnhbaaEd
namespace Go.Proofs.Ytadcckjlcmnhbaa
open Go.RowKit

/-- Bits that were drawn, with a bound. -/
def TextB (w : World) (g p k m : Nat) (e : Ending) (w' : World) : Prop :=
  ∃ v : ByteArray, ∃ q, e = .returned (.string v) ∧ v.size ≤ m ∧ allS bitC v = true ∧ p ≤ q ∧ q ≤ p + k ∧ Rdr w' g q ∧ w.grownBy w' (some g)
/-- Bits that were drawn, of one length. -/
def TextH (w : World) (g p m : Nat) (e : Ending) (w' : World) : Prop :=
  ∃ v : ByteArray, ∃ q, e = .returned (.string v) ∧ v.size = m ∧ allS bitC v = true ∧ p ≤ q ∧ q ≤ p + 7 ∧ Rdr w' g q ∧ w.grownBy w' (some g)
theorem allS_text {l : List Int} (h : ∀ x ∈ l, x = 48 ∨ x = 49) : allS bitC (text l) = true := by
  unfold allS text
  rw [List.all_eq_true]
  intro c hc
  simp only [List.mem_map] at hc
  obtain ⟨x, hx, rfl⟩ := hc
  rcases h x hx with rfl | rfl <;> rfl
theorem bit_snoc {l : List Int} {y : Int} (h : ∀ x ∈ l, x = 48 ∨ x = 49) (hy : y = 48 ∨ y = 49) : ∀ x ∈ l ++ [y], x = 48 ∨ x = 49 := by
  intro x hx
  rcases List.mem_append.1 hx with h1 | h1
  · exact h x h1
  · rw [List.mem_singleton.1 h1]; exact hy
def flipT (s : ByteArray) (k : Nat) : ByteArray := s.extract 0 k ++ invT (s.extract k (k + 1)) ++ s.extract (k + 1) s.size
theorem flip_size {s : ByteArray} {k : Nat} (h : k < s.size) : (flipT s k).size = s.size := by
  unfold flipT; rw [ap_size, ap_size, inv_size, ex_size (by omega), ex_size (by omega), ex_size (by omega)]; omega
theorem flip_bits {s : ByteArray} (k : Nat) (h : allS bitC s = true) : allS bitC (flipT s k) = true := by
  unfold flipT; rw [allS_ap, allS_ap, allS_ex _ _ h, inv_all (allS_ex _ _ h), allS_ex _ _ h]; rfl

set_option maxHeartbeats 800000 in
theorem l1StringB_c {w : World} {g p : Nat} (most : Nat) (h : Rdr w g p) (hp : p ≤ 1073740000) (hm : most ≤ 40) : Calls Try.prog 26 #[.pointer (some ⟨g, 0, none⟩), .int .i64 most] w (TextB w g p (most + 1) most) := by
  have hgl := h.lt
  go_enter Try.func26, Try.ntmps26
  go_wp2_with (at_make; refine wp_make0B w rfl _ _ rfl .i64 .i64 most _ rfl rfl rfl (by omega) ?_; intro w1 ho0 hb0)
  have hr0 := h.below hb0
  have hg0 := gr_of_below hb0 (some g)
  clear h hb0
  go_wp2_with fail
  refine (pick_c _ hr0 (by omega)).mono ?_; rintro e w3 ⟨m, rfl, m0, m1, hr4, hg4⟩
  have hgD := hg0.trans hg4
  have ho1 : OwnVB w3 w.heap.size _ [] := ownsRow_gr ho0 hg4 hgl
  clear hg4 hr0 ho0 hg0
  go_wp2_with fail
  go_loopw [5, 6] (fun v i wr => ∃ (k : Nat) (l : List Int), i = .int .i64 (k : Nat) ∧ l.length + k ≤ most ∧ Hid (∀ x ∈ l, x = 48 ∨ x = 49) ∧ OwnVB wr w.heap.size v l ∧ Rdr wr g (p + 1 + l.length) ∧ w.grownBy wr (some g)) (fun _ i _ => (intOf i).toNat)
  case atStart =>
    obtain ⟨k, hk⟩ := Int.eq_ofNat_of_zero_le m0
    exact ⟨k, [], by rw [hk], by simp; omega, Lib.hid (fun x hx => by cases hx), ho1, hr4, hgD⟩
  case round =>
    clear ho1 hr4 hgD m0 m1
    obtain ⟨k, l, rfl, hlk, HX, ho, hr, hg⟩ := hrel
    have hz := hg.size
    by_cases hk0 : 0 < k
    · go_wp2_with fail
      refine (pick_c _ hr (by omega)).mono ?_; rintro e w4 ⟨v2, rfl, v20, v21, hr5, hg5⟩
      have ho2 : OwnVB w4 w.heap.size _ l := ownsRow_gr ho hg5 hgl
      have hgE := hg.trans hg5
      have hzE := hgE.size
      clear ho hg hg5 hr
      obtain rfl | rfl : v2 = 0 ∨ v2 = 1 := by omega
      · clear v20 v21
        go_wp2_with (at_builtin; refine wp_app1F 22 5 1 (0 : Int) Try.underlying22 info_u8 rfl (by decide) (fun _ => rfl) w4 rfl _ _ rfl w.heap.size _ l 48 rfl (by exact ho2) rfl (by omega) hzE ?_; intro v' w5 ho3 _ hb5)
        have hr6 := hr5.farGt2 hb5 hgl
        have hgF := gr_trans_below2 hgE hb5
        clear ho2 hr5 hgE hb5
        go_roundw
        case rel => exact ⟨k - 1, l ++ [48], by go_num, by simp; omega, Lib.hid (bit_snoc HX.out (.inl rfl)), ho3, by simpa [Nat.add_assoc] using hr6, hgF⟩
        case measure => simp [intOf]; omega
      · clear v20 v21
        go_wp2_with (at_builtin; refine wp_app1F 22 5 1 (0 : Int) Try.underlying22 info_u8 rfl (by decide) (fun _ => rfl) w4 rfl _ _ rfl w.heap.size _ l 49 rfl (by exact ho2) rfl (by omega) hzE ?_; intro v' w5 ho3 _ hb5)
        have hr6 := hr5.farGt2 hb5 hgl
        have hgF := gr_trans_below2 hgE hb5
        clear ho2 hr5 hgE hb5
        go_roundw
        case rel => exact ⟨k - 1, l ++ [49], by go_num, by simp; omega, Lib.hid (bit_snoc HX.out (.inr rfl)), ho3, by simpa [Nat.add_assoc] using hr6, hgF⟩
        case measure => simp [intOf]; omega
    · obtain rfl : k = 0 := by omega
      obtain ⟨a2, n2, c2, hv, ho2⟩ := OwnVF.own ho (by omega)
      subst hv
      have hrd := ho2.rd
      clear ho ho2
      go_wp2_with (with_reducible refine wp_text 22 5 9 Try.underlying22 Try.underlying5 Try.underlying9 _ rfl (.tmp 24) rfl rfl hrd ?_)
      go_ret
      exact ⟨text l, _, rfl, by rw [text_size]; omega, allS_text HX.out, by omega, by omega, hr, hg⟩

end Go.Proofs.Ytadcckjlcmnhbaa
