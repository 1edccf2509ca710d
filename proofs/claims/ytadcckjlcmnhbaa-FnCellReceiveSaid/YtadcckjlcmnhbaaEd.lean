/- Draws of texts: l1String, l9Many, l6Wild; copies that are drawn. No condition beyond lengths. -/
import Derived.Test.YtadcckjlcmnhbaaDx
import Derived.Test.YtadcckjlcmnhbaaSh
namespace Go.Proofs.Ytadcckjlcmnhbaa
open Go.RowKit

/-- What a draw out of a list of texts leaves. -/
def PickS (w : World) (g p : Nat) (l : List ByteArray) (e : Ending) (w' : World) : Prop :=
  ∃ v : ByteArray, e = .returned (.string v) ∧ v ∈ l ∧ Rdr w' g (p + 1) ∧ w.grownBy w' (some g)
/-- A text that was drawn, with a bound. -/
def TextP (w : World) (g p k m : Nat) (e : Ending) (w' : World) : Prop :=
  ∃ v : ByteArray, ∃ q, e = .returned (.string v) ∧ v.size ≤ m ∧ p ≤ q ∧ q ≤ p + k ∧ Rdr w' g q ∧ w.grownBy w' (some g)
/-- Texts that were drawn. -/
def TextsP (w : World) (e : Ending) (w' : World) : Prop :=
  ∃ ao n c, ∃ l : List ByteArray, e = .returned (.slice ao n c) ∧ RdT w' ao n l ∧ n ≤ c ∧ (ao = none → c = 0) ∧ l.length ≤ 5 ∧ (∀ s ∈ l, s.size ≤ 21) ∧ (∀ a, ao = some a → w.heap.size ≤ a.block) ∧ Below w.heap.size w w'

set_option maxHeartbeats 800000 in
theorem ofS_c {w : World} {g p n c : Nat} {ao : Option Addr} {l : List ByteArray} (h : Rdr w g p) (hp : p ≤ 1073741824) (hR : RdT w ao n l) (hne : ∀ a, ao = some a → 0 < n → a.block ≠ g) (hn : 0 < n) :
    Calls Try.prog 113 #[.pointer (some ⟨g, 0, none⟩), .slice ao n c] w (PickS w g p l) := by
  have hs := hR.2.1
  go_enter Try.func113, Try.ntmps113
  go_wp2_with fail
  refine (pick_c _ h hp).mono ?_; rintro e w1 ⟨v, rfl, h0, h1, hr1, hg1⟩
  obtain ⟨k, rfl⟩ := Int.eq_ofNat_of_zero_le h0
  have hk : k < n := by omega
  obtain ⟨b, off, rfl, hl, hc⟩ := (hR.gr hg1 hne).at hk
  clear h1
  go_wp2_with fail
  go_ret
  exact ⟨_, rfl, List.getElem_mem hl, hr1, hg1⟩
theorem rdS_lit (w : World) (l : List ByteArray) (t : TypeId) (b n : Nat) (hb : b = w.heap.size) (hn : n = l.length) (hs : l.length ≤ 1099511627776) : RdT (w.alloc (.cells (l.map Value.string).toArray t)) (some ⟨b, 0, none⟩) n l := by
  subst hb hn
  refine ⟨rfl, hs, fun i hi => ⟨w.heap.size, 0, rfl, ?_⟩⟩
  rw [Nat.zero_add]
  exact (Box.new w _ t).cell (by simp [hi])
theorem ofS_lit {w : World} {g p n b c : Nat} {t : TypeId} (l : List ByteArray) (h : Rdr w g p) (hp : p ≤ 1073741824) (hb : b = w.heap.size) (hn : n = l.length) (hs : l.length ≤ 1099511627776) (hn0 : 0 < n) :
    Calls Try.prog 113 #[.pointer (some ⟨g, 0, none⟩), .slice (some ⟨b, 0, none⟩) n c] (w.alloc (.cells (l.map Value.string).toArray t)) (PickS (w.alloc (.cells (l.map Value.string).toArray t)) g p l) := by
  refine ofS_c (h.alloc _) hp (rdS_lit w l t b n hb hn hs) ?_ hn0
  intro a ha
  cases ha
  have := h.lt
  intro _
  show b ≠ g
  omega

theorem wp_make0B {ops : Array Oper} {rest : List Oper} {o : Oper} {a : Act} {Q : Exit → Act → World → Prop} (w : World) (hgd : o.guard = none) (s x : Operand)
    (hop : o.op = Op.makeSlice 22 s x) (kl kc : IntKind) (n : Nat) (C : Int) (hC : C = n) (hs : a.eval s = .int kl 0) (hx : a.eval x = .int kc C) (hn : n ≤ 1099511627776)
    (h : ∀ w', OwnVB w' w.heap.size (.slice (some ⟨w.heap.size, 0, none⟩) 0 n) [] → Below w.heap.size w w' →
      wpList Try.prog ops Q rest (a.put o.dst (.slice (some ⟨w.heap.size, 0, none⟩) 0 n)) w') :
    wpList Try.prog ops Q (o :: rest) a w := by
  obtain ⟨i0, hi, hz0, hz1, hz2⟩ := info_parts info_u8
  refine wpList_make_own w hgd s x 22 hop w.heap.size 5 i0 _ 1 Try.underlying22 hi hz0 hz1 kl kc C n hs hx hC (by rw [hz2]; omega) (by unfold maxLen; omega) (Nat.le_refl _) ?_
  intro w1 h1 h2
  exact h w1 h1 ((Below.refl _ _).grown h2 (Nat.le_refl _) (by intro k hk; cases hk))

set_option maxRecDepth 100000 in
set_option maxHeartbeats 800000 in
theorem l1String_c {w : World} {g p : Nat} (most : Nat) (h : Rdr w g p) (hp : p ≤ 1073740000) (hm : most ≤ 20) : Calls Try.prog 26 #[.pointer (some ⟨g, 0, none⟩), .int .i64 most] w (TextP w g p 21 most) := by
  have hgl := h.lt
  go_enter Try.func26, Try.ntmps26
  go_wp2_with (at_make; refine wp_make0B w rfl _ _ rfl .i64 .i64 most _ rfl rfl rfl (by omega) ?_; intro w1 ho0 hb0)
  have hr0 := h.below hb0
  have hg0 := gr_of_below hb0 (some g)
  clear h hb0
  go_wp2_with fail
  refine (pick_c _ hr0 (by omega)).mono ?_; rintro e w3 ⟨m, rfl, m0, m1, hr4, hg4⟩
  have hgD := hg0.trans hg4
  have ho1 : OwnVB w3 w.heap.size _ [] := ownsRow_gr ho0 hg4 hgl
  clear hg4 hr0 ho0 hg0
  go_wp2_with fail
  go_loopw [5, 6] (fun v i wr => ∃ (k : Nat) (l : List Int), i = .int .i64 (k : Nat) ∧ l.length + k ≤ most ∧ OwnVB wr w.heap.size v l ∧ Rdr wr g (p + 1 + l.length) ∧ w.grownBy wr (some g)) (fun _ i _ => (intOf i).toNat)
  case atStart =>
    obtain ⟨k, hk⟩ := Int.eq_ofNat_of_zero_le m0
    exact ⟨k, [], by rw [hk], by simp; omega, ho1, hr4, hgD⟩
  case round =>
    clear ho1 hr4 hgD m0 m1
    obtain ⟨k, l, rfl, hlk, ho, hr, hg⟩ := hrel
    have hz := hg.size
    by_cases hk0 : 0 < k
    · go_wp2_with fail
      refine (pick_c _ hr (by omega)).mono ?_; rintro e w4 ⟨v2, rfl, v20, v21, hr5, hg5⟩
      have ho2 : OwnVB w4 w.heap.size _ l := ownsRow_gr ho hg5 hgl
      have hgE := hg.trans hg5
      have hzE := hgE.size
      clear ho hg hg5 hr
      obtain rfl | rfl : v2 = 0 ∨ v2 = 1 := by omega
      · clear v20 v21
        go_wp2_with (at_builtin; refine wp_app1F 22 5 1 (0 : Int) Try.underlying22 info_u8 rfl (by decide) (fun _ => rfl) w4 rfl _ _ rfl w.heap.size _ l 48 rfl (by exact ho2) rfl (by omega) hzE ?_; intro v' w5 ho3 _ hb5)
        have hr6 := hr5.farGt2 hb5 hgl
        have hgF := gr_trans_below2 hgE hb5
        clear ho2 hr5 hgE hb5
        go_roundw
        case rel => exact ⟨k - 1, l ++ [48], by go_num, by simp; omega, ho3, by simpa [Nat.add_assoc] using hr6, hgF⟩
        case measure => simp [intOf]; omega
      · clear v20 v21
        go_wp2_with (at_builtin; refine wp_app1F 22 5 1 (0 : Int) Try.underlying22 info_u8 rfl (by decide) (fun _ => rfl) w4 rfl _ _ rfl w.heap.size _ l 49 rfl (by exact ho2) rfl (by omega) hzE ?_; intro v' w5 ho3 _ hb5)
        have hr6 := hr5.farGt2 hb5 hgl
        have hgF := gr_trans_below2 hgE hb5
        clear ho2 hr5 hgE hb5
        go_roundw
        case rel => exact ⟨k - 1, l ++ [49], by go_num, by simp; omega, ho3, by simpa [Nat.add_assoc] using hr6, hgF⟩
        case measure => simp [intOf]; omega
    · obtain rfl : k = 0 := by omega
      obtain ⟨a2, n2, c2, hv, ho2⟩ := OwnVF.own ho (by omega)
      subst hv
      have hrd := ho2.rd
      clear ho ho2
      go_wp2_with (with_reducible refine wp_text 22 5 9 Try.underlying22 Try.underlying5 Try.underlying9 _ rfl (.tmp 24) rfl rfl hrd ?_)
      go_ret
      exact ⟨text l, _, rfl, by rw [text_size]; omega, by omega, by omega, hr, hg⟩

set_option maxRecDepth 100000 in
set_option maxHeartbeats 800000 in
theorem l9ManyZ_c (n : Nat) (w : World) (hn : n ≤ 601) : Calls Try.prog 45 #[.string ⟨#[48]⟩, .int .i64 n] w fun e w' => (∃ s : ByteArray, e = .returned (.string s) ∧ s.size ≤ 601) ∧ w = w' := by
  go_enter Try.func45, Try.ntmps45
  go_wp2_with fail
  go_loop [0, 1, 5] (fun s i o => ∃ (k : Nat) (S O : ByteArray), i = .int .i64 k ∧ s = .string S ∧ o = .string O ∧ k ≤ 601 ∧ O.size + S.size * k ≤ 601 ∧ S.size ≤ 1202) (fun _ i _ => (intOf i).toNat)
  case atStart => exact ⟨n, ⟨#[48]⟩, ⟨#[]⟩, rfl, rfl, rfl, hn, by show 0 + 1 * n ≤ 601; omega, by show 1 ≤ 1202; omega⟩
  case round =>
    obtain ⟨k, S, O, rfl, rfl, rfl, hk, hsz, hS⟩ := hrel
    have hO : O.size ≤ 601 := by omega
    by_cases hk0 : 0 < k
    · have hS2 : S.size ≤ 601 := by
        have := Nat.le_mul_of_pos_right S.size hk0; omega
      obtain ⟨j, rfl | rfl⟩ : ∃ j, k = 2 * j ∨ k = 2 * j + 1 := ⟨k / 2, by omega⟩
      · have e1 : ((2 * j : Nat) : Int).tmod 2 = 0 := (show ((2 * j : Nat) : Int).tmod 2 = (((2 * j) % 2 : Nat) : Int) from rfl).trans (by omega)
        have e2 : ((2 * j : Nat) : Int).tdiv 2 = (j : Nat) := (show ((2 * j : Nat) : Int).tdiv 2 = (((2 * j) / 2 : Nat) : Int) from rfl).trans (by omega)
        have e3 : S.size * (2 * j) = 2 * (S.size * j) := by rw [Nat.mul_left_comm]
        go_wp2
        go_round
        case rel => exact ⟨j, S ++ S, O, by go_num, rfl, rfl, by omega, by rw [ByteArray.size_append, Nat.add_mul]; omega, by rw [ByteArray.size_append]; omega⟩
        case measure => simp [intOf]; omega
      · have e1 : ((2 * j + 1 : Nat) : Int).tmod 2 = 1 := (show ((2 * j + 1 : Nat) : Int).tmod 2 = (((2 * j + 1) % 2 : Nat) : Int) from rfl).trans (by omega)
        have e2 : ((2 * j + 1 : Nat) : Int).tdiv 2 = (j : Nat) := (show ((2 * j + 1 : Nat) : Int).tdiv 2 = (((2 * j + 1) / 2 : Nat) : Int) from rfl).trans (by omega)
        have e3 : S.size * (2 * j + 1) = 2 * (S.size * j) + S.size := by rw [Nat.mul_add, Nat.mul_left_comm, Nat.mul_one]
        go_wp2
        go_round
        case rel => exact ⟨j, S ++ S, O ++ S, by go_num, rfl, rfl, by omega, by rw [ByteArray.size_append, ByteArray.size_append, Nat.add_mul]; omega, by rw [ByteArray.size_append]; omega⟩
        case measure => simp [intOf]; omega
    · obtain rfl : k = 0 := by omega
      go_wp2
      go_ret
      exact ⟨⟨O, rfl, hO⟩, rfl⟩

end Go.Proofs.Ytadcckjlcmnhbaa
