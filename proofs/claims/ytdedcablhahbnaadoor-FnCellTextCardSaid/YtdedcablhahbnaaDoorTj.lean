/- Cuts at a byte (l9Cut of the reference) and numerals (l9Dec of the reference). No condition beyond lengths. -/
import Derived.Test.YtdedcablhahbnaaDoorTh
import Derived.Test.YtdedcablhahbnaaDoorG
namespace Go.Proofs.YtdedcablhahbnaaDoor
open Go.RowKit

def subL (l : Byts) (a b : Nat) : Byts := (l.take b).drop a
theorem subL_nil (l : Byts) (a : Nat) : subL l a a = [] := by unfold subL; exact List.drop_of_length_le (by rw [List.length_take]; omega)
theorem subL_step {l : Byts} {a b : Nat} (h : a ≤ b) (hb : b < l.length) : subL l a (b + 1) = subL l a b ++ [l[b]] := by
  unfold subL; rw [List.take_succ_eq_append_getElem hb, List.drop_append_of_le_length (by rw [List.length_take]; omega)]
theorem bts_extract (s : ByteArray) {a b : Nat} (_h : a ≤ b) : bts (s.extract a b) = subL (bts s) a b := by
  unfold bts subL
  rw [Lib.extract_data, List.drop_take]
/-- How far a cut has come. -/
def cutAt (c : UInt8) (s : ByteArray) (P : List ByteArray) (F k : Nat) : Prop := P.map bts ++ cutF c (subL (bts s) F k) ((bts s).drop k) = cutL c (bts s)
theorem cutAt_start (c : UInt8) (s : ByteArray) : cutAt c s [] 0 0 := by
  unfold cutAt; rw [subL_nil]; rfl
theorem cutAt_end {c : UInt8} {s : ByteArray} {P : List ByteArray} {F k : Nat} (h : cutAt c s P F k) (hF : F ≤ k) (hk : k = s.size) : P ++ [s.extract F k] = cutT c s := by
  apply map_bts_inj
  rw [cutT_bts, ← h, List.map_append, List.drop_of_length_le (by rw [bts_len]; omega), cutF, List.map_cons, bts_extract s hF]; rfl
theorem cutAt_hit {c : UInt8} {s : ByteArray} {P : List ByteArray} {F k : Nat} (h : cutAt c s P F k) (hF : F ≤ k) (hk : k < s.size) (hc : s[k] = c) : cutAt c s (P ++ [s.extract F k]) (k + 1) (k + 1) := by
  have hk' : k < (bts s).length := hk
  have hc' : (bts s)[k] = c := hc
  unfold cutAt at *
  rw [List.drop_eq_getElem_cons hk', cutF, if_pos hc'] at h
  rw [← h, List.map_append, subL_nil, List.append_assoc, List.map_cons, bts_extract s hF]; rfl
theorem cutAt_miss {c : UInt8} {s : ByteArray} {P : List ByteArray} {F k : Nat} (h : cutAt c s P F k) (hF : F ≤ k) (hk : k < s.size) (hc : s[k] ≠ c) : cutAt c s P F (k + 1) := by
  have hk' : k < (bts s).length := hk
  have hc' : (bts s)[k] ≠ c := hc
  unfold cutAt at *
  rw [List.drop_eq_getElem_cons hk', cutF, if_neg hc'] at h
  rw [← h, subL_step hF hk']
def RetTx (w : World) (l : List ByteArray) (e : Ending) (w' : World) : Prop := ∃ ao n c, e = .returned (.slice ao n c) ∧ OwnT w' w.heap.size ao n c l ∧ Below w.heap.size w w'

set_option maxRecDepth 100000 in
set_option maxHeartbeats 1600000 in
theorem l9Cut_c (s : ByteArray) (C : UInt8) (c : Int) (hc : c = (C.toNat : Int)) (w : World) (hs : s.size ≤ 1000000000) : Calls Tryd.prog 28 #[.string s, .int .u8 c] w (RetTx w (cutT C s)) := by
  have HC := Lib.hid hc
  clear hc
  have hb0 : Below w.heap.size w (w.alloc (.cells #[] 9)) := (Below.refl _ _).alloc (Nat.le_refl _) _
  have ho0 : OwnVT (w.alloc (.cells #[] 9)) w.heap.size (.slice (some ⟨w.heap.size, 0, none⟩) 0 0) [] := OwnVF.made0 _ _ w (Nat.le_refl _)
  go_enter Tryd.func28, Tryd.ntmps28
  go_wp2_with fail
  go_loopw [5, 6, 7] (fun v f i wr => ∃ (k F : Nat) (P : List ByteArray), k ≤ s.size + 1 ∧ i = .int .i64 k ∧ f = .int .i64 F ∧ F ≤ k ∧ Hid (P.length ≤ k) ∧ Hid (k ≤ s.size → cutAt C s P F k) ∧ Hid (k = s.size + 1 → P = cutT C s) ∧ OwnVT wr w.heap.size v P ∧ Below w.heap.size w wr) (fun _ _ i _ => s.size + 1 - (intOf i).toNat)
  case atStart => exact ⟨0, 0, [], by omega, rfl, rfl, Nat.le_refl _, Lib.hid (by simp), Lib.hid (fun _ => cutAt_start C s), Lib.hid (fun h => by omega), ho0, hb0⟩
  case round =>
    clear ho0 hb0
    obtain ⟨k, F, P, hk, rfl, rfl, hF, HP, HA, HZ, ho, hb⟩ := hrel
    have hz := hb.size
    by_cases hlt : k ≤ s.size
    · have hle : (k : Int) ≤ (s.size : Int) := by omega
      have hA := Lib.hid (HA.out hlt)
      by_cases he : k = s.size
      · have HE := Lib.hid (cutAt_end hA.out hF he)
        have heq : ((k : Int) == (s.size : Int)) = true := by rw [beq_iff_eq]; omega
        have hFk : (F : Int) ≤ (k : Int) := by omega
        have hp9 : P.length ≤ k := HP.out
        have HEK := Lib.hid he
        clear he
        go_wp2_with (at_builtin; refine wp_app1F 35 9 16 ByteArray.empty Tryd.underlying35 info_str rfl (by decide) (fun _ => rfl) wr rfl _ _ rfl w.heap.size _ P _ rfl (by exact ho) rfl (by omega) hz ?_; intro v' w5 ho5 _ hb5)
        have hb6 := hb.trans hb5
        rw [HE.out] at ho5
        go_roundw
        case rel => exact ⟨k + 1, k + 1, _, by omega, by go_num, by go_num, Nat.le_refl _, Lib.hid (by rw [← HE.out]; simp; omega), Lib.hid (fun h => by have := HEK.out; omega), Lib.hid (fun _ => rfl), ho5, hb6⟩
        case measure => simp [intOf]; omega
      · have heq : ((k : Int) == (s.size : Int)) = false := by rw [beq_eq_false_iff_ne]; omega
        have hks : k < s.size := by omega
        clear he
        by_cases hcc : s[k] = C
        · have HH := Lib.hid (cutAt_hit hA.out hF hks hcc)
          have hce : ((s[k].toNat : Int) == c) = true := by rw [HC.out, hcc]; simp
          have hFk : (F : Int) ≤ (k : Int) := by omega
          have hp9 : P.length ≤ k := HP.out
          clear hcc
          go_wp2_with (at_builtin; refine wp_app1F 35 9 16 ByteArray.empty Tryd.underlying35 info_str rfl (by decide) (fun _ => rfl) wr rfl _ _ rfl w.heap.size _ P _ rfl (by exact ho) rfl (by omega) hz ?_; intro v' w5 ho5 _ hb5)
          have hb6 := hb.trans hb5
          go_roundw
          case rel => exact ⟨k + 1, k + 1, _, by omega, by go_num, by go_num, Nat.le_refl _, Lib.hid (by simp; omega), Lib.hid (fun _ => HH.out), Lib.hid (fun h => by omega), ho5, hb6⟩
          case measure => simp [intOf]; omega
        · have HM := Lib.hid (cutAt_miss hA.out hF hks hcc)
          have hce : ((s[k].toNat : Int) == c) = false := by
            rw [HC.out, beq_eq_false_iff_ne]
            intro e
            exact hcc (UInt8.toNat_inj.1 (by omega))
          have hp9 : P.length ≤ k := HP.out
          clear hcc
          go_wp2_with fail
          go_roundw
          case rel => exact ⟨k + 1, F, P, by omega, by go_num, rfl, by omega, Lib.hid (by omega), Lib.hid (fun _ => HM.out), Lib.hid (fun h => by omega), ho, hb⟩
          case measure => simp [intOf]; omega
    · have hle : ¬ (k : Int) ≤ (s.size : Int) := by omega
      have hp := HZ.out (by omega)
      have hp9 : P.length ≤ k := HP.out
      obtain ⟨a2, n2, c2, hv, ho2⟩ := ho.own (by omega)
      subst hv
      rw [hp] at ho2
      clear hp
      go_wp2_with fail
      go_ret
      exact ⟨a2, n2, c2, rfl, ho2, hb⟩

theorem dec_app {u : Nat} (h : ¬ u < 10) : Lib.decDigits u = Lib.decDigits (u / 10) ++ [UInt8.ofNat (48 + u % 10)] := by rw [Lib.decDigits, dif_neg h]
theorem txt_app (a b : Byts) : txt a ++ txt b = txt (a ++ b) := by
  apply ByteArray.ext; simp [txt]
theorem text_one (u : Nat) : text [((48 + u : Nat) : Int)] = txt [UInt8.ofNat (48 + u)] := rfl
theorem dec_le {n : Nat} (h : n ≤ 9223372036854775807) : (Lib.decDigits n).length ≤ 21 := by
  have := Lib.itoa_length_le (n : Int) (by omega) (by omega)
  rwa [Lib.itoa_nonneg] at this
theorem one_sz (u : Int) : (text [u]).size = 1 := by rw [text_size]; rfl

set_option maxRecDepth 100000 in
set_option maxHeartbeats 1600000 in
theorem l9DecN_c (n : Nat) (w : World) (h : n ≤ 9223372036854775807) : Calls Tryd.prog 19 #[.int .i64 n] w fun e w' => e = .returned (.string (txt (Lib.decDigits n))) ∧ Below w.heap.size w w' := by
  have HL := Lib.hid (dec_le h)
  go_enter Tryd.func19, Tryd.ntmps19
  go_wp2_with fail
  go_loopw [0, 3] (fun i o wr => ∃ (m : Nat) (x : ByteArray), i = .int .i64 m ∧ o = .string x ∧ m ≤ 9223372036854775807 ∧ Hid (Lib.decDigits n = Lib.decDigits m ++ bts x) ∧ Below w.heap.size w wr) (fun i _ _ => (intOf i).toNat)
  case atStart => exact ⟨n, ⟨#[]⟩, rfl, rfl, h, Lib.hid (by simp [bts]), Below.refl _ _⟩
  case round =>
    obtain ⟨m, x, rfl, rfl, hm, HX, hb⟩ := hrel
    have hx : x.size ≤ 21 := by
      have h1 := congrArg List.length HX.out
      have h2 := HL.out
      rw [List.length_append, bts_len] at h1
      omega
    by_cases hlt : 9 < m
    · have hlt' : (9 : Int) < (m : Int) := by omega
      have HS := Lib.hid (dec_app (u := m) (by omega))
      obtain ⟨r, hr⟩ : ∃ r, r = m % 10 := ⟨_, rfl⟩
      obtain ⟨q, hq⟩ : ∃ q, q = m / 10 := ⟨_, rfl⟩
      have hr9 : r ≤ 9 := by omega
      have hqm : q < m := by omega
      rw [← hr, ← hq] at HS
      have e1 : (m : Int) % 10 = (r : Int) := by omega
      have e2 : (m : Int) / 10 = (q : Int) := by omega
      have HN := Lib.hid (show text [48 + (r : Int)] ++ x = txt (UInt8.ofNat (48 + r) :: bts x) by
        rw [show (48 + (r : Int)) = ((48 + r : Nat) : Int) by omega, text_one]; exact txt_app _ (bts x))
      have hsum : ¬ (text [48 + (r : Int)]).size + x.size > 9223372036854775807 := by rw [one_sz]; omega
      have hb2 : Below w.heap.size w (wr.alloc (.cells #[.int .u8 (48 + (r : Int))] 5)) := hb.alloc hb.size _
      clear hr hq
      go_wp2_with (with_reducible refine wp_text 22 5 9 Tryd.underlying22 Tryd.underlying5 Tryd.underlying9 _ rfl (.tmp 18) rfl rfl (rdB_new _ _ _) ?_)
      rw [HN.out]
      clear e1 e2 hsum
      go_roundw
      case rel => exact ⟨q, _, rfl, rfl, by omega, Lib.hid (by rw [HX.out, HS.out, bts_txt]; simp), hb2⟩
      case measure => simp [intOf]; omega
    · have hlt' : ¬ (9 : Int) < (m : Int) := by omega
      have HN := Lib.hid (show text [48 + (m : Int)] ++ x = txt (Lib.decDigits n) by
        rw [show (48 + (m : Int)) = ((48 + m : Nat) : Int) by omega, text_one, HX.out, Lib.decDigits_one (by omega)]; exact txt_app _ (bts x))
      have hsum : ¬ (text [48 + (m : Int)]).size + x.size > 9223372036854775807 := by rw [one_sz]; omega
      have hm9 : m ≤ 9 := by omega
      have hb2 : Below w.heap.size w (wr.alloc (.cells #[.int .u8 (48 + (m : Int))] 5)) := hb.alloc hb.size _
      go_wp2_with (with_reducible refine wp_text 22 5 9 Tryd.underlying22 Tryd.underlying5 Tryd.underlying9 _ rfl (.tmp 27) rfl rfl (rdB_new _ _ _) ?_)
      go_ret
      exact ⟨by rw [← HN.out]; rfl, hb2⟩

set_option maxHeartbeats 800000 in
theorem l9DecI_c (n : Int) (w : World) (h0 : -9223372036854775807 ≤ n) (h1 : n ≤ 9223372036854775807) : Calls Tryd.prog 19 #[.int .i64 n] w fun e w' => e = .returned (.string (decT n)) ∧ Below w.heap.size w w' := by
  by_cases hn : n < 0
  · obtain ⟨u, rfl⟩ : ∃ u : Nat, n = -(u : Int) := ⟨n.natAbs, by omega⟩
    have HD := Lib.hid (show (⟨#[45]⟩ : ByteArray) ++ txt (Lib.decDigits u) = decT (-(u : Int)) by
      unfold decT; rw [Lib.itoa_neg u (by omega)]; exact txt_app [45] _)
    have HL := Lib.hid (dec_le (n := u) (by omega))
    have hz : (txt (Lib.decDigits u)).size ≤ 21 := by rw [txt_size]; exact HL.out
    have hneg : IntKind.i64.wrap (-(-(u : Int))) = (u : Int) := by rw [Int.neg_neg]; exact IntWalk.i64_in _ (by omega)
    have hneg2 : -(-(u : Int)) = (u : Int) := Int.neg_neg _
    have hsum : ¬ (⟨#[45]⟩ : ByteArray).size + (txt (Lib.decDigits u)).size > 9223372036854775807 := by
      have : (⟨#[45]⟩ : ByteArray).size = 1 := rfl
      omega
    go_enter Tryd.func19, Tryd.ntmps19
    go_wp2_with fail
    refine (l9DecN_c u _ (by omega)).mono ?_; rintro e w1 ⟨rfl, hb1⟩
    go_wp2_with fail
    go_ret
    exact ⟨by rw [← HD.out]; rfl, hb1⟩
  · obtain ⟨u, rfl⟩ := Int.eq_ofNat_of_zero_le (show 0 ≤ n by omega)
    refine (l9DecN_c u w (by omega)).mono ?_; rintro e w1 ⟨rfl, hb1⟩
    exact ⟨by unfold decT; rw [Lib.itoa_nonneg], hb1⟩

end Go.Proofs.YtdedcablhahbnaaDoor
