/- The remainder between 0 and n - 1 (modulo, l2Mod), MoveHops of the program and of the reference. No condition. -/
import Derived.Test.YtnklnafcbjnmfaaHl
namespace Go.Proofs.Ytnklnafcbjnmfaa
open Go.RowKit

theorem tmod_fix (k n : Int) (hn : 0 < n) : (if k.tmod n < 0 then k.tmod n + n else k.tmod n) = k % n := by
  rcases Int.lt_or_le k 0 with h | h
  · obtain ⟨j, rfl⟩ : ∃ j : Int, k = -j := ⟨-k, by omega⟩
    have hj : 0 < j := by omega
    rw [Int.neg_tmod, Int.tmod_eq_emod_of_nonneg (by omega)]
    have h1 := Int.emod_nonneg j (show n ≠ 0 by omega)
    have h2 := Int.emod_lt_of_pos j hn
    have h3 := Int.emod_nonneg (-j) (show n ≠ 0 by omega)
    have h4 := Int.emod_lt_of_pos (-j) hn
    have h5 := Int.mul_ediv_add_emod j n
    have h6 := Int.mul_ediv_add_emod (-j) n
    have h7 : n * (j / n + (-j) / n) = -(j % n + (-j) % n) := by rw [Int.mul_add]; omega
    rcases Int.lt_or_le 0 (j % n) with h8 | h8
    · rw [if_pos (by omega)]
      have hq : j / n + (-j) / n = -1 := by
        rcases Int.lt_trichotomy (j / n + (-j) / n) (-1) with h9 | h9 | h9
        · have : n * (j / n + (-j) / n) ≤ n * (-2) := Int.mul_le_mul_of_nonneg_left (by omega) (by omega)
          omega
        · exact h9
        · have : n * 0 ≤ n * (j / n + (-j) / n) := Int.mul_le_mul_of_nonneg_left (by omega) (by omega)
          omega
      rw [hq] at h7
      omega
    · rw [if_neg (by omega)]
      have hq : j / n + (-j) / n = 0 := by
        rcases Int.lt_trichotomy (j / n + (-j) / n) 0 with h9 | h9 | h9
        · have : n * (j / n + (-j) / n) ≤ n * (-1) := Int.mul_le_mul_of_nonneg_left (by omega) (by omega)
          omega
        · exact h9
        · have : n * 1 ≤ n * (j / n + (-j) / n) := Int.mul_le_mul_of_nonneg_left (by omega) (by omega)
          omega
      rw [hq] at h7
      omega
  · rw [Int.tmod_eq_emod_of_nonneg h, if_neg (by have := Int.emod_nonneg k (show n ≠ 0 by omega); omega)]

theorem tmod_bd (k n : Int) (hn : 0 < n) : -n < k.tmod n ∧ k.tmod n < n := ⟨Int.lt_tmod_of_pos k hn, Int.tmod_lt_of_pos k hn⟩

theorem tmod_fix2 (k n : Int) (hn : 0 < n) : (k.tmod n + n).tmod n = k % n := by
  have h := tmod_fix k n hn
  have hb := tmod_bd k n hn
  have h1 := Int.emod_nonneg k (show n ≠ 0 by omega)
  have h2 := Int.emod_lt_of_pos k hn
  rw [Int.tmod_eq_emod_of_nonneg (by omega), Int.add_emod_right]
  by_cases h3 : k.tmod n < 0
  · rw [if_pos h3] at h
    rw [← h, ← Int.add_emod_right, Int.emod_eq_of_lt (by rw [h]; exact h1) (by rw [h]; exact h2)]
  · rw [if_neg h3] at h
    rw [h, Int.emod_eq_of_lt h1 h2]

set_option maxHeartbeats 400000 in
theorem modulo_c (k n : Int) (w : World) (hn : 0 < n) (hm : n ≤ 1099511627776) : Calls Try.prog 63 #[.int .i64 k, .int .i64 n] w fun e w' => e = .returned (.int .i64 (k % n)) ∧ w = w' := by
  have h := tmod_fix k n hn
  have hb := tmod_bd k n hn
  have hne : (n == 0) = false := by simp; omega
  by_cases h3 : k.tmod n < 0
  · rw [if_pos h3] at h
    have H := Lib.hid h; clear h
    go_enter Try.func63, Try.ntmps63
    go_wp2
    go_ret
    exact ⟨ret_i H.out, rfl⟩
  · rw [if_neg h3] at h
    have H := Lib.hid h; clear h
    go_enter Try.func63, Try.ntmps63
    go_wp2
    go_ret
    exact ⟨ret_i H.out, rfl⟩

set_option maxHeartbeats 400000 in
theorem l2Mod_c (k n : Int) (w : World) (hn : 0 < n) (hm : n ≤ 1099511627776) : Calls Try.prog 73 #[.int .i64 k, .int .i64 n] w fun e w' => e = .returned (.int .i64 (k % n)) ∧ w = w' := by
  have h0 := tmod_fix2 k n hn
  have hb := tmod_bd k n hn
  have hne : (n == 0) = false := by simp; omega
  rw [Int.tmod_eq_emod_of_nonneg (a := k.tmod n + n) (by omega)] at h0
  have h := Lib.hid h0; clear h0
  go_enter Try.func73, Try.ntmps73
  go_wp2
  go_ret
  exact ⟨ret_i h.out, rfl⟩


def movOk (l : List Int) (ch d : Int) : Bool := hopsB l ch && inB d (-16) 16
def movHops (l : List Int) (ch d : Int) : Option (List Int) := if movOk l ch d = true then some (l.map fun x => (x + d) % ch) else none
theorem movHops_no {l : List Int} {ch d : Int} (h : movOk l ch d = false) : movHops l ch d = none := by simp [movHops, h]
theorem movHops_yes {l : List Int} {ch d : Int} (h : movOk l ch d = true) : movHops l ch d = some (l.map fun x => (x + d) % ch) := by simp [movHops, h]
theorem map_take_succ {f : Int → Int} {l : List Int} {k : Nat} (hk : k < l.length) : (l.take (k + 1)).map f = (l.take k).map f ++ [f l[k]] := by
  rw [List.take_succ_eq_append_getElem hk, List.map_append]; rfl

set_option maxHeartbeats 800000 in
theorem sMoveHops_c {ao : Option Addr} {n c : Nat} {l : List Int} (ch d : Int) {w : World} (h : Rd w ao n l) :
    Calls Try.prog 39 #[.slice ao n c, .int .i64 ch, .int .i64 d] w (RetIntsB w (movHops l ch d)) := by
  have hs := h.2.1
  have hn := h.1
  by_cases h1 : hopsB l ch = true
  · obtain ⟨hch, hln, hal⟩ := hopsB_ch h1
    by_cases h2 : inB d (-16) 16 = true
    · have h2' := inB_iff.1 h2
      have hr := Lib.hid (movHops_yes (show movOk l ch d = true by simp [movOk, h1, h2]))
      have HA := Lib.hid hal; have HN := Lib.hid hn
      clear hal
      subst hn
      go_enter Try.func39, Try.ntmps39
      go_wp2_with fail
      refine (sHopsValid_c _ (h.below ((Below.refl _ _).alloc (Nat.le_refl _) _))).mono ?_; rintro e w' ⟨rfl, rfl⟩
      go_wp2_with fail
      refine (l1In_c _ _ _ _).mono ?_; rintro e w' ⟨rfl, rfl⟩
      go_wp2_with fail
      go_loopw [8, 9] (fun v i wr => ∃ k : Nat, k ≤ l.length ∧ i = .int .i64 k ∧ OwnV wr w.heap.size v ((l.take k).map fun x => (x + d) % ch) ∧ Below w.heap.size w wr) (fun _ i _ => l.length - (intOf i).toNat)
      case atStart => exact ⟨0, Nat.zero_le _, rfl, OwnV.made0 w (Nat.le_refl _), (Below.refl _ _).alloc (Nat.le_refl _) _⟩
      case round =>
        obtain ⟨k, hk, rfl, hown, hb⟩ := hrel
        by_cases hlt : k < l.length
        · obtain ⟨bk, off, rfl, hl, hc⟩ := (h.below hb).at hlt
          obtain ⟨hx0, hx1⟩ := allB_get HA.out hl
          have hsz := hb.size
          go_wp2_with (first | (go_at_call 73; refine (l2Mod_c _ _ _ (by omega) (by omega)).mono ?_; rintro e w' ⟨rfl, rfl⟩) | (at_builtin; refine wp_app1 wr rfl _ _ rfl w.heap.size _ _ _ rfl (by exact hown) rfl (by simp; omega) hsz ?_; intro v' w1 hown' _ hb'))
          have hown2 : OwnV w1 w.heap.size v' ((l.take (k + 1)).map fun x => (x + d) % ch) := by rw [map_take_succ hl]; exact hown'
          have hb2 := hb.trans hb'
          clear hown' hown hb hb'
          go_wp2
          go_roundw
          case rel => exact ⟨k + 1, by omega, by go_num, hown2, hb2⟩
          case measure => simp [intOf]; omega
        · go_wp2
          go_ret2
          refine retIntsB_mk hown (by simp; omega) ?_ (by rw [hr.out]; rfl) hb
          rw [hr.out, List.take_of_length_le (by omega)]; rfl
    · have h2' : inB d (-16) 16 = false := by simpa using h2
      have hr := Lib.hid (movHops_no (show movOk l ch d = false by simp [movOk, h2']))
      have HN := Lib.hid hn
      clear h2 hn
      go_enter Try.func39, Try.ntmps39
      go_wp2_with fail
      refine (sHopsValid_c _ (h.below ((Below.refl _ _).alloc (Nat.le_refl _) _))).mono ?_; rintro e w' ⟨rfl, rfl⟩
      go_wp2_with fail
      refine (l1In_c _ _ _ _).mono ?_; rintro e w' ⟨rfl, rfl⟩
      go_wp2_with fail
      go_ret2
      exact retIntsB_mk (OwnV.made0 w (Nat.le_refl _)) (by simp) (by rw [hr.out]; rfl) (by rw [hr.out]; rfl) ((Below.refl _ _).alloc (Nat.le_refl _) _)
  · have h1' : hopsB l ch = false := by simpa using h1
    have hr := Lib.hid (movHops_no (show movOk l ch d = false by simp [movOk, h1']))
    have HN := Lib.hid hn
    clear h1 hn
    go_enter Try.func39, Try.ntmps39
    go_wp2_with fail
    refine (sHopsValid_c _ (h.below ((Below.refl _ _).alloc (Nat.le_refl _) _))).mono ?_; rintro e w' ⟨rfl, rfl⟩
    go_wp2_with fail
    go_ret2
    exact retIntsB_mk (OwnV.made0 w (Nat.le_refl _)) (by simp) (by rw [hr.out]; rfl) (by rw [hr.out]; rfl) ((Below.refl _ _).alloc (Nat.le_refl _) _)

set_option maxHeartbeats 800000 in
theorem MoveHops_c {ao : Option Addr} {n c : Nat} {l : List Int} (ch d : Int) {w : World} (h : Rd w ao n l) :
    Calls Try.prog 26 #[.slice ao n c, .int .i64 ch, .int .i64 d] w (RetIntsB w (movHops l ch d)) := by
  have hs := h.2.1
  have hn := h.1
  by_cases h1 : hopsB l ch = true
  · obtain ⟨hch, hln, hal⟩ := hopsB_ch h1
    by_cases h2a : d < -16
    · have hr := Lib.hid (movHops_no (show movOk l ch d = false by simp [movOk, inB_lo h2a]))
      have HN := Lib.hid hn
      clear hn hal
      go_enter Try.func26, Try.ntmps26
      go_wp2_with fail
      refine (HopsValid_c _ h).mono ?_; rintro e w' ⟨rfl, rfl⟩
      go_wp2_with fail
      go_ret2
      exact retIntsB_nil hr.out (Below.refl _ _)
    by_cases h2b : 16 < d
    · have hr := Lib.hid (movHops_no (show movOk l ch d = false by simp [movOk, inB_hi h2b]))
      have HN := Lib.hid hn
      clear hn hal
      go_enter Try.func26, Try.ntmps26
      go_wp2_with fail
      refine (HopsValid_c _ h).mono ?_; rintro e w' ⟨rfl, rfl⟩
      go_wp2_with fail
      go_ret2
      exact retIntsB_nil hr.out (Below.refl _ _)
    have h2 : inB d (-16) 16 = true := inB_true (by omega) (by omega)
    have hr := Lib.hid (movHops_yes (show movOk l ch d = true by simp [movOk, h1, h2]))
    have HA := Lib.hid hal
    clear hal
    subst hn
    go_enter Try.func26, Try.ntmps26
    go_wp2_with fail
    refine (HopsValid_c _ h).mono ?_; rintro e w' ⟨rfl, rfl⟩
    go_wp2_with (at_make; refine wp_make w rfl _ _ rfl .i64 .i64 l.length rfl rfl (by omega) ?_; intro w1 hown hb)
    have hL : (l.map fun x => (x + d) % ch).length = l.length := by simp
    have hF := Fill.start hown hL (by simp)
    go_loopw [28] (fun i wr => ∃ k : Nat, k ≤ l.length ∧ i = .int .i64 k ∧ Fill wr w.heap.size w.heap.size l.length (l.map fun x => (x + d) % ch) (List.replicate l.length 0) k ∧ Below w.heap.size w wr) (fun i _ => l.length - (intOf i).toNat)
    case atStart => exact ⟨0, Nat.zero_le _, rfl, hF, hb⟩
    case round =>
      clear hF hb hown hL
      obtain ⟨k, hk, rfl, hF, hb⟩ := hrel
      by_cases hlt : k < l.length
      · obtain ⟨bk, off, rfl, hl, hc⟩ := (h.below hb).at hlt
        obtain ⟨hx0, hx1⟩ := allB_get HA.out hl
        have hc0 := hF.cell hlt
        have hf := hF.free k
        have hF2 := hF.step hlt (y := (l[k] + d) % ch) (by simp [List.getD, hlt])
        have hb2 := hF.below hb (.int .i64 ((l[k] + d) % ch))
        clear hF hb
        go_wp2_with (go_at_call 63; refine (modulo_c _ _ _ (by omega) (by omega)).mono ?_; rintro e w' ⟨rfl, rfl⟩)
        go_roundw
        case rel => exact ⟨k + 1, by omega, by go_num, hF2, hb2⟩
        case measure => simp [intOf]; omega
      · go_wp2
        go_ret2
        exact retIntsB_mk (hF.done (by omega)) (by simp; omega) (by rw [hr.out]; rfl) (by rw [hr.out]; rfl) hb
  · have h1' : hopsB l ch = false := by simpa using h1
    have hr := Lib.hid (movHops_no (show movOk l ch d = false by simp [movOk, h1']))
    have HN := Lib.hid hn
    clear h1 hn
    go_enter Try.func26, Try.ntmps26
    go_wp2_with fail
    refine (HopsValid_c _ h).mono ?_; rintro e w' ⟨rfl, rfl⟩
    go_wp2_with fail
    go_ret2
    exact retIntsB_nil hr.out (Below.refl _ _)

end Go.Proofs.Ytnklnafcbjnmfaa
