/- SpreadBits of the program, l4Chips and l4Spread of the reference. No condition beyond lengths. -/
import Derived.Test.YtadcckjlcmnhbaaNa
namespace Go.Proofs.Ytadcckjlcmnhbaa
open Go.RowKit

def sprOk (d s : ByteArray) : Bool := bitsB d && seqB s && decide (d.size * s.size ≤ 3000)
def sprR (d s : ByteArray) : Option (List Int) := if sprOk d s = true then some (spreadL (codes d) (codes s)) else none
theorem sprR_1 {d s : ByteArray} (h : bitsB d = false) : sprR d s = none := by simp [sprR, sprOk, h]
theorem sprR_2 {d s : ByteArray} (h : seqB s = false) : sprR d s = none := by simp [sprR, sprOk, h]
theorem sprR_3 {d s : ByteArray} (h : ¬ d.size * s.size ≤ 3000) : sprR d s = none := by simp [sprR, sprOk, h]
theorem sprR_yes {d s : ByteArray} (h1 : bitsB d = true) (h2 : seqB s = true) (h3 : d.size * s.size ≤ 3000) : sprR d s = some (spreadL (codes d) (codes s)) := by simp [sprR, sprOk, h1, h2, h3]
theorem wr_mulN {a b p : Nat} (h : a * b = p) (hp : p ≤ 4000000000) : IntKind.i64.wrap ((a : Int) * (b : Int)) = (p : Int) := by
  rw [← Int.natCast_mul, h]; exact IntWalk.i64_in _ (by omega)
theorem bitsB_sz600 {s : ByteArray} (h : bitsB s = true) : s.size ≤ 600 := by unfold bitsB at h; rw [Bool.and_eq_true] at h; exact of_decide_eq_true h.1

set_option maxRecDepth 100000 in
set_option maxHeartbeats 1600000 in
theorem SpreadBits_c (d s : ByteArray) (w : World) : Calls Try.prog 72 #[.string d, .string s] w (RetIntsB w (sprR d s)) := by
  by_cases h1 : bitsB d = true
  · by_cases h2 : seqB s = true
    · have hd6 := bitsB_sz600 h1
      obtain ⟨hs1, hs2⟩ := seqB_size h2
      obtain ⟨m, hm⟩ : ∃ m, d.size * s.size = m := ⟨_, rfl⟩
      have hmI : (d.size : Int) * (s.size : Int) = (m : Int) := by rw [← hm, Int.natCast_mul]
      have hm2 : m ≤ 600 * 255 := by rw [← hm]; exact Nat.mul_le_mul hd6 hs2
      by_cases h3 : m ≤ 3000
      · have hr := Lib.hid (sprR_yes h1 h2 (by rw [hm]; exact h3))
        have HL := Lib.hid (show (spreadL (codes d) (codes s)).length = m by rw [spreadL_len, codes_length, codes_length]; exact hm)
        have HM := Lib.hid hm
        have h3' : ¬ (3000 : Int) < (m : Int) := by omega
        have h0 : ¬ (m : Int) < 0 := by omega
        clear hm
        go_enter Try.func72, Try.ntmps72
        go_wp2_with fail
        refine (isBits_c _ _).mono ?_; rintro e w' ⟨rfl, rfl⟩
        rw [h1]
        go_wp2_with fail
        refine (SequenceValid_c _ _).mono ?_; rintro e w' ⟨rfl, rfl⟩
        rw [h2]
        clear h1 h2
        have b0 : IntKind.i64.wrap ((d.size : Int) * (s.size : Int)) = (m : Int) := by rw [hmI]; exact IntWalk.i64_in _ (by omega)
        go_wp2_with (at_make; refine wp_make w rfl _ _ rfl .i64 .i64 m rfl rfl (by omega) ?_; intro w1 hown hb)
        have hF := Fill.start (L := spreadL (codes d) (codes s)) hown HL.out (by simp)
        clear hown hmI b0
        go_loopw [32] (fun i wr => ∃ k : Nat, k ≤ m ∧ i = .int .i64 k ∧ Fill wr w.heap.size w.heap.size m (spreadL (codes d) (codes s)) (List.replicate m 0) k ∧ Below w.heap.size w wr) (fun i _ => m - (intOf i).toNat)
        case atStart => exact ⟨0, Nat.zero_le _, rfl, hF, hb⟩
        case round =>
          clear hF hb
          obtain ⟨k, hk, rfl, hF, hb⟩ := hrel
          obtain ⟨wo, hwo⟩ : ∃ wo : World, wo = wr := ⟨_, rfl⟩
          subst hwo
          by_cases hlt : k < m
          · obtain ⟨r, hr1⟩ : ∃ r, r = k % s.size := ⟨_, rfl⟩
            obtain ⟨q, hq1⟩ : ∃ q, q = k / s.size := ⟨_, rfl⟩
            have hrs : r < s.size := by rw [hr1]; exact Nat.mod_lt _ (by omega)
            have hqs : q < d.size := by rw [hq1]; exact Nat.div_lt_of_lt_mul (by rw [Nat.mul_comm, HM.out]; exact hlt)
            have a1 : (k : Int).tmod (s.size : Int) = (r : Int) := by rw [hr1]; rfl
            have a2 : (k : Int) % (s.size : Int) = (r : Int) := by rw [hr1]; rfl
            have a3 : (k : Int).tdiv (s.size : Int) = (q : Int) := by rw [hq1]; rfl
            have a4 : (k : Int) / (s.size : Int) = (q : Int) := by rw [hq1]; rfl
            have HV := Lib.hid (show (spreadL (codes d) (codes s)).getD k 0 = chipC (d[q].toNat : Int) * chipC (s[r].toNat : Int) by
              rw [spreadL_get _ _ (by rw [codes_length, codes_length, HM.out]; exact hlt), codes_length, ← hr1, ← hq1, codes_getD hqs, codes_getD hrs])
            have hcc := chip_chip (d[q].toNat : Int) (s[r].toNat : Int)
            have b1 : IntKind.i64.wrap (chipC (d[q].toNat : Int) * chipC (s[r].toNat : Int)) = chipC (d[q].toNat : Int) * chipC (s[r].toNat : Int) := IntWalk.i64_in _ (by omega)
            have b5 : IntKind.i64.wrap (q : Int) = (q : Int) := IntWalk.i64_in _ (by omega)
            have hc := hF.cell hlt
            have hf := hF.free k
            have hst := hF.step hlt (y := chipC (d[q].toNat : Int) * chipC (s[r].toNat : Int)) HV.out
            have hb2 := hF.below hb (.int .i64 (chipC (d[q].toNat : Int) * chipC (s[r].toNat : Int)))
            have hR0 : ¬ (s.size : Int) = 0 := by omega
            have hR00 : ¬ s.size = 0 := by omega
            have hqI : (q : Int) < (d.size : Int) := by omega
            have hrI : (r : Int) < (s.size : Int) := by omega
            clear hr1 hq1 hF hb hcc
            go_wp2_with fail
            go_region_with (first | (go_at_call 40; refine (chipOf_c _ _).mono ?_; rintro e w' ⟨rfl, rfl⟩))
            all_goals
              clear a1 a2 a3 a4 b1 b5
              go_wp2_with fail
              go_roundw
              case rel => exact ⟨k + 1, by omega, by go_num, hst, hb2.drew⟩
              case measure => simp [intOf]; omega
          · obtain rfl : k = m := by omega
            have ho := hF.done (Nat.le_refl _)
            go_wp2_with fail
            go_ret2
            exact retIntsB_mk ho (by rw [HL.out]; omega) (by rw [hr.out]; rfl) (by rw [hr.out]; rfl) hb
      · have hr := Lib.hid (sprR_3 (d := d) (s := s) (by rw [hm]; exact h3))
        have h3' : (3000 : Int) < (m : Int) := by omega
        clear hm h3
        go_enter Try.func72, Try.ntmps72
        go_wp2_with fail
        refine (isBits_c _ _).mono ?_; rintro e w' ⟨rfl, rfl⟩
        rw [h1]
        go_wp2_with fail
        refine (SequenceValid_c _ _).mono ?_; rintro e w' ⟨rfl, rfl⟩
        rw [h2]
        clear h1 h2
        have b0 : IntKind.i64.wrap ((d.size : Int) * (s.size : Int)) = (m : Int) := by rw [hmI]; exact IntWalk.i64_in _ (by omega)
        clear hmI
        go_wp2_with fail
        go_ret2
        exact retIntsB_nil hr.out (Below.refl _ _)
    · have h2' : seqB s = false := by simpa using h2
      have hr := Lib.hid (sprR_2 (d := d) h2')
      go_enter Try.func72, Try.ntmps72
      go_wp2_with fail
      refine (isBits_c _ _).mono ?_; rintro e w' ⟨rfl, rfl⟩
      rw [h1]
      go_wp2_with fail
      refine (SequenceValid_c _ _).mono ?_; rintro e w' ⟨rfl, rfl⟩
      rw [h2']
      clear h1 h2 h2'
      go_wp2_with fail
      go_ret2
      exact retIntsB_nil hr.out (Below.refl _ _)
  · have h1' : bitsB d = false := by simpa using h1
    have hr := Lib.hid (sprR_1 (s := s) h1')
    go_enter Try.func72, Try.ntmps72
    go_wp2_with fail
    refine (isBits_c _ _).mono ?_; rintro e w' ⟨rfl, rfl⟩
    rw [h1']
    clear h1 h1'
    go_wp2_with fail
    go_ret2
    exact retIntsB_nil hr.out (Below.refl _ _)

theorem chipC_bit {x : Int} (h : isBit x) : 1 - 2 * (x - 48) = chipC x := by
  rcases h with rfl | rfl <;> rfl

set_option maxHeartbeats 1600000 in
theorem l4Chips_c (s : ByteArray) (w : World) (hs : s.size ≤ 1000) (hb : ∀ x ∈ codes s, isBit x) : Calls Try.prog 143 #[.string s] w (RetInts w ((codes s).map chipC)) := by
  have HB := Lib.hid hb; clear hb
  have HL := Lib.hid (show ((codes s).map chipC).length = s.size by rw [List.length_map, codes_length])
  go_enter Try.func143, Try.ntmps143
  go_wp2_with (at_make; refine wp_make w rfl _ _ rfl .i64 .i64 s.size rfl rfl (by omega) ?_; intro w1 hown hb)
  have hF := Fill.start (L := (codes s).map chipC) hown HL.out (by simp)
  clear hown
  go_loopw [4] (fun i wr => ∃ k : Nat, k ≤ s.size ∧ i = .int .i64 k ∧ Fill wr w.heap.size w.heap.size s.size ((codes s).map chipC) (List.replicate s.size 0) k ∧ Below w.heap.size w wr) (fun i _ => s.size - (intOf i).toNat)
  case atStart => exact ⟨0, Nat.zero_le _, rfl, hF, hb⟩
  case round =>
    clear hF hb
    obtain ⟨k, hk, rfl, hF, hb⟩ := hrel
    by_cases hlt : k < s.size
    · have hkc : k < (codes s).length := by rw [codes_length]; exact hlt
      have hbit : isBit (s[k].toNat : Int) := by rw [← codes_get s hlt]; exact HB.out _ (List.getElem_mem hkc)
      have hx : (s[k].toNat : Int) = 48 ∨ (s[k].toNat : Int) = 49 := hbit
      have HV := Lib.hid (show ((codes s).map chipC).getD k 0 = 1 - 2 * ((s[k].toNat : Int) - 48) by
        rw [chipC_bit hbit, ← codes_get s hlt]; simp [List.getD, hkc])
      have hc := hF.cell hlt
      have hf := hF.free k
      have hst := hF.step hlt (y := 1 - 2 * ((s[k].toNat : Int) - 48)) HV.out
      have hb2 := hF.below hb (.int .i64 (1 - 2 * ((s[k].toNat : Int) - 48)))
      clear hF hb hbit
      go_wp2_with fail
      go_roundw
      case rel => exact ⟨k + 1, by omega, by go_num, hst, hb2⟩
      case measure => simp [intOf]; omega
    · obtain rfl : k = s.size := by omega
      obtain ⟨a1, n1, c1, e1, ho⟩ := (hF.done (Nat.le_refl _)).own (by rw [HL.out]; omega)
      cases e1
      go_wp2_with fail
      go_ret
      exact ⟨_, _, _, rfl, ho, hb⟩

theorem chips_inv {s : ByteArray} (hb : ∀ x ∈ codes s, isBit x) : (codes (invT s)).map chipC = (codes s).map fun c => -1 * chipC c := by
  have e : codes (invT s) = invL (codes s) := codes_text (by
    intro x hx
    unfold invL at hx
    obtain ⟨y, hy, rfl⟩ := List.mem_map.1 hx
    rcases hb y hy with h | h
    · right; omega
    · left; omega)
  rw [e]
  unfold invL
  rw [List.map_map]
  apply List.map_congr_left
  intro x hx
  rcases hb x hx with rfl | rfl <;> rfl
theorem inv_bit {s : ByteArray} (hb : ∀ x ∈ codes s, isBit x) : ∀ x ∈ codes (invT s), isBit x := by
  have e : codes (invT s) = invL (codes s) := codes_text (by
    intro x hx
    unfold invL at hx
    obtain ⟨y, hy, rfl⟩ := List.mem_map.1 hx
    rcases hb y hy with h | h
    · right; omega
    · left; omega)
  rw [e]
  intro x hx
  unfold invL at hx
  obtain ⟨y, hy, rfl⟩ := List.mem_map.1 hx
  rcases hb y hy with h | h
  · right; omega
  · left; omega
theorem Own.zeroI {w : World} {lo : Nat} {ao : Option Addr} {n c : Nat} {l : List Int} (h : Own w lo ao n c l) (h0 : ao = none) : c = 0 := by
  rcases h.2.2.2 with ⟨h1, h2⟩ | ⟨g, cap, cur, hv, _⟩
  · cases h1; rfl
  · cases hv; cases h0
theorem spread_take {d s : ByteArray} {k : Nat} (hk : k < d.size) : spreadL ((codes d).take (k + 1)) (codes s) = spreadL ((codes d).take k) (codes s) ++ (codes s).map fun c => chipC (d[k].toNat : Int) * chipC c := by
  have hkc : k < (codes d).length := by rw [codes_length]; exact hk
  rw [List.take_succ_eq_append_getElem hkc, spreadL_snoc, codes_get d hk]

set_option maxRecDepth 100000 in
set_option maxHeartbeats 1600000 in
theorem l4Spread_c (d s : ByteArray) (w : World) (hd : d.size ≤ 600) (hs : s.size ≤ 255) (hb : ∀ x ∈ codes s, isBit x) : Calls Try.prog 126 #[.string d, .string s] w (RetInts w (spreadL (codes d) (codes s))) := by
  have HB := Lib.hid hb; clear hb
  have HI := Lib.hid (inv_bit HB.out)
  have HC := Lib.hid (chips_inv HB.out)
  have HZ := Lib.hid (show (invT s).size = s.size by unfold invT; rw [text_size, invL_len, codes_length])
  have ho0 : OwnV (w.alloc (.cells #[] 3)) w.heap.size (.slice (some ⟨w.heap.size, 0, none⟩) 0 0) [] := OwnV.made0 w (Nat.le_refl _)
  have hb0 : Below w.heap.size w (w.alloc (.cells #[] 3)) := (Below.refl _ _).alloc (Nat.le_refl _) _
  go_enter Try.func126, Try.ntmps126
  go_wp2
  go_loopw [5, 6] (fun v i wr => ∃ k : Nat, k ≤ d.size ∧ i = .int .i64 k ∧ OwnV wr w.heap.size v (spreadL ((codes d).take k) (codes s)) ∧ Below w.heap.size w wr) (fun _ i _ => d.size - (intOf i).toNat)
  case atStart => exact ⟨0, Nat.zero_le _, rfl, ho0, hb0⟩
  case round =>
    clear ho0 hb0
    obtain ⟨k, hk, rfl, ho, hb⟩ := hrel
    by_cases hlt : k < d.size
    · have HLN := Lib.hid (show (spreadL ((codes d).take k) (codes s)).length ≤ 200000 by
        rw [spreadL_len, codes_length, List.length_take, codes_length, Nat.min_eq_left (by omega)]
        exact Nat.le_trans (Nat.mul_le_mul (show k ≤ 600 by omega) hs) (by omega))
      by_cases h4 : (d[k].toNat : Int) = 48
      · have HS := Lib.hid (show spreadL ((codes d).take (k + 1)) (codes s) = spreadL ((codes d).take k) (codes s) ++ (codes s).map chipC by
          rw [spread_take hlt, h4]; congr 1; apply List.map_congr_left; intro x _; show chipC 48 * chipC x = chipC x; rw [show chipC 48 = 1 from rfl, Int.one_mul])
        have h4' : ((d[k].toNat : Int) == 48) = true := by simp [h4]
        clear h4
        generalize spreadL ((codes d).take k) (codes s) = D at *
        go_wp2_with fail
        refine (l4Chips_c s _ (by omega) HB.out).mono ?_; rintro e w2 ⟨a2, n2, c2, rfl, hO2, hb2⟩
        have ho2 : OwnV w2 w.heap.size _ _ := ownsRow_below ho hb2 fun j hj => (ho.lt j hj).2
        have hbn := hb.trans (hb2.mono hb.size)
        have hzn := hbn.size
        have hn2 : n2 = s.size := by rw [hO2.1, List.length_map, codes_length]
        have HN2 := Lib.hid hn2
        have hn3 : n2 ≤ 255 := by omega
        have HCZ := Lib.hid (fun h0 => hO2.zeroI h0)
        have hrd := hO2.rd
        clear ho hb hb2 hO2 hn2
        go_wp2_with (at_builtin; refine wp_appS w2 rfl (.tmp 18) (.tmp 20) rfl w.heap.size _ D _ _ n2 c2 rfl ho2 rfl hrd HCZ.out (by have := HLN.out; omega) hzn ?_; intro v' w3 ho3 _ hb3)
        have hb4 := hbn.trans hb3
        rw [← HS.out] at ho3
        clear ho2 hbn hb3
        go_roundw
        case rel => exact ⟨k + 1, by omega, by go_num, ho3, hb4⟩
        case measure => simp [intOf]; omega
      · have HS := Lib.hid (show spreadL ((codes d).take (k + 1)) (codes s) = spreadL ((codes d).take k) (codes s) ++ (codes (invT s)).map chipC by
          rw [spread_take hlt, HC.out]; congr 1; apply List.map_congr_left; intro x _; rw [show chipC (d[k].toNat : Int) = -1 by unfold chipC; rw [if_neg h4]])
        have h4' : ((d[k].toNat : Int) == 48) = false := by simp [h4]
        clear h4
        generalize spreadL ((codes d).take k) (codes s) = D at *
        go_wp2_with fail
        refine (l2Invert_c s _ (by omega) HB.out).mono ?_; rintro e w1 ⟨rfl, hb1⟩
        have ho1 : OwnV w1 w.heap.size _ _ := ownsRow_below ho hb1 fun j hj => (ho.lt j hj).2
        have hbm := hb.trans (hb1.mono hb.size)
        clear ho hb hb1
        go_wp2_with fail
        refine (l4Chips_c (invT s) _ (by rw [HZ.out]; omega) HI.out).mono ?_; rintro e w2 ⟨a2, n2, c2, rfl, hO2, hb2⟩
        have ho2 : OwnV w2 w.heap.size _ _ := ownsRow_below ho1 hb2 fun j hj => (ho1.lt j hj).2
        have hbn := hbm.trans (hb2.mono hbm.size)
        have hzn := hbn.size
        have hn2 : n2 = s.size := by rw [hO2.1, List.length_map, codes_length, HZ.out]
        have HN2 := Lib.hid hn2
        have hn3 : n2 ≤ 255 := by omega
        have HCZ := Lib.hid (fun h0 => hO2.zeroI h0)
        have hrd := hO2.rd
        clear ho1 hbm hb2 hO2 hn2
        go_wp2_with (at_builtin; refine wp_appS w2 rfl (.tmp 22) (.tmp 25) rfl w.heap.size _ D _ _ n2 c2 rfl ho2 rfl hrd HCZ.out (by have := HLN.out; omega) hzn ?_; intro v' w3 ho3 _ hb3)
        have hb4 := hbn.trans hb3
        rw [← HS.out] at ho3
        clear ho2 hbn hb3
        go_roundw
        case rel => exact ⟨k + 1, by omega, by go_num, ho3, hb4⟩
        case measure => simp [intOf]; omega
    · obtain rfl : k = d.size := by omega
      have e9 : (codes d).take d.size = codes d := List.take_of_length_le (by rw [codes_length]; exact Nat.le_refl _)
      rw [e9] at ho
      obtain ⟨a1, n1, c1, hv, ho1⟩ := ho.own (by rw [spreadL_len, codes_length, codes_length]; exact Nat.le_trans (Nat.mul_le_mul hd hs) (by omega))
      subst hv
      go_wp2_with fail
      go_ret
      exact ⟨_, _, _, rfl, ho1, hb⟩

end Go.Proofs.Ytadcckjlcmnhbaa
