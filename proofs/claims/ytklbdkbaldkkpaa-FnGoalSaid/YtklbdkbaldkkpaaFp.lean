/- The free paths of a code tree (AllocateTree of the program and of the reference). No condition beyond lengths. -/
import Derived.Test.YtklbdkbaldkkpaaCy
import Derived.Test.YtklbdkbaldkkpaaG
import Derived.Test.YtklbdkbaldkkpaaRg
import Derived.Test.YtklbdkbaldkkpaaMk
import Derived.Deep.LoopGhost
namespace Go.Proofs.Ytklbdkbaldkkpaa
open Go.RowKit

def bitN (n d i : Nat) : Nat := n / 2 ^ (d - 1 - i) % 2
def binL (n d : Nat) : List Int := (List.range d).map fun i => ((48 + bitN n d i : Nat) : Int)
def binT (n d : Nat) : ByteArray := text (binL n d)
theorem binL_len (n d : Nat) : (binL n d).length = d := by simp [binL]
theorem binL_get {n d i : Nat} (h : i < (binL n d).length) : (binL n d)[i] = ((48 + bitN n d i : Nat) : Int) := by simp [binL]
theorem bitN_le (n d i : Nat) : bitN n d i ≤ 1 := by unfold bitN; omega
theorem binT_size (n d : Nat) : (binT n d).size = d := by unfold binT; rw [text_size, binL_len]

set_option maxHeartbeats 400000 in
theorem bitOf_c (n : Nat) (w : World) (h : n ≤ 1) : Calls Try.prog 117 #[.int .i64 n] w fun e w' => e = .returned (.int .u8 ((48 + n : Nat) : Int)) ∧ w = w' := by
  rcases (show n = 0 ∨ n = 1 by omega) with rfl | rfl
  · go_enter Try.func117, Try.ntmps117
    go_wp2
    go_ret
    exact ⟨rfl, rfl⟩
  · go_enter Try.func117, Try.ntmps117
    go_wp2
    go_ret
    exact ⟨rfl, rfl⟩

set_option maxHeartbeats 800000 in
theorem binaryText_c (n d : Nat) (w : World) (hd : d ≤ 6) (hn : n < 64) : Calls Try.prog 110 #[.int .i64 n, .int .i64 d] w fun e w' => e = .returned (.string (binT n d)) ∧ Below w.heap.size w w' := by
  have HL := Lib.hid (binL_len n d)
  go_enter Try.func110, Try.ntmps110
  go_wp2_with (at_make; refine wp_makeF 22 5 1 (0 : Int) Try.underlying22 info_u8 rfl (by decide) w rfl _ _ rfl .i64 .i64 d rfl rfl (by omega) ?_; intro w1 hown hb)
  have hF := FillF.start hown HL.out (by simp)
  clear hown
  go_loopw [11] (fun i wr => ∃ k : Nat, k ≤ d ∧ i = .int .i64 k ∧ FillB wr w.heap.size w.heap.size d (binL n d) (List.replicate d 0) k ∧ Below w.heap.size w wr) (fun i _ => d - (intOf i).toNat)
  case atStart => exact ⟨0, Nat.zero_le _, rfl, hF, hb⟩
  case round =>
    clear hF hb
    obtain ⟨k, hk, rfl, hF, hb⟩ := hrel
    by_cases hlt : k < d
    · obtain ⟨z, hc⟩ := hF.cell hlt
      have hf := hF.free k
      have eA : bits .and .i64 ((n : Int) / 2 ^ (d - 1 - k)) 1 = ((bitN n d k : Nat) : Int) := by
        have e1 : (n : Int) / 2 ^ (d - 1 - k) = ((n / 2 ^ (d - 1 - k) : Nat) : Int) := by simp
        rw [e1]
        have h1 : n / 2 ^ (d - 1 - k) ≤ n := Nat.div_le_self _ _
        have h2 := i64_and (n / 2 ^ (d - 1 - k)) 1 (by omega) (by omega)
        rw [show ((1 : Nat) : Int) = 1 from rfl] at h2
        rw [h2, Nat.and_one_is_mod]; rfl
      have hst := hF.step hlt (y := .int .u8 ((48 + bitN n d k : Nat) : Int)) (fun hl => by rw [binL_get hl])
      have hb2 := hF.below hb (.int .u8 ((48 + bitN n d k : Nat) : Int))
      have hb1 := bitN_le n d k
      have EA := Lib.hid eA
      clear eA hF hb
      go_wp2_with fail
      rw [EA.out]
      refine (bitOf_c _ _ hb1).mono ?_; rintro e w' ⟨rfl, rfl⟩
      generalize bitN n d k = B at *
      go_wp2_with fail
      go_roundw
      case rel => exact ⟨k + 1, by omega, by go_num, hst, hb2⟩
      case measure => simp [intOf]; omega
    · obtain rfl : k = d := by omega
      have hd0 := hF.done (Nat.le_refl _)
      obtain ⟨a1, n1, c1, e1, ho⟩ := hd0.own (by rw [HL.out]; omega)
      cases e1
      have hrd := ho.rd
      go_wp2_with (with_reducible refine wp_text 22 5 9 Try.underlying22 Try.underlying5 Try.underlying9 _ rfl (.tmp 26) rfl rfl hrd ?_)
      go_ret
      exact ⟨rfl, hb⟩

set_option maxHeartbeats 800000 in
theorem l9Dec_c (n : Nat) (w : World) (h : n ≤ 9) : Calls Try.prog 116 #[.int .i64 n] w fun e w' => e = .returned (.string (text [((48 + n : Nat) : Int)])) ∧ Below w.heap.size w w' := by
  have hT := Lib.hid (text_one_size (48 + (n : Int)))
  have hE := Lib.hid (show text [48 + (n : Int)] ++ (⟨#[]⟩ : ByteArray) = text [((48 + n : Nat) : Int)] by rw [show (48 + (n : Int)) = ((48 + n : Nat) : Int) by omega]; apply ByteArray.ext; simp)
  have hsum : ¬ (text [48 + (n : Int)]).size + (⟨#[]⟩ : ByteArray).size > 9223372036854775807 := by rw [hT.out]; decide
  have hb : Below w.heap.size w (w.alloc (.cells #[.int .u8 (48 + (n : Int))] 5)) := (Below.refl _ _).alloc (Nat.le_refl _) _
  go_enter Try.func116, Try.ntmps116
  go_wp2_with fail
  go_loop [0, 3] (fun m o => m = .int .i64 n ∧ o = .string ⟨#[]⟩) (fun _ _ => 0)
  case atStart => exact ⟨rfl, rfl⟩
  case round =>
    obtain ⟨rfl, rfl⟩ := hrel
    go_wp2_with (with_reducible refine wp_text 22 5 9 Try.underlying22 Try.underlying5 Try.underlying9 _ rfl (.tmp 27) rfl rfl (rdB_new _ _ _) ?_)
    go_ret
    exact ⟨ret_s hE.out, hb⟩

/-- Whether a path meets none of those in use; the free paths among the first k of d bits. -/
def freeB (u : List ByteArray) (p : ByteArray) : Bool := u.all fun q => !confB p q
def freeL (u : List ByteArray) (d k : Nat) : List ByteArray := ((List.range k).map (fun n => binT n d)).filter (freeB u)
theorem freeL_zero (u : List ByteArray) (d : Nat) : freeL u d 0 = [] := rfl
theorem freeL_yes {u : List ByteArray} {d k : Nat} (h : freeB u (binT k d) = true) : freeL u d (k + 1) = freeL u d k ++ [binT k d] := by
  unfold freeL; rw [List.range_succ, List.map_append, List.filter_append]; simp [h]
theorem freeL_no {u : List ByteArray} {d k : Nat} (h : freeB u (binT k d) = false) : freeL u d (k + 1) = freeL u d k := by
  unfold freeL; rw [List.range_succ, List.map_append, List.filter_append]; simp [h]
theorem freeL_len (u : List ByteArray) (d k : Nat) : (freeL u d k).length ≤ k := by
  unfold freeL; refine Nat.le_trans (List.length_filter_le _ _) ?_; simp
theorem freeB_all {u : List ByteArray} {p : ByteArray} {n : Nat} (hn : u.length ≤ n) (h : ∀ x (_ : x < n) (hl : x < u.length), confB p u[x] = false) : freeB u p = true := by
  unfold freeB; rw [List.all_eq_true]
  intro q hq
  obtain ⟨i, hi, rfl⟩ := List.getElem_of_mem hq
  rw [h i (by omega) hi]; rfl
theorem freeB_hit {u : List ByteArray} {p : ByteArray} {j : Nat} (hl : j < u.length) (h : confB p u[j] = true) : freeB u p = false := by
  unfold freeB; rw [List.all_eq_false]; exact ⟨u[j], List.getElem_mem hl, by simp [h]⟩
theorem freeB_take {u : List ByteArray} {p : ByteArray} {j : Nat} (hl : j < u.length) : freeB (u.take (j + 1)) p = (freeB (u.take j) p && !confB p u[j]) := by
  unfold freeB; rw [List.take_succ_eq_append_getElem hl, List.all_append]; simp
theorem pathB_bin {n d : Nat} (hd : d ≤ 6) : pathB (binT n d) = true := by
  unfold pathB
  rw [binT_size, decide_eq_true hd, Bool.true_and]
  unfold allS binT text
  rw [List.all_eq_true]
  intro c hc
  simp only [List.mem_map, binL] at hc
  obtain ⟨x, ⟨i, _, rfl⟩, rfl⟩ := hc
  have h := bitN_le n d i
  rcases (show bitN n d i = 0 ∨ bitN n d i = 1 by omega) with e | e <;> rw [e] <;> decide
theorem pow6 {d : Nat} (h : d ≤ 6) : 2 ^ d ≤ 64 := Nat.le_trans (Nat.pow_le_pow_right (by omega) h) (by decide)
theorem pathB_size {q : ByteArray} (h : pathB q = true) : q.size ≤ 6 := by
  unfold pathB at h; rw [Bool.and_eq_true, decide_eq_true_eq] at h; exact h.1

set_option maxRecDepth 100000 in
set_option maxHeartbeats 1600000 in
theorem freePaths_c {ao : Option Addr} {n c : Nat} {u : List ByteArray} {w : World} (d : Nat) (h : RdT w ao n u) (hd : d ≤ 6) (hp : ∀ q ∈ u, pathB q = true) (hlen : n ≤ 70) :
    Calls Try.prog 92 #[.slice ao n c, .int .i64 d] w fun e w' => ∃ bo m cc, e = .returned (.tuple #[.slice bo m cc, .bool true]) ∧ OwnT w' w.heap.size bo m cc (freeL u d (2 ^ d)) ∧ Below w.heap.size w w' := by
  have HN := Lib.hid h.1
  have HP := Lib.hid hp; clear hp
  have hpw : (2 : Int) ^ d = ((2 ^ d : Nat) : Int) := by rw [Int.natCast_pow]; rfl
  have hP : 2 ^ d ≤ 64 := pow6 hd
  have HF := Lib.hid (show ∃ P, P = 2 ^ d from ⟨_, rfl⟩)
  have HR := Lib.hid (show ∀ x, x = freeL u d (2 ^ d) → x = freeL u d (2 ^ d) from fun _ h => h)
  have HK := Lib.hid (show ∀ k, k < 2 ^ d → k < 64 from fun k hk => by omega)
  generalize hPe : 2 ^ d = P at *
  have hwA : IntKind.i64.wrap ((2 : Int) ^ d) = (P : Int) := by rw [hpw]; exact IntWalk.i64_in _ (by omega)
  have hwB : IntKind.i64.wrap ((1 : Int) * 2 ^ d) = (P : Int) := by rw [Int.one_mul]; exact hwA
  have hwC : RowKit.wrap64 ((2 : Int) ^ d) = (P : Int) := by unfold wrap64; rw [hpw]; omega
  clear hpw hPe HF HR
  have HA := Lib.hid hwA; have HB := Lib.hid hwB; have HC := Lib.hid hwC
  clear hwA hwB hwC
  have hs := h.2.1
  go_enter Try.func92, Try.ntmps92
  go_wp2
  go_step3
  go_wp2
  go_loop [26] (fun i => ∃ k : Nat, k ≤ n ∧ i = .int .i64 k) (fun i => n - (intOf i).toNat)
  case atStart => exact ⟨0, Nat.zero_le _, rfl⟩
  case round =>
    obtain ⟨k, hk, rfl⟩ := hrel
    by_cases hlt : k < n
    · obtain ⟨bk, off, rfl, hl, hc⟩ := h.at hlt
      go_wp2_with fail
      refine (pathValid_c _ _).mono ?_; rintro e w' ⟨rfl, rfl⟩
      rw [HP.out _ (List.getElem_mem hl)]
      go_wp2_with fail
      go_round
      case rel => exact ⟨k + 1, by omega, by go_num⟩
      case measure => simp [intOf]; omega
    · have hb0 : Below w.heap.size w (w.alloc (.cells #[] 9)) := (Below.refl _ _).alloc (Nat.le_refl _) _
      go_wp2_with fail
      go_step3
      have hwA := HA.out; have hwB := HB.out; have hwC := HC.out
      go_wp2_with fail
      clear hwA hwB hwC
      go_loopg [8, 37] P (fun g v i wr => ∃ k : Nat, k + g = P ∧ i = .int .i64 k ∧ OwnVT wr w.heap.size v (freeL u d k) ∧ Below w.heap.size w wr)
      case atStart => exact ⟨0, by omega, rfl, OwnVF.made0 _ _ w (Nat.le_refl _), hb0⟩
      case round =>
        obtain ⟨k2, hk2, rfl, hown, hb⟩ := hrel
        cases gk with
        | zero =>
          obtain rfl : k2 = P := by omega
          obtain ⟨bo, m, cc, rfl, ho⟩ := hown.own (by have := freeL_len u d k2; omega)
          go_wp2_with fail
          try rw [Exit.noGoto_ret]
          go_ret2
          exact ⟨bo, m, cc, rfl, ho, hb⟩
        | succ g =>
          have hlt2 : k2 < P := by omega
          have hk64 : k2 < 64 := HK.out k2 hlt2
          have hPB := Lib.hid (pathB_bin (n := k2) hd)
          obtain ⟨wo, hwo⟩ : ∃ wo : World, wo = wr := ⟨_, rfl⟩
          subst hwo
          go_wp2_with fail
          refine (binaryText_c k2 d _ hd hk64).mono ?_; rintro e w2 ⟨rfl, hbt⟩
          have hown2 := hown.below hbt
          have hb2 := hb.trans (hbt.mono hb.size)
          have h2 := h.below hb2
          have hFN := Lib.hid (freeL_no (u := u) (d := d) (k := k2))
          have hFY := Lib.hid (freeL_yes (u := u) (d := d) (k := k2))
          have hFL := freeL_len u d k2
          have HHIT := Lib.hid (fun j hl h => @freeB_hit u (binT k2 d) j hl h)
          have HALL := Lib.hid (fun n hn h => @freeB_all u (binT k2 d) n hn h)
          clear hown hb hbt
          generalize binT k2 d = p at *
          go_wp2_with fail
          go_loopg [45] n (fun g2 i wy => ∃ j : Nat, j + g2 = n ∧ i = .int .i64 j ∧ (∀ x (_ : x < j) (hl : x < u.length), confB p u[x] = false) ∧ w2 = wy)
          case atStart => exact ⟨0, by omega, rfl, fun x hx => absurd hx (by omega), rfl⟩
          case round =>
            obtain ⟨j, hj, rfl, hno, rfl⟩ := hrel
            have HO := Lib.hid hno; clear hno
            cases gk with
            | zero =>
              obtain rfl : j = n := by omega
              have hz := hb2.size
              have hfb := HALL.out j (by have := HN.out; omega) HO.out
              go_wp2_with (at_builtin; go_loud (refine wp_app1F 59 9 16 ByteArray.empty Try.underlying59 info_str rfl (by decide) (fun _ => rfl) w2 rfl _ _ rfl w.heap.size _ _ _ rfl (by exact hown2) rfl (by omega) hz ?_); intro v' w3 hown3 _ hb3)
              have hown4 : OwnVT w3 w.heap.size v' (freeL u d (k2 + 1)) := by rw [hFY.out hfb]; exact hown3
              have hb4 := hb2.trans hb3
              go_wp2_with fail
              go_roundg g
              case measure => omega
              case rel => exact ⟨k2 + 1, by omega, by go_num, hown4, hb4⟩
            | succ g2 =>
              have hlt3 : j < n := by omega
              obtain ⟨bk, off, rfl, hl, hc⟩ := h2.at hlt3
              by_cases hcf : confB p u[j] = true
              · have hown4 := hown2
                rw [← hFN.out (HHIT.out j hl hcf)] at hown4
                go_wp2_with fail
                refine (TreeConflict_c _ _ _ hPB.out (HP.out _ (List.getElem_mem hl))).mono ?_; rintro e w' ⟨rfl, rfl⟩
                rw [hcf]
                go_wp2_with fail
                go_roundg g
                case measure => omega
                case rel => exact ⟨k2 + 1, by omega, by go_num, hown4, hb2⟩
              · have hcf' : confB p u[j] = false := by simpa using hcf
                go_wp2_with fail
                refine (TreeConflict_c _ _ _ hPB.out (HP.out _ (List.getElem_mem hl))).mono ?_; rintro e w' ⟨rfl, rfl⟩
                rw [hcf']
                have HT := Lib.hid (show ∀ x (_ : x < j + 1) (hl : x < u.length), confB p u[x] = false from fun x hx hl2 => by
                  rcases Nat.lt_succ_iff_lt_or_eq.1 hx with hx | rfl
                  · exact HO.out x hx hl2
                  · exact hcf')
                clear hcf hcf'
                go_wp2_with fail
                go_roundg g2
                case measure => omega
                case rel => exact ⟨j + 1, by omega, by go_num, HT.out, rfl⟩

end Go.Proofs.Ytklbdkbaldkkpaa
