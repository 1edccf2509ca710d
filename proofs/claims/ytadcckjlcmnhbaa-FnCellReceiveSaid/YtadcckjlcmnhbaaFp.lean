/- The free paths of a code tree (AllocateTree of the program and of the reference). No condition beyond lengths. -/
import Derived.Test.YtadcckjlcmnhbaaCy
import Derived.Test.YtadcckjlcmnhbaaG
import Derived.Test.YtadcckjlcmnhbaaRg
import Derived.Test.YtadcckjlcmnhbaaMk
import Derived.Deep.LoopGhost
namespace Go.Proofs.Ytadcckjlcmnhbaa
open Go.RowKit

def bitN (n d i : Nat) : Nat := n / 2 ^ (d - 1 - i) % 2
def binL (n d : Nat) : List Int := (List.range d).map fun i => ((48 + bitN n d i : Nat) : Int)
def binT (n d : Nat) : ByteArray := text (binL n d)
theorem binL_len (n d : Nat) : (binL n d).length = d := by simp [binL]
theorem binL_get {n d i : Nat} (h : i < (binL n d).length) : (binL n d)[i] = ((48 + bitN n d i : Nat) : Int) := by simp [binL]
theorem bitN_le (n d i : Nat) : bitN n d i ≤ 1 := by unfold bitN; omega
theorem binT_size (n d : Nat) : (binT n d).size = d := by unfold binT; rw [text_size, binL_len]

set_option maxHeartbeats 400000 in
theorem bitOf_c (n : Nat) (w : World) (h : n ≤ 1) : Calls Try.prog 92 #[.int .i64 n] w fun e w' => e = .returned (.int .u8 ((48 + n : Nat) : Int)) ∧ w = w' := by
  rcases (show n = 0 ∨ n = 1 by omega) with rfl | rfl
  · go_enter Try.func92, Try.ntmps92
    go_wp2
    go_ret
    exact ⟨rfl, rfl⟩
  · go_enter Try.func92, Try.ntmps92
    go_wp2
    go_ret
    exact ⟨rfl, rfl⟩

set_option maxHeartbeats 800000 in
theorem binaryText_c (n d : Nat) (w : World) (hd : d ≤ 6) (hn : n < 64) : Calls Try.prog 89 #[.int .i64 n, .int .i64 d] w fun e w' => e = .returned (.string (binT n d)) ∧ Below w.heap.size w w' := by
  have HL := Lib.hid (binL_len n d)
  go_enter Try.func89, Try.ntmps89
  go_wp2_with (at_make; refine wp_makeF 22 5 1 (0 : Int) Try.underlying22 info_u8 rfl (by decide) w rfl _ _ rfl .i64 .i64 d rfl rfl (by omega) ?_; intro w1 hown hb)
  have hF := FillF.start hown HL.out (by simp)
  clear hown
  go_loopw [11] (fun i wr => ∃ k : Nat, k ≤ d ∧ i = .int .i64 k ∧ FillB wr w.heap.size w.heap.size d (binL n d) (List.replicate d 0) k ∧ Below w.heap.size w wr) (fun i _ => d - (intOf i).toNat)
  case atStart => exact ⟨0, Nat.zero_le _, rfl, hF, hb⟩
  case round =>
    clear hF hb
    obtain ⟨k, hk, rfl, hF, hb⟩ := hrel
    by_cases hlt : k < d
    · obtain ⟨z, hc⟩ := hF.cell hlt
      have hf := hF.free k
      have eA : bits .and .i64 ((n : Int) / 2 ^ (d - 1 - k)) 1 = ((bitN n d k : Nat) : Int) := by
        have e1 : (n : Int) / 2 ^ (d - 1 - k) = ((n / 2 ^ (d - 1 - k) : Nat) : Int) := by simp
        rw [e1]
        have h1 : n / 2 ^ (d - 1 - k) ≤ n := Nat.div_le_self _ _
        have h2 := i64_and (n / 2 ^ (d - 1 - k)) 1 (by omega) (by omega)
        rw [show ((1 : Nat) : Int) = 1 from rfl] at h2
        rw [h2, Nat.and_one_is_mod]; rfl
      have hst := hF.step hlt (y := .int .u8 ((48 + bitN n d k : Nat) : Int)) (fun hl => by rw [binL_get hl])
      have hb2 := hF.below hb (.int .u8 ((48 + bitN n d k : Nat) : Int))
      have hb1 := bitN_le n d k
      have EA := Lib.hid eA
      clear eA hF hb
      go_wp2_with fail
      rw [EA.out]
      refine (bitOf_c _ _ hb1).mono ?_; rintro e w' ⟨rfl, rfl⟩
      generalize bitN n d k = B at *
      go_wp2_with fail
      go_roundw
      case rel => exact ⟨k + 1, by omega, by go_num, hst, hb2⟩
      case measure => simp [intOf]; omega
    · obtain rfl : k = d := by omega
      have hd0 := hF.done (Nat.le_refl _)
      obtain ⟨a1, n1, c1, e1, ho⟩ := hd0.own (by rw [HL.out]; omega)
      cases e1
      have hrd := ho.rd
      go_wp2_with (with_reducible refine wp_text 22 5 9 Try.underlying22 Try.underlying5 Try.underlying9 _ rfl (.tmp 26) rfl rfl hrd ?_)
      go_ret
      exact ⟨rfl, hb⟩

set_option maxHeartbeats 800000 in
theorem l9Dec_c (n : Nat) (w : World) (h : n ≤ 9) : Calls Try.prog 147 #[.int .i64 n] w fun e w' => e = .returned (.string (text [((48 + n : Nat) : Int)])) ∧ Below w.heap.size w w' := by
  have hT := Lib.hid (text_one_size (48 + (n : Int)))
  have hE := Lib.hid (show text [48 + (n : Int)] ++ (⟨#[]⟩ : ByteArray) = text [((48 + n : Nat) : Int)] by rw [show (48 + (n : Int)) = ((48 + n : Nat) : Int) by omega]; apply ByteArray.ext; simp)
  have hsum : ¬ (text [48 + (n : Int)]).size + (⟨#[]⟩ : ByteArray).size > 9223372036854775807 := by rw [hT.out]; decide
  have hb : Below w.heap.size w (w.alloc (.cells #[.int .u8 (48 + (n : Int))] 5)) := (Below.refl _ _).alloc (Nat.le_refl _) _
  go_enter Try.func147, Try.ntmps147
  go_wp2_with fail
  go_loop [0, 3] (fun m o => m = .int .i64 n ∧ o = .string ⟨#[]⟩) (fun _ _ => 0)
  case atStart => exact ⟨rfl, rfl⟩
  case round =>
    obtain ⟨rfl, rfl⟩ := hrel
    go_wp2_with (with_reducible refine wp_text 22 5 9 Try.underlying22 Try.underlying5 Try.underlying9 _ rfl (.tmp 27) rfl rfl (rdB_new _ _ _) ?_)
    go_ret
    exact ⟨ret_s hE.out, hb⟩

/-- Whether a path meets none of those in use; the free paths among the first k of d bits. -/
def freeB (u : List ByteArray) (p : ByteArray) : Bool := u.all fun q => !confB p q
def freeL (u : List ByteArray) (d k : Nat) : List ByteArray := ((List.range k).map (fun n => binT n d)).filter (freeB u)
theorem freeL_zero (u : List ByteArray) (d : Nat) : freeL u d 0 = [] := rfl
theorem freeL_yes {u : List ByteArray} {d k : Nat} (h : freeB u (binT k d) = true) : freeL u d (k + 1) = freeL u d k ++ [binT k d] := by
  unfold freeL; rw [List.range_succ, List.map_append, List.filter_append]; simp [h]
theorem freeL_no {u : List ByteArray} {d k : Nat} (h : freeB u (binT k d) = false) : freeL u d (k + 1) = freeL u d k := by
  unfold freeL; rw [List.range_succ, List.map_append, List.filter_append]; simp [h]
theorem freeL_len (u : List ByteArray) (d k : Nat) : (freeL u d k).length ≤ k := by
  unfold freeL; refine Nat.le_trans (List.length_filter_le _ _) ?_; simp
theorem freeB_all {u : List ByteArray} {p : ByteArray} {n : Nat} (hn : u.length ≤ n) (h : ∀ x (_ : x < n) (hl : x < u.length), confB p u[x] = false) : freeB u p = true := by
  unfold freeB; rw [List.all_eq_true]
  intro q hq
  obtain ⟨i, hi, rfl⟩ := List.getElem_of_mem hq
  rw [h i (by omega) hi]; rfl
theorem freeB_hit {u : List ByteArray} {p : ByteArray} {j : Nat} (hl : j < u.length) (h : confB p u[j] = true) : freeB u p = false := by
  unfold freeB; rw [List.all_eq_false]; exact ⟨u[j], List.getElem_mem hl, by simp [h]⟩
theorem freeB_take {u : List ByteArray} {p : ByteArray} {j : Nat} (hl : j < u.length) : freeB (u.take (j + 1)) p = (freeB (u.take j) p && !confB p u[j]) := by
  unfold freeB; rw [List.take_succ_eq_append_getElem hl, List.all_append]; simp
theorem pathB_bin {n d : Nat} (hd : d ≤ 6) : pathB (binT n d) = true := by
  unfold pathB
  rw [binT_size, decide_eq_true hd, Bool.true_and]
  unfold allS binT text
  rw [List.all_eq_true]
  intro c hc
  simp only [List.mem_map, binL] at hc
  obtain ⟨x, ⟨i, _, rfl⟩, rfl⟩ := hc
  have h := bitN_le n d i
  rcases (show bitN n d i = 0 ∨ bitN n d i = 1 by omega) with e | e <;> rw [e] <;> decide
theorem pow6 {d : Nat} (h : d ≤ 6) : 2 ^ d ≤ 64 := Nat.le_trans (Nat.pow_le_pow_right (by omega) h) (by decide)
theorem pathB_size {q : ByteArray} (h : pathB q = true) : q.size ≤ 6 := by
  unfold pathB at h; rw [Bool.and_eq_true, decide_eq_true_eq] at h; exact h.1

end Go.Proofs.Ytadcckjlcmnhbaa
