/- TreeCode of the program: the code of a path. No condition beyond lengths. -/
import Derived.Test.YtadcckjlcmnhbaaFq
namespace Go.Proofs.Ytadcckjlcmnhbaa
open Go.RowKit

/-- All bits changed. -/
def invL (l : List Int) : List Int := l.map fun x => 97 - x
def invT (s : ByteArray) : ByteArray := text (invL (codes s))
def isBit (x : Int) : Prop := x = 48 ∨ x = 49
theorem invL_get {l : List Int} {i : Nat} (h : i < (invL l).length) : (invL l)[i] = 97 - l[i]'(by simpa [invL] using h) := by simp [invL]
theorem invL_len (l : List Int) : (invL l).length = l.length := by simp [invL]

set_option maxHeartbeats 800000 in
theorem changedBits_c (s : ByteArray) (w : World) (hs : s.size ≤ 1000) (hb : ∀ x ∈ codes s, isBit x) : Calls Try.prog 36 #[.string s] w fun e w' => e = .returned (.string (invT s)) ∧ Below w.heap.size w w' := by
  have HL := Lib.hid (show (invL (codes s)).length = s.size by rw [invL_len, codes_length])
  have HB := Lib.hid hb; clear hb
  go_enter Try.func36, Try.ntmps36
  go_wp2_with (at_make; refine wp_makeF 22 5 1 (0 : Int) Try.underlying22 info_u8 rfl (by decide) w rfl _ _ rfl .i64 .i64 s.size rfl rfl (by omega) ?_; intro w1 hown hb)
  have hF := FillF.start hown HL.out (by simp)
  clear hown
  go_loopw [10] (fun i wr => ∃ k : Nat, k ≤ s.size ∧ i = .int .i64 k ∧ FillB wr w.heap.size w.heap.size s.size (invL (codes s)) (List.replicate s.size 0) k ∧ Below w.heap.size w wr) (fun i _ => s.size - (intOf i).toNat)
  case atStart => exact ⟨0, Nat.zero_le _, rfl, hF, hb⟩
  case round =>
    clear hF hb
    obtain ⟨k, hk, rfl, hF, hb⟩ := hrel
    by_cases hlt : k < s.size
    · obtain ⟨z, hc⟩ := hF.cell hlt
      have hf := hF.free k
      have hkc : k < (codes s).length := by rw [codes_length]; exact hlt
      have hbit : isBit (s[k].toNat : Int) := by rw [← codes_get s hlt]; exact HB.out _ (List.getElem_mem hkc)
      have hx : (s[k].toNat : Int) = 48 ∨ (s[k].toNat : Int) = 49 := hbit
      have hst := hF.step hlt (y := .int .u8 (97 - (s[k].toNat : Int))) (fun hl => by rw [invL_get hl, codes_get s hlt])
      have hb2 := hF.below hb (.int .u8 (97 - (s[k].toNat : Int)))
      clear hF hb hbit
      go_wp2_with fail
      go_roundw
      case rel => exact ⟨k + 1, by omega, by go_num, hst, hb2⟩
      case measure => simp [intOf]; omega
    · obtain rfl : k = s.size := by omega
      obtain ⟨a1, n1, c1, e1, ho⟩ := (hF.done (Nat.le_refl _)).own (by rw [HL.out]; omega)
      cases e1
      have hrd := ho.rd
      go_wp2_with (with_reducible refine wp_text 22 5 9 Try.underlying22 Try.underlying5 Try.underlying9 _ rfl (.tmp 21) rfl rfl hrd ?_)
      go_ret
      exact ⟨rfl, hb⟩

/-- The code of the first k bits of a path, as bytes. -/
def treeL (p : ByteArray) : Nat → List Int
  | 0 => [48]
  | k + 1 => treeL p k ++ (if (codes p).getD k 0 = 48 then treeL p k else invL (treeL p k))
theorem treeL_len (p : ByteArray) (k : Nat) : (treeL p k).length = 2 ^ k := by
  induction k with
  | zero => rfl
  | succ k ih =>
    unfold treeL
    rw [List.length_append, Nat.pow_succ]
    split
    · omega
    · rw [invL_len]; omega
theorem treeL_bit (p : ByteArray) (k : Nat) : ∀ x ∈ treeL p k, isBit x := by
  induction k with
  | zero => intro x hx; unfold treeL at hx; rw [List.mem_singleton] at hx; exact .inl hx
  | succ k ih =>
    intro x hx
    unfold treeL at hx
    rcases List.mem_append.1 hx with hx | hx
    · exact ih x hx
    · split at hx
      · exact ih x hx
      · unfold invL at hx
        obtain ⟨y, hy, rfl⟩ := List.mem_map.1 hx
        rcases ih y hy with h | h
        · right; omega
        · left; omega
theorem codes_text {l : List Int} (h : ∀ x ∈ l, isBit x) : codes (text l) = l := by
  unfold codes text
  simp only [List.map_map]
  refine (List.map_congr_left fun x hx => ?_).trans (List.map_id l)
  rcases h x hx with rfl | rfl <;> decide
theorem treeT_yes {p : ByteArray} {k : Nat} (h : (codes p).getD k 0 = 48) : text (treeL p k) ++ text (treeL p k) = text (treeL p (k + 1)) := by
  rw [text_add]; conv => rhs; unfold treeL
  rw [if_pos h]
theorem treeT_no {p : ByteArray} {k : Nat} (h : (codes p).getD k 0 ≠ 48) : text (treeL p k) ++ invT (text (treeL p k)) = text (treeL p (k + 1)) := by
  unfold invT
  rw [codes_text (treeL_bit p k), text_add]; conv => rhs; unfold treeL
  rw [if_neg h]

set_option maxHeartbeats 800000 in
theorem TreeCode_c (p : ByteArray) (w : World) (hp : pathB p = true) : Calls Try.prog 11 #[.string p] w fun e w' => e = .returned (.tuple #[.string (text (treeL p p.size)), .bool true]) ∧ Below w.heap.size w w' := by
  have hz := pathB_size hp
  have HCB := Lib.hid (fun k (c : World) (hk : k ≤ 6) => changedBits_c (text (treeL p k)) c (by rw [text_size, treeL_len]; have := pow6 hk; omega) (by rw [codes_text (treeL_bit p k)]; exact treeL_bit p k))
  go_enter Try.func11, Try.ntmps11
  go_wp2_with fail
  refine (pathValid_c _ _).mono ?_; rintro e w' ⟨rfl, rfl⟩
  rw [hp]
  clear hp
  go_wp2_with fail
  go_loopw [4, 11] (fun s i wr => ∃ k : Nat, k ≤ p.size ∧ i = .int .i64 k ∧ s = .string (text (treeL p k)) ∧ Below w.heap.size w wr) (fun _ i _ => p.size - (intOf i).toNat)
  case atStart => exact ⟨0, Nat.zero_le _, rfl, by unfold treeL; rfl, Below.refl _ _⟩
  case round =>
    obtain ⟨k, hk, rfl, rfl, hb⟩ := hrel
    obtain ⟨wo, hwo⟩ : ∃ wo : World, wo = wr := ⟨_, rfl⟩
    subst hwo
    by_cases hlt : k < p.size
    · have hkc : k < (codes p).length := by rw [codes_length]; exact hlt
      have HG := Lib.hid (show (codes p).getD k 0 = (p[k].toNat : Int) by rw [← codes_get p hlt]; simp [List.getD, hkc])
      have hzk : (text (treeL p k)).size ≤ 64 := by rw [text_size, treeL_len]; exact pow6 (by omega)
      have hzk2 : (invT (text (treeL p k))).size ≤ 64 := by unfold invT; rw [text_size, invL_len, codes_length]; exact hzk
      have hs1 : ¬ (text (treeL p k)).size + (text (treeL p k)).size > 9223372036854775807 := by omega
      have hs2 : ¬ (text (treeL p k)).size + (invT (text (treeL p k))).size > 9223372036854775807 := by omega
      by_cases h0 : (p[k].toNat : Int) = 48
      · have h0' : ((p[k].toNat : Int) == 48) = true := by simp; omega
        have HX := Lib.hid (treeT_yes (HG.out.trans h0))
        clear h0
        go_wp2_with fail
        rw [HX.out]
        go_roundw
        case rel => exact ⟨k + 1, by omega, by go_num, rfl, hb⟩
        case measure => simp [intOf]; omega
      · have h0' : ((p[k].toNat : Int) == 48) = false := by simp; omega
        have HX := Lib.hid (treeT_no (p := p) (k := k) (by rw [HG.out]; exact h0))
        have hk6 : k ≤ 6 := by omega
        clear h0
        go_wp2_with fail
        refine (HCB.out k _ hk6).mono ?_; rintro e w2 ⟨rfl, hb2⟩
        have hb3 := hb.trans (hb2.mono hb.size)
        go_wp2_with fail
        rw [HX.out]
        go_roundw
        case rel => exact ⟨k + 1, by omega, by go_num, rfl, hb3⟩
        case measure => simp [intOf]; omega
    · obtain rfl : k = p.size := by omega
      go_wp2_with fail
      go_ret2
      exact ⟨rfl, hb⟩

end Go.Proofs.Ytadcckjlcmnhbaa
