/- Copies: bits and question marks; how many bits are lost. Over the library's contracts (the seat's Shelf text). -/
import Derived.Test.YtaoahgngpjoekaaDoorSh
import Derived.Test.YtaoahgngpjoekaaDoorShelf
import Derived.Lib.Replace
namespace Go.Proofs.YtaoahgngpjoekaaDoor
open Go.RowKit

/-- MaxLen's cell holds some number. -/
def MaxOk (w : World) : Prop := ∃ m, w.cell? ⟨0, 0, none⟩ = some (.int .i64 m)
theorem MaxOk.below {w w' : World} (h : MaxOk w) (hb : Below w.heap.size w w') : MaxOk w' := by
  obtain ⟨m, hm⟩ := h
  exact ⟨m, by rw [hb.cell (lt_of_cell hm)]; exact hm⟩
theorem MaxOk.qw {w w' : World} (h : MaxOk w) (hq : Qw w w') : MaxOk w' := h.below (hq.below _)

def copyC (c : UInt8) : Bool := ((c.toNat : Int) == 48) || ((c.toNat : Int) == 49) || ((c.toNat : Int) == 63)
def copyB (s : ByteArray) : Bool := decide (s.size ≤ 600) && allS copyC s
/-- How many bits of a copy are lost. -/
def lostN (s : ByteArray) : Nat := s.data.toList.count 63
def lostR (s : ByteArray) : Int := if copyB s = true then (lostN s : Int) else -1
theorem lostR_yes {s : ByteArray} (h : copyB s = true) : lostR s = lostN s := by simp [lostR, h]
theorem lostR_no {s : ByteArray} (h : copyB s = false) : lostR s = -1 := by simp [lostR, h]
theorem copyB_600 {s : ByteArray} (h : copyB s = true) : s.size ≤ 600 := by
  unfold copyB at h; rw [Bool.and_eq_true] at h; exact of_decide_eq_true h.1

def swap (c d : UInt8) (x : UInt8) : UInt8 := if x = c then d else x
theorem replaceK_one (c d : UInt8) : ∀ s : List UInt8, Lib.replaceK [c] [d] (s.count c) s = s.map (swap c d)
  | [] => rfl
  | b :: l => by
    by_cases h : b = c
    · subst h
      have hix : Lib.index (b :: l) [b] = ((0 : Nat) : Int) := by rw [Lib.index]; simp [List.isPrefixOf]
      rw [List.count_cons_self, Lib.replaceK_hit _ _ _ _ 0 hix]
      simp only [List.take_zero, List.nil_append, List.length_cons, List.length_nil, List.drop_succ_cons, List.drop_zero, Nat.zero_add, List.map_cons]
      rw [replaceK_one b d l]
      simp [swap]
    · have hp : ([c] : List UInt8).isPrefixOf (b :: l) = false := by simp [List.isPrefixOf, Ne.symm h]
      have hix : Lib.index (b :: l) [c] = if Lib.index l [c] == -1 then -1 else Lib.index l [c] + 1 := by rw [Lib.index, hp]; simp
      have hs : swap c d b = b := by simp [swap, h]
      have ih := replaceK_one c d l
      rw [List.count_cons_of_ne (by simpa using h), List.map_cons, hs]
      rcases hn : l.count c with _ | k
      · rw [hn] at ih; rw [← ih]; rfl
      · have hpos : 0 < Lib.count l [c] := by rw [Lib.count_one, hn]; omega
        obtain ⟨j, hj⟩ := Lib.index_of_count hpos
        rw [hn, Lib.replaceK_hit _ _ _ _ j hj] at ih
        rw [Lib.replaceK_hit _ _ _ _ (j + 1) (by rw [hix, if_neg (by rw [beq_iff_eq]; omega), hj]; omega), ← ih]
        simp
theorem replaceAll_one {c d : UInt8} (hcd : c ≠ d) (s : List UInt8) : Lib.replaceAll s [c] [d] = s.map (swap c d) := by
  unfold Lib.replaceAll Lib.replace Lib.replaceNum
  rw [if_neg (by simpa using hcd), if_pos (.inl (by omega)), Lib.count_one]
  exact replaceK_one c d s
theorem bitC_swap (x : UInt8) : bitC (swap 63 48 x) = copyC x := by
  unfold swap
  by_cases h : x = 63
  · subst h; rfl
  · rw [if_neg h]
    have h' : ((x.toNat : Int) == 63) = false := by
      rw [beq_eq_false_iff_ne]; intro e; apply h; apply UInt8.toNat_inj.1; show x.toNat = 63; omega
    simp [bitC, copyC, h']
theorem bitsB_swap (s : ByteArray) : bitsB ⟨(s.data.toList.map (swap 63 48)).toArray⟩ = copyB s := by
  have h1 : (⟨(s.data.toList.map (swap 63 48)).toArray⟩ : ByteArray).size = s.size := by
    show (s.data.toList.map (swap 63 48)).toArray.size = s.data.size
    rw [List.size_toArray, List.length_map, Array.length_toList]
  have h2 : (bitC ∘ swap 63 48) = copyC := funext bitC_swap
  unfold bitsB copyB allS
  rw [h1]
  simp only [List.all_map, h2]

theorem copyC_a {c : UInt8} (h : ((c.toNat : Int) == 48) = true) : copyC c = true := by simp [copyC, h]
theorem copyC_b {c : UInt8} (h : ((c.toNat : Int) == 49) = true) : copyC c = true := by simp [copyC, h]
theorem copyC_c {c : UInt8} (h : ((c.toNat : Int) == 63) = true) : copyC c = true := by simp [copyC, h]
theorem copyC_not {c : UInt8} (h1 : ((c.toNat : Int) == 48) = false) (h2 : ((c.toNat : Int) == 49) = false) (h3 : ((c.toNat : Int) == 63) = false) : copyC c = false := by simp [copyC, h1, h2, h3]

set_option maxHeartbeats 400000 in
theorem copyValid_c (s : ByteArray) (w : World) (hm : MaxOk w) (hs : s.size ≤ 4294967280) : Calls Tryd.prog 27 #[.string s] w fun e w' => e = .returned (.bool (copyB s)) ∧ Below w.heap.size w w' := by
  obtain ⟨m, hm⟩ := hm
  have hr := Lib.hid (bitsB_swap s)
  have HR := Lib.hid (replaceAll_one (show (63 : UInt8) ≠ 48 by decide) s.data.toList)
  have hle : s.size + Lib.countB s ⟨#[63]⟩ * (⟨#[48]⟩ : ByteArray).size ≤ 140737488355328 := by
    have := Lib.countB_le ⟨#[63]⟩ (by simp [ByteArray.size]) s.size s (Nat.le_refl _)
    have h1 : (⟨#[48]⟩ : ByteArray).size = 1 := rfl
    rw [h1]; omega
  go_enter Tryd.func27, Tryd.ntmps27
  go_wp2_with fail
  refine (Tryd.strings_ReplaceAll s ⟨#[63]⟩ ⟨#[48]⟩ m w (by omega) hm (by simp [ByteArray.size]) hle).mono ?_; rintro e1 w1 ⟨rfl, hb⟩
  rw [show Lib.replaceAll s.data.toList (⟨#[63]⟩ : ByteArray).data.toList (⟨#[48]⟩ : ByteArray).data.toList = s.data.toList.map (swap 63 48) from HR.out]
  go_wp2_with fail
  refine (isBits_c _ _).mono ?_; rintro e w' ⟨rfl, rfl⟩
  rw [hr.out]
  go_wp2_with fail
  go_ret
  exact ⟨rfl, hb⟩

set_option maxHeartbeats 400000 in
theorem LostBits_c (s : ByteArray) (w : World) (hm : MaxOk w) (hs : s.size ≤ 4294967280) : Calls Tryd.prog 10 #[.string s] w fun e w' => e = .returned (.int .i64 (lostR s)) ∧ Below w.heap.size w w' := by
  by_cases h : copyB s = true
  · have hr := Lib.hid (lostR_yes h)
    go_enter Tryd.func10, Tryd.ntmps10
    go_wp2_with fail
    refine (copyValid_c s _ hm hs).mono ?_; rintro e1 w1 ⟨rfl, hb⟩
    rw [h]
    go_wp2_with fail
    refine (Tryd.strings_Count_one s 63 _).mono ?_; rintro e w' ⟨rfl, rfl⟩
    go_wp2_with fail
    go_ret
    exact ⟨by rw [hr.out]; rfl, hb⟩
  · have h' : copyB s = false := by simpa using h
    have hr := Lib.hid (lostR_no h')
    clear h
    go_enter Tryd.func10, Tryd.ntmps10
    go_wp2_with fail
    refine (copyValid_c s _ hm hs).mono ?_; rintro e1 w1 ⟨rfl, hb⟩
    rw [h']
    go_wp2_with fail
    go_ret
    exact ⟨by rw [hr.out]; rfl, hb⟩

set_option maxHeartbeats 1600000 in
theorem l7Copy_c (s : ByteArray) (w : World) (hs : s.size ≤ 1099511627776) : Calls Tryd.prog 39 #[.string s] w fun e w' => e = .returned (.bool (copyB s)) ∧ w = w' := by
  have hr := Lib.hid (show copyB s = (decide (s.size ≤ 600) && allS copyC s) from rfl)
  go_enter Tryd.func39, Tryd.ntmps39
  go_wp2
  go_loop [3] (fun i => ∃ k : Nat, k ≤ s.size ∧ i = .int .i64 k ∧ allT copyC s k = true) (fun i => s.size - (intOf i).toNat)
  case atStart => exact ⟨0, Nat.zero_le _, rfl, rfl⟩
  case round =>
    obtain ⟨k, hk, rfl, hall⟩ := hrel
    have HA := Lib.hid hall; clear hall
    by_cases hlt : k < s.size
    · by_cases h3 : ((s[k].toNat : Int) == 48) = true
      · have h3' : ((s[k].toNat : Int) != 48) = false := by simp [bne, h3]
        have HT := Lib.hid (allT_succ hlt HA.out (copyC_a h3))
        clear h3
        go_wp2
        go_round
        case rel => exact ⟨k + 1, by omega, by go_num, HT.out⟩
        case measure => simp [intOf]; omega
      · have h3a : ((s[k].toNat : Int) == 48) = false := by simpa using h3
        have h3' : ((s[k].toNat : Int) != 48) = true := by simp [bne, h3a]
        clear h3
        by_cases h4 : ((s[k].toNat : Int) == 49) = true
        · have h4' : ((s[k].toNat : Int) != 49) = false := by simp [bne, h4]
          have HT := Lib.hid (allT_succ hlt HA.out (copyC_b h4))
          clear h4
          go_wp2
          go_round
          case rel => exact ⟨k + 1, by omega, by go_num, HT.out⟩
          case measure => simp [intOf]; omega
        · have h4a : ((s[k].toNat : Int) == 49) = false := by simpa using h4
          have h4' : ((s[k].toNat : Int) != 49) = true := by simp [bne, h4a]
          clear h4
          by_cases h5 : ((s[k].toNat : Int) == 63) = true
          · have h5' : ((s[k].toNat : Int) != 63) = false := by simp [bne, h5]
            have HT := Lib.hid (allT_succ hlt HA.out (copyC_c h5))
            clear h5
            go_wp2
            go_round
            case rel => exact ⟨k + 1, by omega, by go_num, HT.out⟩
            case measure => simp [intOf]; omega
          · have h5a : ((s[k].toNat : Int) == 63) = false := by simpa using h5
            have h5' : ((s[k].toNat : Int) != 63) = true := by simp [bne, h5a]
            have HF := Lib.hid (allS_false hlt (copyC_not h3a h4a h5a))
            clear h5
            go_wp2
            go_ret
            exact ⟨ret_b (by rw [hr.out, HF.out]; simp), rfl⟩
    · by_cases h5 : s.size ≤ 600
      all_goals
        go_wp2
        go_ret
        exact ⟨ret_b (by rw [hr.out, allS_whole (by omega) HA.out]; simp; try omega), rfl⟩

/-- The lost ones among the first k bytes. -/
def lostK (s : ByteArray) (k : Nat) : Nat := (s.data.toList.take k).count 63
theorem lostK_yes {s : ByteArray} {k : Nat} (h : k < s.size) (h1 : ((s[k].toNat : Int) == 63) = true) : lostK s (k + 1) = lostK s k + 1 := by
  have e : s[k] = 63 := by apply UInt8.toNat_inj.1; show s[k].toNat = 63; have := beq_iff_eq.1 h1; omega
  unfold lostK; rw [take_snocS s k h, List.count_append, e]; rfl
theorem lostK_no {s : ByteArray} {k : Nat} (h : k < s.size) (h1 : ((s[k].toNat : Int) == 63) = false) : lostK s (k + 1) = lostK s k := by
  have e : ¬ s[k] = 63 := by intro e; rw [e] at h1; simp at h1
  unfold lostK; rw [take_snocS s k h, List.count_append, List.count_cons_of_ne (by simpa using e)]; rfl
theorem lostK_all (s : ByteArray) : lostK s s.size = lostN s := by
  unfold lostK lostN; rw [List.take_of_length_le (by simp)]
theorem lostK_le (s : ByteArray) (k : Nat) : lostK s k ≤ k := by
  unfold lostK; exact Nat.le_trans List.count_le_length (by rw [List.length_take]; omega)

set_option maxHeartbeats 800000 in
theorem sLostBits_c (s : ByteArray) (w : World) (hs : s.size ≤ 1099511627776) : Calls Tryd.prog 21 #[.string s] w fun e w' => e = .returned (.int .i64 (lostR s)) ∧ w = w' := by
  by_cases h : copyB s = true
  · have hr := Lib.hid (lostR_yes h)
    go_enter Tryd.func21, Tryd.ntmps21
    go_wp2_with fail
    refine (l7Copy_c s _ hs).mono ?_; rintro e w' ⟨rfl, rfl⟩
    rw [h]
    go_wp2_with fail
    go_loop [3, 4] (fun q i => ∃ k : Nat, k ≤ s.size ∧ i = .int .i64 k ∧ q = .int .i64 (lostK s k)) (fun _ i => s.size - (intOf i).toNat)
    case atStart => exact ⟨0, Nat.zero_le _, rfl, rfl⟩
    case round =>
      obtain ⟨k, hk, rfl, rfl⟩ := hrel
      have hle := lostK_le s k
      by_cases hlt : k < s.size
      · by_cases h3 : ((s[k].toNat : Int) == 63) = true
        · have HT := Lib.hid (lostK_yes hlt h3)
          go_wp2
          go_round
          case rel => exact ⟨k + 1, by omega, by go_num, by rw [HT.out]; go_num⟩
          case measure => simp [intOf]; omega
        · have h3' : ((s[k].toNat : Int) == 63) = false := by simpa using h3
          have HT := Lib.hid (lostK_no hlt h3')
          clear h3
          go_wp2
          go_round
          case rel => exact ⟨k + 1, by omega, by go_num, by rw [HT.out]⟩
          case measure => simp [intOf]; omega
      · obtain rfl : k = s.size := by omega
        go_wp2
        go_ret
        exact ⟨by rw [hr.out, lostK_all]; rfl, rfl⟩
  · have h' : copyB s = false := by simpa using h
    have hr := Lib.hid (lostR_no h')
    clear h
    go_enter Tryd.func21, Tryd.ntmps21
    go_wp2_with fail
    refine (l7Copy_c s _ hs).mono ?_; rintro e w' ⟨rfl, rfl⟩
    rw [h']
    go_wp2_with fail
    go_ret
    exact ⟨by rw [hr.out]; rfl, rfl⟩

end Go.Proofs.YtaoahgngpjoekaaDoor
