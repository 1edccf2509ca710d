/- Texts: numerals written and read, cuts at a byte, signs for nothing; program and reference. No condition beyond lengths. -/
import Derived.Test.YtdedcablhahbnaaDoorTg
import Derived.Test.YtdedcablhahbnaaDoorTb
namespace Go.Proofs.YtdedcablhahbnaaDoor
open Go.RowKit

theorem tl_bts (s : ByteArray) : s.toList = bts s := ByteArray.toList_eq s
theorem tl_ne {s : ByteArray} {l : Byts} (h : bts s ≠ l) : (s.toList == l) = false := by rw [tl_bts, beq_eq_false_iff_ne]; exact h
theorem tl_eq {s : ByteArray} {l : Byts} (h : bts s = l) : (s.toList == l) = true := by rw [tl_bts, h]; simp
theorem size_bts {s : ByteArray} (h : s.size = 0) : bts s = [] := by rw [← List.length_eq_zero_iff, bts_len]; exact h
theorem bts_size {s : ByteArray} (h : s.size ≠ 0) : bts s ≠ [] := fun e => h (by rw [← bts_len, e]; rfl)

theorem bitsText_c (s : ByteArray) (w : World) : Calls Tryd.prog 14 #[.string s] w fun e w' => e = .returned (.string (dashT s)) ∧ w = w' := by
  by_cases h : s.size = 0
  · have hs := size_bts h
    have hr := Lib.hid (show dashT s = ⟨#[45]⟩ by unfold dashT; rw [if_pos h])
    obtain rfl : s = ⟨#[]⟩ := bts_inj hs
    clear h hs
    go_enter Tryd.func14, Tryd.ntmps14
    go_wp2_with fail
    go_ret
    exact ⟨by rw [hr.out]; rfl, rfl⟩
  · have hr := Lib.hid (show dashT s = s by unfold dashT; rw [if_neg h])
    have h1 := tl_ne (bts_size h)
    have h2 : s.toList.isEmpty = false := by rw [tl_bts]; simpa using bts_size h
    clear h
    go_enter Tryd.func14, Tryd.ntmps14
    go_wp2_with fail
    go_ret
    exact ⟨by rw [hr.out]; rfl, rfl⟩

theorem l8Dash_c (s : ByteArray) (w : World) : Calls Tryd.prog 18 #[.string s] w fun e w' => e = .returned (.string (dashT s)) ∧ w = w' := by
  by_cases h : s.size = 0
  · have hs := size_bts h
    have hr := Lib.hid (show dashT s = ⟨#[45]⟩ by unfold dashT; rw [if_pos h])
    obtain rfl : s = ⟨#[]⟩ := bts_inj hs
    clear h hs
    go_enter Tryd.func18, Tryd.ntmps18
    go_wp2_with fail
    go_ret
    exact ⟨by rw [hr.out]; rfl, rfl⟩
  · have hr := Lib.hid (show dashT s = s by unfold dashT; rw [if_neg h])
    have h1 := tl_ne (bts_size h)
    have h2 : s.toList.isEmpty = false := by rw [tl_bts]; simpa using bts_size h
    clear h
    go_enter Tryd.func18, Tryd.ntmps18
    go_wp2_with fail
    go_ret
    exact ⟨by rw [hr.out]; rfl, rfl⟩

theorem fieldBits_c (s : ByteArray) (w : World) : Calls Tryd.prog 44 #[.string s] w fun e w' => e = .returned (.string (noneT s)) ∧ w = w' := by
  by_cases h : bts s = [45]
  · have hr := Lib.hid (show noneT s = ⟨#[]⟩ by unfold noneT; rw [if_pos h])
    have h1 := tl_eq h
    clear h
    go_enter Tryd.func44, Tryd.ntmps44
    go_wp2_with fail
    go_ret
    exact ⟨by rw [hr.out]; rfl, rfl⟩
  · have hr := Lib.hid (show noneT s = s by unfold noneT; rw [if_neg h])
    have h1 := tl_ne h
    clear h
    go_enter Tryd.func44, Tryd.ntmps44
    go_wp2_with fail
    go_ret
    exact ⟨by rw [hr.out]; rfl, rfl⟩

theorem l8None_c (s : ByteArray) (w : World) : Calls Tryd.prog 30 #[.string s] w fun e w' => e = .returned (.string (noneT s)) ∧ w = w' := by
  by_cases h : bts s = [45]
  · have hr := Lib.hid (show noneT s = ⟨#[]⟩ by unfold noneT; rw [if_pos h])
    have h1 := tl_eq h
    clear h
    go_enter Tryd.func30, Tryd.ntmps30
    go_wp2_with fail
    go_ret
    exact ⟨by rw [hr.out]; rfl, rfl⟩
  · have hr := Lib.hid (show noneT s = s by unfold noneT; rw [if_neg h])
    have h1 := tl_ne h
    clear h
    go_enter Tryd.func30, Tryd.ntmps30
    go_wp2_with fail
    go_ret
    exact ⟨by rw [hr.out]; rfl, rfl⟩

end Go.Proofs.YtdedcablhahbnaaDoor
