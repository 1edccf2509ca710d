/- LinearHops of the program and of the reference come to one Lean function, linHops. No condition. -/
import Derived.Test.YtaoahgngpjoekaaDoorHv
namespace Go.Proofs.YtaoahgngpjoekaaDoor
open Go.RowKit

def linOk (ch u n : Int) : Bool := chB ch && inB u 0 (ch - 1) && inB n 0 300
def linAt (ch u : Int) (i : Nat) : Int := u * i % ch
def linHops (ch u n : Int) : Option (List Int) := if linOk ch u n = true then some ((List.range n.toNat).map (linAt ch u)) else none
theorem linHops_no {ch u n : Int} (h : linOk ch u n = false) : linHops ch u n = none := by simp [linHops, h]
theorem linHops_yes {ch u n : Int} (h : linOk ch u n = true) : linHops ch u n = some ((List.range n.toNat).map (linAt ch u)) := by simp [linHops, h]


set_option maxHeartbeats 800000 in
theorem sLinearHops_c (ch u n : Int) (w : World) : Calls Tryd.prog 47 #[.int .i64 ch, .int .i64 u, .int .i64 n] w (RetIntsB w (linHops ch u n)) := by
  obtain ⟨i0, hi, hz0, hz1, hz2⟩ := info_parts info_int
  by_cases h1 : chB ch = true
  · have h1' := inB_iff.1 h1
    by_cases h2 : inB u 0 (ch - 1) = true
    · have h2' := inB_iff.1 h2
      by_cases h3 : inB n 0 300 = true
      · have h3' := inB_iff.1 h3
        have hr := Lib.hid (linHops_yes (show linOk ch u n = true by simp [linOk, h1, h2, h3]))
        obtain ⟨m, rfl⟩ := Int.eq_ofNat_of_zero_le h3'.1
        have hm : m ≤ 300 := by omega
        go_enter Tryd.func47, Tryd.ntmps47
        go_wp2_with fail
        refine (l7Channels_c _ _).mono ?_; rintro e w' ⟨rfl, rfl⟩
        go_wp2_with fail
        refine (l1In_c _ _ _ _).mono ?_; rintro e w' ⟨rfl, rfl⟩
        go_wp2_with fail
        refine (l1In_c _ _ _ _).mono ?_; rintro e w' ⟨rfl, rfl⟩
        go_wp2_with fail
        go_loopw [8, 9] (fun v i wr => ∃ k : Nat, k ≤ m ∧ i = .int .i64 k ∧ OwnV wr w.heap.size v ((List.range k).map (linAt ch u)) ∧ Below w.heap.size w wr) (fun _ i _ => m - (intOf i).toNat)
        case atStart => exact ⟨0, Nat.zero_le _, rfl, OwnV.made0 w (Nat.le_refl _), (Below.refl _ _).alloc (Nat.le_refl _) _⟩
        case round =>
          obtain ⟨k, hk, rfl, hown, hb⟩ := hrel
          by_cases hlt : k < m
          · have hk0 : 0 ≤ u * (k : Int) := Int.mul_nonneg h2'.1 (by omega)
            have hk1 : u * (k : Int) ≤ 15 * 300 := Int.mul_le_mul (by omega) (by omega) (by omega) (by omega)
            have hsz := hb.size
            go_wp2_with (at_builtin; refine wp_app1 wr rfl _ _ rfl w.heap.size _ _ _ rfl (by exact hown) rfl (by simp; omega) hsz ?_; intro v' w1 hown' _ hb')
            have hown2 : OwnV w1 w.heap.size v' ((List.range (k + 1)).map (linAt ch u)) := by rw [map_range_succ]; exact hown'
            have hb2 := hb.trans hb'
            clear hown' hown hb hb'
            go_wp2
            go_roundw
            case rel => exact ⟨k + 1, by omega, by go_num, hown2, hb2⟩
            case measure => simp [intOf]; omega
          · go_wp2
            go_ret2
            obtain rfl : k = m := by omega
            exact retIntsB_mk hown (by simp; omega) (by rw [hr.out]; simp) (by rw [hr.out]; rfl) hb
      · have h3' : inB n 0 300 = false := by simpa using h3
        have hr := Lib.hid (linHops_no (show linOk ch u n = false by simp [linOk, h3']))
        clear h3
        go_enter Tryd.func47, Tryd.ntmps47
        go_wp2_with fail
        refine (l7Channels_c _ _).mono ?_; rintro e w' ⟨rfl, rfl⟩
        go_wp2_with fail
        refine (l1In_c _ _ _ _).mono ?_; rintro e w' ⟨rfl, rfl⟩
        go_wp2_with fail
        refine (l1In_c _ _ _ _).mono ?_; rintro e w' ⟨rfl, rfl⟩
        go_wp2_with fail
        go_ret2
        exact retIntsB_mk (OwnV.made0 w (Nat.le_refl _)) (by simp) (by rw [hr.out]; rfl) (by rw [hr.out]; rfl) ((Below.refl _ _).alloc (Nat.le_refl _) _)
    · have h2' : inB u 0 (ch - 1) = false := by simpa using h2
      have hr := Lib.hid (linHops_no (show linOk ch u n = false by simp [linOk, h2']))
      clear h2
      go_enter Tryd.func47, Tryd.ntmps47
      go_wp2_with fail
      refine (l7Channels_c _ _).mono ?_; rintro e w' ⟨rfl, rfl⟩
      go_wp2_with fail
      refine (l1In_c _ _ _ _).mono ?_; rintro e w' ⟨rfl, rfl⟩
      go_wp2_with fail
      go_ret2
      exact retIntsB_mk (OwnV.made0 w (Nat.le_refl _)) (by simp) (by rw [hr.out]; rfl) (by rw [hr.out]; rfl) ((Below.refl _ _).alloc (Nat.le_refl _) _)
  · have h1' : chB ch = false := by simpa using h1
    have hr := Lib.hid (linHops_no (show linOk ch u n = false by simp [linOk, h1']))
    clear h1
    go_enter Tryd.func47, Tryd.ntmps47
    go_wp2_with fail
    refine (l7Channels_c _ _).mono ?_; rintro e w' ⟨rfl, rfl⟩
    go_wp2_with fail
    go_ret2
    exact retIntsB_mk (OwnV.made0 w (Nat.le_refl _)) (by simp) (by rw [hr.out]; rfl) (by rw [hr.out]; rfl) ((Below.refl _ _).alloc (Nat.le_refl _) _)

end Go.Proofs.YtaoahgngpjoekaaDoor
