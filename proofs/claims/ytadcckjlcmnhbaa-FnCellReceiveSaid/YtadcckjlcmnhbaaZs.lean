/- Rows of zeros (ssZeros of the laws). No condition beyond lengths. -/
import Derived.Test.YtadcckjlcmnhbaaEd
import Derived.Test.YtadcckjlcmnhbaaSs
namespace Go.Proofs.Ytadcckjlcmnhbaa
open Go.RowKit

/-- n zeros. -/
def zerosT (n : Nat) : ByteArray := text (List.replicate n 48)
theorem zerosT_size (n : Nat) : (zerosT n).size = n := by unfold zerosT; rw [text_size, List.length_replicate]
theorem zerosT_bits (n : Nat) : allS bitC (zerosT n) = true := by
  unfold allS zerosT text
  rw [List.all_eq_true]
  intro c hc
  simp only [List.mem_map] at hc
  obtain ⟨x, hx, rfl⟩ := hc
  rw [List.eq_of_mem_replicate hx]; rfl

set_option maxHeartbeats 800000 in
theorem ssZeros_c (n : Nat) (w : World) (hn : n ≤ 1000) : Calls Try.prog 22 #[.int .i64 n] w fun e w' => e = .returned (.string (zerosT n)) ∧ Below w.heap.size w w' := by
  go_enter Try.func22, Try.ntmps22
  go_wp2_with (at_make; refine wp_make0B w rfl _ _ rfl .i64 .i64 n _ rfl rfl rfl (by omega) ?_; intro w1 ho0 hb0)
  go_loopw [3, 4] (fun v i wr => ∃ k : Nat, k ≤ n ∧ i = .int .i64 (k : Nat) ∧ OwnVB wr w.heap.size v (List.replicate k (48 : Int)) ∧ Below w.heap.size w wr) (fun _ i _ => n - (intOf i).toNat)
  case atStart => exact ⟨0, Nat.zero_le _, rfl, ho0, hb0⟩
  case round =>
    clear ho0 hb0
    obtain ⟨k, hk, rfl, ho, hb⟩ := hrel
    have hz := hb.size
    by_cases hlt : k < n
    · have hkl : (List.replicate k (48 : Int)).length = k := List.length_replicate
      have HR := Lib.hid (show List.replicate k (48 : Int) ++ [48] = List.replicate (k + 1) 48 by rw [List.replicate_succ'])
      go_wp2_with (at_builtin; refine wp_app1F 22 5 1 (0 : Int) Try.underlying22 info_u8 rfl (by decide) (fun _ => rfl) wr rfl _ _ rfl w.heap.size _ (List.replicate k (48 : Int)) 48 rfl (by exact ho) rfl (by omega) hz ?_; intro v' w5 ho3 _ hb5)
      rw [HR.out] at ho3
      go_roundw
      case rel => exact ⟨k + 1, by omega, by go_num, ho3, hb.trans hb5⟩
      case measure => simp [intOf]; omega
    · obtain rfl : k = n := by omega
      obtain ⟨a2, n2, c2, hv, ho2⟩ := OwnVF.own ho (by rw [List.length_replicate]; omega)
      subst hv
      have hrd := ho2.rd
      go_wp2_with (with_reducible refine wp_text 22 5 9 Try.underlying22 Try.underlying5 Try.underlying9 _ rfl (.tmp 15) rfl rfl hrd ?_)
      go_ret
      exact ⟨rfl, hb⟩

end Go.Proofs.Ytadcckjlcmnhbaa
