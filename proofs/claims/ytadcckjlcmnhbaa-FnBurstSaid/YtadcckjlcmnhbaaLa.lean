/- OpenPayload of the program. No condition beyond lengths. -/
import Derived.Test.YtadcckjlcmnhbaaKx
import Derived.Test.YtadcckjlcmnhbaaKz
namespace Go.Proofs.Ytadcckjlcmnhbaa
open Go.RowKit

set_option maxHeartbeats 1600000 in
theorem OpenPayload_c (b : ByteArray) (n s t x : Int) (w : World) : Calls Try.prog 19 #[.string b, .int .i64 n, .agg #[.int .i64 s, .int .i64 t, .int .i64 x]] w (RetTB w (opR b n s t x)) := by
  have hR0 := regAt_one w s t x
  have hB0 : Below w.heap.size w (w.alloc (.cells #[.int .i64 s, .int .i64 t, .int .i64 x] 42)) := (Below.refl _ _).alloc (Nat.le_refl _) _
  have HZ := Lib.hid (show (w.alloc (.cells #[.int .i64 s, .int .i64 t, .int .i64 x] 42)).heap.size = w.heap.size + 1 by simp)
  have c0 := hR0.c0
  have c1 := hR0.c1
  have c2 := hR0.c2
  go_enter Try.func19, Try.ntmps19
  go_wp2_with fail
  refine (ScrambleBits_c b s t x _).mono ?_; rintro e w1 ⟨rfl, hb1⟩
  have hB1 := hB0.trans (hb1.mono (by rw [HZ.out]; omega))
  clear hR0 hB0 hb1 c0 c1 c2
  cases hA : scrR b s t x with
  | none =>
    have HA := Lib.hid hA
    clear hA
    simp only [Option.getD_none, Option.isSome_none]
    go_wp2_with fail
    go_ret2
    exact retTB_none (by unfold opR; rw [HA.out]; rfl) hB1
  | some m =>
    have HA := Lib.hid hA
    clear hA
    simp only [Option.getD_some, Option.isSome_some]
    go_wp2_with fail
    refine (DeinterleaveBits_c m n _).mono ?_; rintro e w2 ⟨rfl, hb2⟩
    have hB2 := hB1.trans (hb2.mono hB1.size)
    clear hB1 hb2
    cases hB : deiR m n with
    | none =>
      have HB := Lib.hid hB
      clear hB
      simp only [Option.getD_none, Option.isSome_none]
      go_wp2_with fail
      go_ret2
      exact retTB_none (by unfold opR; rw [HA.out, Option.bind_some, HB.out]; rfl) hB2
    | some k =>
      have HB := Lib.hid hB
      clear hB
      simp only [Option.getD_some, Option.isSome_some]
      go_wp2_with fail
      refine (HammingDecode_c k _).mono ?_; rintro e w3 ⟨rfl, hb3⟩
      have hB3 := hB2.trans (hb3.mono hB2.size)
      clear hB2 hb3
      cases hC : hamR k with
      | none =>
        have HC := Lib.hid hC
        clear hC
        simp only [Option.map_none, Option.getD_none, Option.isSome_none]
        go_wp2_with fail
        go_ret2
        exact retTB_none (by unfold opR; rw [HA.out, Option.bind_some, HB.out, Option.bind_some, HC.out]; rfl) hB3
      | some v =>
        obtain ⟨d, z⟩ := v
        have hr := Lib.hid (show opR b n s t x = (parseR d 0).map Prod.fst by unfold opR; rw [HA.out, Option.bind_some, HB.out, Option.bind_some, hC]; rfl)
        clear hC HA HB
        simp only [Option.map_some, Option.getD_some, Option.isSome_some]
        go_wp2_with fail
        refine (ParseFrame_c d 0 _).mono ?_; rintro e w4 ⟨rfl, hb4⟩
        have hB4 := hB3.trans (hb4.mono hB3.size)
        cases hp : parseR d 0 with
        | none =>
          have HP := Lib.hid hp
          clear hp
          simp only [Option.map_none, Option.getD_none, Option.isSome_none]
          go_wp2_with fail
          go_ret2
          exact retTB_none (by rw [hr.out, HP.out]; rfl) hB4
        | some pn =>
          obtain ⟨p, j⟩ := pn
          have HP := Lib.hid hp
          clear hp
          simp only [Option.map_some, Option.getD_some, Option.isSome_some]
          go_wp2_with fail
          go_ret2
          exact retTB_some (by rw [hr.out, HP.out]; rfl) hB4

end Go.Proofs.Ytadcckjlcmnhbaa
