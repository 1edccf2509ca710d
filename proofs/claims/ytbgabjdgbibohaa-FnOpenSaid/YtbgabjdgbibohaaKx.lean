/- OpenPayload of the reference. No condition beyond lengths. -/
import Derived.Test.YtbgabjdgbibohaaKw
import Derived.Test.YtbgabjdgbibohaaKs
import Derived.Test.YtbgabjdgbibohaaKt
namespace Go.Proofs.Ytbgabjdgbibohaa
open Go.RowKit

/-- What OpenPayload answers. -/
def opR (b : ByteArray) (n s t x : Int) : Option ByteArray := (scrR b s t x).bind fun m => (deiR m n).bind fun k => (hamR k).bind fun d => (parseR d.1 0).map Prod.fst
theorem scr_sz (b : ByteArray) (s t x : Int) : ((scrR b s t x).getD ByteArray.empty).size ≤ b.size := by
  unfold scrR
  split
  · show (scrT b _ _ _).size ≤ _; rw [scr_size]; exact Nat.le_refl _
  · exact Nat.zero_le _
theorem dei_sz (m : ByteArray) (n : Int) : ((deiR m n).getD ByteArray.empty).size ≤ m.size := by
  unfold deiR
  split
  · show (deiT m _).size ≤ _; unfold deiT; rw [text_size, deiF_len]; exact Nat.le_refl _
  · exact Nat.zero_le _
theorem ham_sz (k : ByteArray) : (((hamR k).map Prod.fst).getD ByteArray.empty).size ≤ 4 * k.size := by
  unfold hamR
  split
  · show (decT k (k.size / 7)).size ≤ _
    rw [decT_size _ (by omega)]; omega
  · exact Nat.zero_le _

set_option maxHeartbeats 1600000 in
theorem sOpenPayload_c (b : ByteArray) (n s t x : Int) (w : World) (hs : b.size ≤ 1073741824) : Calls Try.prog 13 #[.string b, .int .i64 n, .agg #[.int .i64 s, .int .i64 t, .int .i64 x]] w (RetTB w (opR b n s t x)) := by
  have hR0 := regAt_one w s t x
  have hB0 : Below w.heap.size w (w.alloc (.cells #[.int .i64 s, .int .i64 t, .int .i64 x] 26)) := (Below.refl _ _).alloc (Nat.le_refl _) _
  have HZ := Lib.hid (show (w.alloc (.cells #[.int .i64 s, .int .i64 t, .int .i64 x] 26)).heap.size = w.heap.size + 1 by simp)
  have c0 := hR0.c0
  have c1 := hR0.c1
  have c2 := hR0.c2
  have hz1 := scr_sz b s t x
  go_enter Try.func13, Try.ntmps13
  go_wp2_with fail
  refine (sScrambleBits_c b s t x _ (by omega)).mono ?_; rintro e w1 ⟨rfl, hb1⟩
  have hB1 := hB0.trans (hb1.mono (by rw [HZ.out]; omega))
  clear hR0 hB0 hb1 c0 c1 c2
  obtain ⟨A, hA⟩ : ∃ A, A = scrR b s t x := ⟨_, rfl⟩
  rw [← hA] at hz1
  rw [← hA]
  have HA := Lib.hid hA
  clear hA
  obtain ⟨m, hm⟩ : ∃ m, m = A.getD ByteArray.empty := ⟨_, rfl⟩
  obtain ⟨o1, ho1⟩ : ∃ o, o = A.isSome := ⟨_, rfl⟩
  rw [← hm] at hz1
  rw [← hm, ← ho1]
  have HM := Lib.hid (And.intro hm ho1)
  clear hm ho1
  have hz2 := dei_sz m n
  go_wp2_with fail
  refine (sDeinterleaveBits_c m n _ (by omega)).mono ?_; rintro e w2 ⟨rfl, hb2⟩
  have hB2 := hB1.trans (hb2.mono hB1.size)
  clear hB1 hb2
  obtain ⟨B, hB⟩ : ∃ B, B = deiR m n := ⟨_, rfl⟩
  rw [← hB] at hz2
  rw [← hB]
  have HB := Lib.hid hB
  clear hB
  obtain ⟨k, hk⟩ : ∃ k, k = B.getD ByteArray.empty := ⟨_, rfl⟩
  obtain ⟨o2, ho2⟩ : ∃ o, o = B.isSome := ⟨_, rfl⟩
  rw [← hk] at hz2
  rw [← hk, ← ho2]
  have HK := Lib.hid (And.intro hk ho2)
  clear hk ho2
  have hz3 := ham_sz k
  go_wp2_with fail
  refine (sHammingDecode_c k _ (by omega)).mono ?_; rintro e w3 ⟨rfl, hb3⟩
  have hB3 := hB2.trans (hb3.mono hB2.size)
  clear hB2 hb3
  obtain ⟨C, hC⟩ : ∃ C, C = hamR k := ⟨_, rfl⟩
  rw [← hC] at hz3
  rw [← hC]
  have HC := Lib.hid hC
  clear hC
  obtain ⟨d, hd⟩ : ∃ d, d = (C.map Prod.fst).getD ByteArray.empty := ⟨_, rfl⟩
  obtain ⟨z, hz⟩ : ∃ z, z = (C.map Prod.snd).getD 0 := ⟨_, rfl⟩
  obtain ⟨o3, ho3⟩ : ∃ o, o = C.isSome := ⟨_, rfl⟩
  rw [← hd] at hz3
  rw [← hd, ← hz, ← ho3]
  have HD := Lib.hid (And.intro hd ho3)
  clear hd hz ho3
  cases o1 with
  | false =>
    have hr : Hid (opR b n s t x = none) := Lib.hid (by
      unfold opR; rw [← HA.out]
      cases A with
      | none => rfl
      | some a => exact absurd HM.out.2 (by simp))
    go_wp2_with fail
    go_ret2
    exact retTB_none hr.out hB3
  | true =>
    cases o2 with
    | false =>
      have hr : Hid (opR b n s t x = none) := Lib.hid (by
        unfold opR; rw [← HA.out]
        cases A with
        | none => rfl
        | some a =>
          have hma : m = a := HM.out.1
          rw [Option.bind_some, ← hma, ← HB.out]
          cases B with
          | none => rfl
          | some q => exact absurd HK.out.2 (by simp))
      go_wp2_with fail
      go_ret2
      exact retTB_none hr.out hB3
    | true =>
      cases o3 with
      | false =>
        have hr : Hid (opR b n s t x = none) := Lib.hid (by
          unfold opR; rw [← HA.out]
          cases A with
          | none => rfl
          | some a =>
            have hma : m = a := HM.out.1
            rw [Option.bind_some, ← hma, ← HB.out]
            cases B with
            | none => rfl
            | some q =>
              have hkq : k = q := HK.out.1
              rw [Option.bind_some, ← hkq, ← HC.out]
              cases C with
              | none => rfl
              | some v => exact absurd HD.out.2 (by simp))
        go_wp2_with fail
        go_ret2
        exact retTB_none hr.out hB3
      | true =>
        have hr : Hid (opR b n s t x = (parseR d 0).map Prod.fst) := Lib.hid (by
          unfold opR; rw [← HA.out]
          cases A with
          | none => exact absurd HM.out.2 (by simp)
          | some a =>
            have hma : m = a := HM.out.1
            rw [Option.bind_some, ← hma, ← HB.out]
            cases B with
            | none => exact absurd HK.out.2 (by simp)
            | some q =>
              have hkq : k = q := HK.out.1
              rw [Option.bind_some, ← hkq, ← HC.out]
              cases C with
              | none => exact absurd HD.out.2 (by simp)
              | some v =>
                have hdv : d = v.1 := HD.out.1
                rw [Option.bind_some, ← hdv])
        go_wp2_with fail
        refine (sParseFrame_c d 0 _ (by omega)).mono ?_; rintro e w4 ⟨rfl, hb4⟩
        have hB4 := hB3.trans (hb4.mono hB3.size)
        cases hp : parseR d 0 with
        | none =>
          have HP := Lib.hid hp
          clear hp
          simp only [Option.map_none, Option.getD_none, Option.isSome_none]
          go_wp2_with fail
          go_ret2
          exact retTB_none (by rw [hr.out, HP.out]; rfl) hB4
        | some pn =>
          obtain ⟨p, j⟩ := pn
          have HP := Lib.hid hp
          clear hp
          simp only [Option.map_some, Option.getD_some, Option.isSome_some]
          go_wp2_with fail
          go_ret2
          exact retTB_some (by rw [hr.out, HP.out]; rfl) hB4

end Go.Proofs.Ytbgabjdgbibohaa
