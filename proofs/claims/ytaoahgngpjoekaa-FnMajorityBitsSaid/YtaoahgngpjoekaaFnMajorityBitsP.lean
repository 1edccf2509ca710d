/- The law FnMajorityBits holds for every input that the given row lets in: the program's answer is the reference's. No condition of its own. -/
import Derived.Test.YtaoahgngpjoekaaRows
import Derived.WalkKit
import Derived.ProofKit
import Derived.OpenShut
import Derived.ShutString
import Derived.ChangeOld
import Derived.Below
import Derived.Lib.SmallJoins
import Derived.Test.YtaoahgngpjoekaaKp
import Derived.Test.YtaoahgngpjoekaaLw
namespace Go.Proofs.Ytaoahgngpjoekaa.fnMajorityBits
open Go.ChangeShapes Go.WideShapes Go.ChangeAt Go.RowKit
open Go.ChangeMaps (open_string shut_string)
set_option linter.unusedVariables false

theorem own : ownKnob Try.prog.godebug = none := by kernel_rfl
theorem laidOut : laidOutB Try.prog = true := by kernel_rfl

/-- A slice of integers that came in: nil, or a row of 'cap' cells that hold the numbers zs. -/
def IsRow (k : IntKind) (w : World) (a : Option Addr) (len cap : Nat) (zs : List Int) : Prop :=
  (a = none ∧ len = 0 ∧ cap = 0 ∧ zs = []) ∨
  ∃ x, a = some x ∧ len ≤ cap ∧ cap ≤ maxLen ∧ zs.length = cap ∧ (∀ i, i < zs.length → w.cell? (x.add i) = some (.int k (zs.getD i 0))) ∧ ∀ n ∈ zs, (Lit.int k n).wf = true

theorem maj_is {s t : ByteArray} {n : Int} (h : majR s n = some t) : ∃ N : Nat, n = N ∧ 1 ≤ N ∧ N ≤ 9 ∧ oddB N = true ∧ s.size % N = 0 ∧ bitsB s = true ∧ t = majT s N := by
  by_cases h1 : bitsB s = true
  · by_cases h2 : oddB n = true
    · obtain ⟨N, rfl, hN1, hN9, _⟩ := oddB_is h2
      by_cases h3 : s.size % N = 0
      · rw [majR_yes h1 h2 h3] at h
        exact ⟨N, rfl, hN1, hN9, h2, h3, h1, (Option.some.inj h).symm⟩
      · rw [majR_no3 h3] at h; cases h
    · rw [majR_no2 (by simpa using h2)] at h; cases h
  · rw [majR_no1 (by simpa using h1)] at h; cases h
set_option maxRecDepth 100000
set_option maxHeartbeats 4000000 in
theorem walk (a0 : Option Addr) (len0 cap0 : Nat) (z0 : List Int) (w : World) (w0 : IsRow .u8 w a0 len0 cap0 z0) :
    Calls Try.prog 6 #[.slice a0 len0 cap0] w fun e w' => e = .returned (.bool true) ∧ Below w.heap.size w w' := by
  by_cases hn : len0 ≤ 1048576
  · have hC := codeW_of_row w0 (by omega)
    clear w0
    go_enter Try.func6, Try.ntmps6
    go_wp2_with fail
    refine (DrawMajorityBits_c hC).mono ?_; rintro e w1 ⟨s, n, rfl, hs, hn0, hn1, hb1⟩
    clear hC
    cases hq : majR s n with
    | none =>
      have HT := Lib.hid hq
      clear hq
      go_wp2_with fail
      refine (MajorityBits_c s n _).mono ?_; rintro e w2 ⟨rfl, hb2⟩
      have hbA := hb1.trans (hb2.mono hb1.size)
      rw [HT.out]
      simp only [Option.getD_none, Option.isSome_none]
      go_wp2_with fail
      refine (sMajorityBits_c s n _ (by omega)).mono ?_; rintro e w3 ⟨rfl, hb3⟩
      have hbB := hbA.trans (hb3.mono hbA.size)
      rw [HT.out]
      simp only [Option.getD_none, Option.isSome_none]
      go_wp2_with fail
      go_ret
      exact ⟨by simp, hbB⟩
    | some t =>
      obtain ⟨N, rfl, hN1, hN9, hodd, hmod, hbits, ht⟩ := maj_is hq
      have HT := Lib.hid hq
      have h600 := bits_le hbits
      have HA := Lib.hid (bits_all hbits)
      have htz : t.size = s.size / N := by rw [ht, majT_size]
      have hMN : t.size * N = s.size := by rw [htz]; exact Nat.div_mul_cancel (Nat.dvd_of_mod_eq_zero hmod)
      have hta : allS bitC t = true := by rw [ht]; exact allS_bitL (majL_bit s N)
      have ht6 : t.size ≤ 600 := by rw [htz]; exact Nat.le_trans (Nat.div_le_self _ _) h600
      have htb : bitsB t = true := bits_mk ht6 hta
      have HR := Lib.hid (repR_yes htb hodd (show t.size * N ≤ 600 by omega))
      have hra : allS bitC (repT t N) = true := allS_bitL (repL_bit N hta)
      have hrz : (repT t N).size = s.size := by rw [repT_size]; exact hMN
      have HM := Lib.hid (show majR (repT t N) N = some t by
        rw [majR_yes (bits_mk (by omega) hra) hodd (by rw [hrz]; exact hmod), maj_rep (by omega) hta])
      have HGT := Lib.hid (fun (i : Nat) (h : i < t.size) => show (t[i].toNat : Int) = if majB s N i = true then 49 else 48 by
        subst ht; exact majT_get h)
      have HMN := Lib.hid hMN
      have hMNI : (t.size : Int) * (N : Int) = (s.size : Int) := by rw [← hMN, Int.natCast_mul]
      have hZ1 := wr_nat hMNI (by omega)
      have hZ2 := wr64_nat hMNI (by omega)
      have HZ1 := Lib.hid hZ1
      have HZ2 := Lib.hid hZ2
      have hteq : (t.toList == t.toList) = true := by simp
      clear hq hodd hmod hbits ht htz hMN hta htb hra hMNI hZ1 hZ2 hn0 hn1
      go_wp2_with fail
      refine (MajorityBits_c s (N : Int) _).mono ?_; rintro e w2 ⟨rfl, hb2⟩
      have hbA := hb1.trans (hb2.mono hb1.size)
      clear hb1 hb2
      rw [HT.out]
      simp only [Option.getD_some, Option.isSome_some]
      go_wp2_with fail
      refine (sMajorityBits_c s (N : Int) _ (by omega)).mono ?_; rintro e w3 ⟨rfl, hb3⟩
      have hbB := hbA.trans (hb3.mono hbA.size)
      clear hbA hb3
      rw [HT.out]
      simp only [Option.getD_some, Option.isSome_some]
      go_wp2_with fail
      refine (RepeatBits_c t (N : Int) _).mono ?_; rintro e w4 ⟨rfl, hb4⟩
      have hbC := hbB.trans (hb4.mono hbB.size)
      clear hbB hb4
      rw [HR.out]
      simp only [Option.getD_some, Option.isSome_some]
      generalize repT t N = r at *
      go_wp2_with fail
      refine (MajorityBits_c r (N : Int) _).mono ?_; rintro e w5 ⟨rfl, hb5⟩
      have hbD := hbC.trans (hb5.mono hbC.size)
      clear hbC hb5 hrz
      rw [HM.out]
      simp only [Option.getD_some, Option.isSome_some]
      go_wp2_with fail
      go_loopw [13] (fun i wr => ∃ k : Nat, k ≤ t.size ∧ i = .int .i64 k ∧ Qw w5 wr) (fun i _ => t.size - (intOf i).toNat)
      case atStart => exact ⟨0, Nat.zero_le _, rfl, Qw.refl _⟩
      case round =>
        obtain ⟨k, hk, rfl, hqw⟩ := hrel
        obtain ⟨wo, hwo⟩ : ∃ wo : World, wo = wr := ⟨_, rfl⟩
        subst hwo
        by_cases hlt : k < t.size
        · obtain ⟨P, hP⟩ : ∃ P, P = k * N := ⟨_, rfl⟩
          have hPN : P + N ≤ s.size := by rw [hP, ← HMN.out, ← Nat.succ_mul]; exact Nat.mul_le_mul_right N hlt
          have hPI : (k : Int) * (N : Int) = (P : Int) := by rw [hP, Int.natCast_mul]
          have HW1 := Lib.hid (wr_nat hPI (by omega))
          have HW2 := Lib.hid (wr64_nat hPI (by omega))
          have HP := Lib.hid hP
          have HTG := Lib.hid (HGT.out k hlt)
          have HWA := Lib.hid (wrong_all s N k)
          have HWZ := Lib.hid (wrong_zero s N k)
          clear hP hPI
          go_wp2_with fail
          go_loopw [14, 15] (fun x j wr => ∃ m : Nat, m ≤ N ∧ j = .int .i64 m ∧ x = .int .i64 (wrongK s N k m) ∧ Qw wo wr) (fun _ j _ => N - (intOf j).toNat)
          case atStart => exact ⟨0, Nat.zero_le _, rfl, by rw [HWZ.out]; rfl, Qw.refl _⟩
          case round =>
            obtain ⟨m, hm, rfl, rfl, hqi⟩ := hrel
            obtain ⟨wi, hwi⟩ : ∃ wi : World, wi = wr := ⟨_, rfl⟩
            subst hwi
            have hwl := wrong_le s N k m
            by_cases hlm : m < N
            · obtain ⟨X, hX⟩ : ∃ X, X = P + m := ⟨_, rfl⟩
              have hXs : X < s.size := by omega
              have hXI : (P : Int) + (m : Int) = (X : Int) := by rw [hX]; rfl
              have hw1 := HW1.out
              have hw2 := HW2.out
              have hw3 := wr_nat hXI (by omega)
              have hw4 := wr64_nat hXI (by omega)
              have eX : k * N + m = X := by rw [hX, HP.out]
              have hXs2 : k * N + m < s.size := by rw [eX]; exact hXs
              by_cases hv : (s[X].toNat : Int) = (t[k].toNat : Int)
              · have HS : Hid (wrongK s N k (m + 1) = wrongK s N k m) := Lib.hid (wrong_no hXs2 (by
                  have : s[k * N + m] = s[X] := by congr 1
                  rw [this, hv, HTG.out]))
                have hvb : ((s[X].toNat : Int) != (t[k].toNat : Int)) = false := by rw [hv]; simp
                generalize wrongK s N k m = y at *
                clear hv hX hXI eX hXs2
                go_wp2_with fail
                go_quiet (fail)
                clear hw1 hw2 hw3 hw4
                go_wp2_with fail
                go_roundw
                case rel => exact ⟨m + 1, by omega, by go_num, by rw [HS.out], hqi.trans (Qw.drewN _ _)⟩
                case measure => simp [intOf]; omega
              · have HS : Hid (wrongK s N k (m + 1) = wrongK s N k m + 1) := Lib.hid (wrong_yes hXs2 HA.out (by
                  have : s[k * N + m] = s[X] := by congr 1
                  rw [this, ← HTG.out]; exact hv))
                have hvb : ((s[X].toNat : Int) != (t[k].toNat : Int)) = true := by rw [bne_iff_ne]; exact hv
                generalize wrongK s N k m = y at *
                clear hv hX hXI eX hXs2
                go_wp2_with fail
                go_quiet (fail)
                clear hw1 hw2 hw3 hw4
                go_wp2_with fail
                go_roundw
                case rel => exact ⟨m + 1, by omega, by go_num, by rw [HS.out]; go_num, hqi.trans (Qw.drewN _ _)⟩
                case measure => simp [intOf]; omega
            · obtain rfl : m = N := by omega
              have h2w := HWA.out
              generalize wrongK s m k m = y at *
              go_wp2_with fail
              go_roundw
              case rel => exact ⟨k + 1, by omega, by go_num, hqw.trans hqi⟩
              case measure => simp [intOf]; omega
        · obtain rfl : k = t.size := by omega
          have hz1 := HZ1.out
          have hz2 := HZ2.out
          go_wp2_with fail
          go_ret
          exact ⟨by simp, hbD.trans ((hqw.below _).mono (Nat.le_refl _))⟩
  · have hn' : (1048576 : Int) < (len0 : Int) := by omega
    go_enter Try.func6, Try.ntmps6
    go_wp2_with fail
    go_ret
    exact ⟨rfl, Below.refl _ _⟩

set_option maxRecDepth 100000 in
theorem lifted (os : Os) (started : os.Started) (H : Type) (enc : TypeId × Value → H) :
    ReturnsInHanded {} Try.checked os 6 .any (Rows.fnMajorityBitsSpec.pre6 enc Try.prog Try.f6 Rows.fnMajorityBitsRow.domain false) (Rows.fnMajorityBitsSpec.post enc Try.prog Try.f6 false true false false) := by
  refine returnsInHanded_of_change (C := Try.checked) own started (by kernel_rfl) Try.func6
    (ChangeSpec.witness6 (enc := enc) (C := Try.checked) false ⟨#[], #[.slice none 0 0], []⟩ 8 (by kernel_rfl) (by kernel_rfl) (by kernel_rfl) (by kernel_rfl)) ?_
  intro W base args ds gs before hval0 hW hcnd _
  have hval : ∀ (j : Nat) t v, Try.f6.params[j]? = some t → args[j]? = some v → Value.okWide Try.prog W .any base t v := hval0
  have hW' := hW
  obtain ⟨p, q, hA0, hV, rfl, hfz, hnd⟩ := hW
  have hA : DataW.TrodAll enc Try.prog W 0 (fun _ => true) true Try.f6.params.toList args.toList ds p := hA0
  rw [Try.params6] at hA hval
  obtain ⟨v0, vs0, d0, ds0, p0, q0, hargs, rfl, rfl, h0, r0⟩ := trodAll_cons hA
  obtain ⟨rfl, rfl, rfl⟩ := trodAll_nil r0
  obtain rfl : args = #[v0] := by cases args; simp_all
  obtain ⟨rfl, rfl⟩ := trodVars_none hV
  have k0 := h0
  have lt0 : ∀ x ∈ p0, x.block < W.heap.size := by obtain ⟨m, hm⟩ := k0; exact DataW.trod_lt m _ _ _ hm
  obtain ⟨a0, len0, cap0, rfl⟩ := okWide_slice Try.underlying22 (hval 0 22 v0 rfl rfl)
  obtain ⟨z0, w0⟩ : ∃ zs, IsRow .u8 W a0 len0 cap0 zs := by
    obtain ⟨fuel, hf⟩ := h0
    rcases open_ints Try.underlying22 Try.underlying5 (by kernel_rfl) hf with ⟨hcs, _⟩ | ⟨x, l, c, zs, hcs, _, hl, hm, hz, _, hcell, hwz⟩
    · simp [Value.cells] at hcs
      obtain ⟨rfl, rfl, rfl⟩ := hcs
      exact ⟨[], .inl ⟨rfl, rfl, rfl, rfl⟩⟩
    · simp [Value.cells] at hcs
      obtain ⟨rfl, rfl, rfl⟩ := hcs
      exact ⟨zs, .inr ⟨_, rfl, hl, hm, by simpa using hz, hcell, hwz⟩⟩
  clear hA0 hval0
  refine (walk a0 len0 cap0 z0 W w0).mono fun e W' ⟨he, bel⟩ => ?_
  subst he
  exact ⟨_, rfl, _, _, _, [], _, [], hW', trodAll_mk1 (shut_bool Try.underlying4 _), (trodAll_cons_mk (Below.trod laidOut (by kernel_rfl) (of_decide_eq_true (by kernel_rfl)) k0 bel lt0) trodAll_mk0), rfl, bel.frame _, fun h => by cases h⟩

theorem over : Rows.fnMajorityBitsRow.holds Try.pinned (OpenSpec.ofChange Rows.fnMajorityBitsSpec) :=
  OpenClaim.holds_of_wide 6 Try.f6 rfl rfl rfl rfl rfl rfl rfl ⟨rfl, rfl, rfl, rfl, rfl⟩ rfl rfl rfl rfl rfl (by kernel_rfl) Try.func6 (by kernel_rfl)
    (of_decide_eq_true (by kernel_rfl)) (by unfold Func.isWrapper; first | (rw [if_pos (by decide +kernel)]; kernel_rfl) | (rw [if_neg (by decide +kernel)]; exact ⟨rfl, rfl⟩))
    (fun os started H enc _ => lifted os started H enc)

theorem proved : Rows.FnMajorityBitsSaid := over
#print axioms proved
end Go.Proofs.Ytaoahgngpjoekaa.fnMajorityBits
