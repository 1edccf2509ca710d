/- The law FnBurst holds for every input that the given row lets in: the program's answer is the reference's. No condition of its own. -/
import Derived.Test.YtadcckjlcmnhbaaRows
import Derived.WalkKit
import Derived.ProofKit
import Derived.OpenShut
import Derived.ShutString
import Derived.ChangeOld
import Derived.Below
import Derived.Lib.SmallJoins
import Derived.Test.YtadcckjlcmnhbaaOd
import Derived.Test.YtadcckjlcmnhbaaOe
import Derived.Test.YtadcckjlcmnhbaaLw
import Derived.Test.YtadcckjlcmnhbaaLa
namespace Go.Proofs.Ytadcckjlcmnhbaa.fnBurst
open Go.ChangeShapes Go.WideShapes Go.ChangeAt Go.RowKit
open Go.ChangeMaps (open_string shut_string)
set_option linter.unusedVariables false

theorem own : ownKnob Try.prog.godebug = none := by kernel_rfl
theorem laidOut : laidOutB Try.prog = true := by kernel_rfl

/-- A slice of integers that came in: nil, or a row of 'cap' cells that hold the numbers zs. -/
def IsRow (k : IntKind) (w : World) (a : Option Addr) (len cap : Nat) (zs : List Int) : Prop :=
  (a = none ∧ len = 0 ∧ cap = 0 ∧ zs = []) ∨
  ∃ x, a = some x ∧ len ≤ cap ∧ cap ≤ maxLen ∧ zs.length = cap ∧ (∀ i, i < zs.length → w.cell? (x.add i) = some (.int k (zs.getD i 0))) ∧ ∀ n ∈ zs, (Lit.int k n).wf = true

theorem wr_sq {i I : Nat} (h : i * i = I) (hI : I ≤ 1000000) : IntKind.i64.wrap ((i : Int) * (i : Int)) = (I : Int) := by
  rw [← Int.natCast_mul, h]; exact IntWalk.i64_in _ (by omega)
set_option maxRecDepth 100000
set_option maxHeartbeats 4000000 in
theorem walk (a0 : Option Addr) (len0 cap0 : Nat) (z0 : List Int) (a1 : Option Addr) (len1 cap1 : Nat) (z1 : List Int) (w : World) (w0 : IsRow .u8 w a0 len0 cap0 z0) (w1 : IsRow .u8 w a1 len1 cap1 z1) :
    Calls Try.prog 4 #[.slice a0 len0 cap0, .slice a1 len1 cap1] w fun e w' => e = .returned (.bool true) ∧ Below w.heap.size w w' := by
  by_cases hn : len0 ≤ 1048576
  · by_cases hn1 : len1 ≤ 1048576
    · have hC := codeW_of_row w0 (by omega)
      clear w0 w1
      go_enter Try.func4, Try.ntmps4
      go_wp2_with fail
      refine (DrawProtectPayload_c hC).mono ?_; rintro e w1 ⟨p, n, s, t, x, rfl, hpz, hnn, hb1⟩
      clear hC
      have hBx1 := Box.new w1 #[.int .i64 s, .int .i64 t, .int .i64 x] 42
      have hbl : Below w1.heap.size w1 (w1.alloc (.cells #[.int .i64 s, .int .i64 t, .int .i64 x] 42)) := (Below.refl _ _).alloc (Nat.le_refl _) _
      have hB1 := hb1.trans (hbl.mono hb1.size)
      clear hb1 hbl
      have c0 := hBx1.cell (i := 0) rfl
      have c1 := hBx1.cell (i := 1) rfl
      have c2 := hBx1.cell (i := 2) rfl
      cases hq : prR p n s t x with
      | none =>
        have HT := Lib.hid hq
        clear hq
        go_wp2_with fail
        refine (ProtectPayload_c p n s t x _).mono ?_; rintro e w2 ⟨rfl, hb2⟩
        have hBx2 := hBx1.below hb2 hBx1.lt
        have hbA := hB1.trans (hb2.mono hB1.size)
        clear c0 c1 c2
        have c0 := hBx2.cell (i := 0) rfl
        have c1 := hBx2.cell (i := 1) rfl
        have c2 := hBx2.cell (i := 2) rfl
        rw [HT.out]
        simp only [Option.getD_none, Option.isSome_none]
        go_wp2_with fail
        refine (sProtectPayload_c p n s t x _ (by omega)).mono ?_; rintro e w3 ⟨rfl, hb3⟩
        have hbB := hbA.trans (hb3.mono hbA.size)
        clear c0 c1 c2
        rw [HT.out]
        simp only [Option.getD_none, Option.isSome_none]
        go_wp2_with fail
        go_ret
        exact ⟨by simp, hbB⟩
      | some q =>
        obtain ⟨hqb, hq6, hq0, hqm, ⟨hn1', hn40⟩, _, _⟩ := prR_good hq
        obtain ⟨N, rfl⟩ : ∃ N : Nat, n = (N : Int) := ⟨n.toNat, by omega⟩
        have HQ := Lib.hid hq
        have HOQ := Lib.hid (open_prot (a := 0) hq (Fl.none _) (fun i hi => by cases hi))
        have HQB := Lib.hid hqb
        have hqq : (q.toList == q.toList) = true := by simp
        have hqq2 : (q.toList != q.toList) = false := by simp
        have hpp : (p.toList == p.toList) = true := by simp
        clear hq hqb
        go_wp2_with fail
        refine (ProtectPayload_c p N s t x _).mono ?_; rintro e w2 ⟨rfl, hb2⟩
        have hBx2 := hBx1.below hb2 hBx1.lt
        have hbA := hB1.trans (hb2.mono hB1.size)
        clear c0 c1 c2 hBx1 hB1 hb2
        have c0 := hBx2.cell (i := 0) rfl
        have c1 := hBx2.cell (i := 1) rfl
        have c2 := hBx2.cell (i := 2) rfl
        rw [HQ.out]
        simp only [Option.getD_some, Option.isSome_some]
        go_wp2_with fail
        refine (sProtectPayload_c p N s t x _ (by omega)).mono ?_; rintro e w3 ⟨rfl, hb3⟩
        have hBx3 := hBx2.below hb3 hBx2.lt
        have hbB := hbA.trans (hb3.mono hbA.size)
        clear c0 c1 c2 hBx2 hbA hb3
        rw [HQ.out]
        simp only [Option.getD_some, Option.isSome_some]
        obtain ⟨M7, hM7⟩ : ∃ M7, M7 = 7 * len1 := ⟨_, rfl⟩
        have kw7 : IntKind.i64.wrap (7 * (len1 : Int)) = (M7 : Int) := by rw [hM7]; exact IntWalk.i64_in _ (by omega)
        obtain ⟨A, hA⟩ : ∃ A, A = M7 % q.size := ⟨_, rfl⟩
        have hA6 : A < q.size := by rw [hA]; exact Nat.mod_lt _ hq0
        have m1 : (M7 : Int).tmod (q.size : Int) = (A : Int) := by rw [hA]; rfl
        have m2 : (M7 : Int) % (q.size : Int) = (A : Int) := by rw [hA]; rfl
        have hqn0 : ¬ (q.size : Int) = 0 := by omega
        have hqn1 : ¬ q.size = 0 := by omega
        clear hM7 hA
        go_wp2_with fail
        clear m1 m2 kw7
        go_loopw [12, 14] (fun v i wr => ∃ (k : Nat) (y : ByteArray), A ≤ k ∧ k ≤ A + N ∧ k ≤ q.size ∧ i = .int .i64 k ∧ v = .string y ∧ Hid (∃ F : Nat → Bool, Fl q y F ∧ ∀ j, F j = true → A ≤ j ∧ j < k) ∧ y.size = q.size ∧ Below w3.heap.size w3 wr) (fun _ i _ => q.size - (intOf i).toNat)
        case atStart => exact ⟨A, q, Nat.le_refl _, by omega, by omega, rfl, rfl, Lib.hid ⟨_, Fl.none _, fun j hj => by cases hj⟩, rfl, Below.refl _ _⟩
        case round =>
          obtain ⟨k, y, hk0, hk1, hk2, rfl, rfl, HF, hyz, hb⟩ := hrel
          by_cases h1 : k < A + N
          · by_cases h2 : k < q.size
            · have HYB := Lib.hid (show allS bitC y = true by obtain ⟨F, hF, _⟩ := HF.out; exact hF.bit HQB.out)
              have HF1 := Lib.hid (show ∃ F : Nat → Bool, Fl q (flipT y k) F ∧ ∀ j, F j = true → A ≤ j ∧ j < k + 1 by
                obtain ⟨F, hF, hw⟩ := HF.out
                have hFk : F k = false := by
                  cases h : F k with
                  | false => rfl
                  | true => have := hw k h; omega
                refine ⟨_, hF.flip HQB.out h2 hFk, fun j hj => ?_⟩
                rw [Bool.or_eq_true, beq_iff_eq] at hj
                rcases hj with h | h
                · have := hw j h; omega
                · omega)
              have HF0 := Lib.hid (show ∃ F : Nat → Bool, Fl q y F ∧ ∀ j, F j = true → A ≤ j ∧ j < k + 1 by
                obtain ⟨F, hF, hw⟩ := HF.out
                exact ⟨F, hF, fun j hj => by have := hw j hj; omega⟩)
              have hfz : (flipT y k).size = q.size := by rw [flip_size (by omega), hyz]
              have hk600 : k ≤ 600 := by omega
              have h1' : (k : Int) < (A : Int) + (N : Int) := by omega
              by_cases h3 : k = A
              · have h3' : ((k : Int) == (A : Int)) = true := by simp [h3]
                clear h3
                go_wp2_with fail
                refine (ssFlip_c y k _ (by omega) (by omega) HYB.out).mono ?_; rintro e w5 ⟨rfl, hb5⟩
                have hb6 := hb.trans (hb5.mono hb.size)
                go_wp2_with fail
                go_roundw
                case rel => exact ⟨k + 1, _, by omega, by omega, by omega, by go_num, rfl, HF1, hfz, hb6⟩
                case measure => simp [intOf]; omega
              · have h3' : ((k : Int) == (A : Int)) = false := by rw [beq_eq_false_iff_ne]; omega
                obtain ⟨I2, hI2⟩ : ∃ I2, k * k = I2 := ⟨_, rfl⟩
                have hI2b : I2 ≤ 600 * 600 := by rw [← hI2]; exact Nat.mul_le_mul hk600 hk600
                have s1 := wr_sq hI2 (by omega)
                obtain ⟨L, hL⟩ : ∃ L, L = I2 + len1 := ⟨_, rfl⟩
                have s2 : IntKind.i64.wrap ((I2 : Int) + (len1 : Int)) = (L : Int) := by rw [hL]; exact IntWalk.i64_in _ (by omega)
                obtain ⟨r, hr⟩ : ∃ r, r = L % 3 := ⟨_, rfl⟩
                have s3 : (L : Int).tmod 3 = (r : Int) := by rw [hr]; rfl
                have s4 : (L : Int) % 3 = (r : Int) := by rw [hr]; rfl
                clear hI2 hL hr h3
                by_cases h4 : 0 < r
                · have h4' : (0 : Int) < (r : Int) := by omega
                  go_wp2_with fail
                  refine (ssFlip_c y k _ (by omega) (by omega) HYB.out).mono ?_; rintro e w5 ⟨rfl, hb5⟩
                  have hb6 := hb.trans (hb5.mono hb.size)
                  clear s1 s2 s3 s4
                  go_wp2_with fail
                  go_roundw
                  case rel => exact ⟨k + 1, _, by omega, by omega, by omega, by go_num, rfl, HF1, hfz, hb6⟩
                  case measure => simp [intOf]; omega
                · obtain rfl : r = 0 := by omega
                  go_wp2_with fail
                  clear s1 s2 s3 s4
                  go_roundw
                  case rel => exact ⟨k + 1, y, by omega, by omega, by omega, by go_num, rfl, HF0, hyz, hb⟩
                  case measure => simp [intOf]; omega
            · have h1' : (k : Int) < (A : Int) + (N : Int) := by omega
              have h2' : ¬ (k : Int) < (q.size : Int) := by omega
              have HX := Lib.hid (show opR y N s t x = some p by
                obtain ⟨F, hF, hw⟩ := HF.out
                exact open_prot (a := A) HQ.out hF (fun j hj => by have := hw j hj; omega))
              have hBx4 := hBx3.below hb hBx3.lt
              have hbC := hbB.trans (hb.mono hbB.size)
              have c0 := hBx4.cell (i := 0) rfl
              have c1 := hBx4.cell (i := 1) rfl
              have c2 := hBx4.cell (i := 2) rfl
              obtain ⟨K, hK⟩ : ∃ K, K = 7 * N := ⟨_, rfl⟩
              have kw : IntKind.i64.wrap (7 * (N : Int)) = (K : Int) := by rw [hK]; exact IntWalk.i64_in _ (by omega)
              have hK0 : ¬ (K : Int) = 0 := by omega
              have hK00 : ¬ K = 0 := by omega
              have hqk : q.size % K = 0 := by rw [hK]; exact hqm
              have a1 : (q.size : Int).tmod (K : Int) = 0 := by rw [show (q.size : Int).tmod (K : Int) = ((q.size % K : Nat) : Int) from rfl, hqk]; rfl
              have a2 : (q.size : Int) % (K : Int) = 0 := by rw [show (q.size : Int) % (K : Int) = ((q.size % K : Nat) : Int) from rfl, hqk]; rfl
              clear hK hqk hqm hb hbB
              go_wp2_with fail
              refine (OpenPayload_c q N s t x _).mono ?_; rintro e w6 ⟨rfl, hb6⟩
              have hBx5 := hBx4.below hb6 hBx4.lt
              have hbD := hbC.trans (hb6.mono hbC.size)
              clear c0 c1 c2 hBx4 hbC hb6
              have c0 := hBx5.cell (i := 0) rfl
              have c1 := hBx5.cell (i := 1) rfl
              have c2 := hBx5.cell (i := 2) rfl
              rw [HOQ.out]
              simp only [Option.getD_some, Option.isSome_some]
              go_wp2_with fail
              refine (OpenPayload_c y N s t x _).mono ?_; rintro e w7 ⟨rfl, hb7⟩
              have hbE := hbD.trans (hb7.mono hbD.size)
              clear c0 c1 c2 hBx5 hbD hb7
              rw [HX.out]
              simp only [Option.getD_some, Option.isSome_some]
              go_wp2_with fail
              go_ret
              exact ⟨by simp, hbE⟩
          · have h1' : ¬ (k : Int) < (A : Int) + (N : Int) := by omega
            have HX := Lib.hid (show opR y N s t x = some p by
              obtain ⟨F, hF, hw⟩ := HF.out
              exact open_prot (a := A) HQ.out hF (fun j hj => by have := hw j hj; omega))
            have hBx4 := hBx3.below hb hBx3.lt
            have hbC := hbB.trans (hb.mono hbB.size)
            have c0 := hBx4.cell (i := 0) rfl
            have c1 := hBx4.cell (i := 1) rfl
            have c2 := hBx4.cell (i := 2) rfl
            obtain ⟨K, hK⟩ : ∃ K, K = 7 * N := ⟨_, rfl⟩
            have kw : IntKind.i64.wrap (7 * (N : Int)) = (K : Int) := by rw [hK]; exact IntWalk.i64_in _ (by omega)
            have hK0 : ¬ (K : Int) = 0 := by omega
            have hK00 : ¬ K = 0 := by omega
            have hqk : q.size % K = 0 := by rw [hK]; exact hqm
            have a1 : (q.size : Int).tmod (K : Int) = 0 := by rw [show (q.size : Int).tmod (K : Int) = ((q.size % K : Nat) : Int) from rfl, hqk]; rfl
            have a2 : (q.size : Int) % (K : Int) = 0 := by rw [show (q.size : Int) % (K : Int) = ((q.size % K : Nat) : Int) from rfl, hqk]; rfl
            clear hK hqk hqm hb hbB
            go_wp2_with fail
            refine (OpenPayload_c q N s t x _).mono ?_; rintro e w6 ⟨rfl, hb6⟩
            have hBx5 := hBx4.below hb6 hBx4.lt
            have hbD := hbC.trans (hb6.mono hbC.size)
            clear c0 c1 c2 hBx4 hbC hb6
            have c0 := hBx5.cell (i := 0) rfl
            have c1 := hBx5.cell (i := 1) rfl
            have c2 := hBx5.cell (i := 2) rfl
            rw [HOQ.out]
            simp only [Option.getD_some, Option.isSome_some]
            go_wp2_with fail
            refine (OpenPayload_c y N s t x _).mono ?_; rintro e w7 ⟨rfl, hb7⟩
            have hbE := hbD.trans (hb7.mono hbD.size)
            clear c0 c1 c2 hBx5 hbD hb7
            rw [HX.out]
            simp only [Option.getD_some, Option.isSome_some]
            go_wp2_with fail
            go_ret
            exact ⟨by simp, hbE⟩
    · have hn' : (1048576 : Int) < (len1 : Int) := by omega
      go_enter Try.func4, Try.ntmps4
      go_wp2_with fail
      go_ret
      exact ⟨rfl, Below.refl _ _⟩
  · have hn' : (1048576 : Int) < (len0 : Int) := by omega
    go_enter Try.func4, Try.ntmps4
    go_wp2_with fail
    go_ret
    exact ⟨rfl, Below.refl _ _⟩

set_option maxRecDepth 100000 in
theorem lifted (os : Os) (started : os.Started) (H : Type) (enc : TypeId × Value → H) :
    ReturnsInHanded {} Try.checked os 4 .any (Rows.fnBurstSpec.pre6 enc Try.prog Try.f4 Rows.fnBurstRow.domain false) (Rows.fnBurstSpec.post enc Try.prog Try.f4 false true false false) := by
  refine returnsInHanded_of_change (C := Try.checked) own started (by kernel_rfl) Try.func4
    (ChangeSpec.witness6 (enc := enc) (C := Try.checked) false ⟨#[], #[.slice none 0 0, .slice none 0 0], []⟩ 8 (by kernel_rfl) (by kernel_rfl) (by kernel_rfl) (by kernel_rfl)) ?_
  intro W base args ds gs before hval0 hW hcnd _
  have hval : ∀ (j : Nat) t v, Try.f4.params[j]? = some t → args[j]? = some v → Value.okWide Try.prog W .any base t v := hval0
  have hW' := hW
  obtain ⟨p, q, hA0, hV, rfl, hfz, hnd⟩ := hW
  have hA : DataW.TrodAll enc Try.prog W 0 (fun _ => true) true Try.f4.params.toList args.toList ds p := hA0
  rw [Try.params4] at hA hval
  obtain ⟨v0, vs0, d0, ds0, p0, q0, hargs, rfl, rfl, h0, r0⟩ := trodAll_cons hA
  obtain ⟨v1, vs1, d1, ds1, p1, q1, rfl, rfl, rfl, h1, r1⟩ := trodAll_cons r0
  obtain ⟨rfl, rfl, rfl⟩ := trodAll_nil r1
  obtain rfl : args = #[v0, v1] := by cases args; simp_all
  obtain ⟨rfl, rfl⟩ := trodVars_none hV
  have k0 := h0
  have lt0 : ∀ x ∈ p0, x.block < W.heap.size := by obtain ⟨m, hm⟩ := k0; exact DataW.trod_lt m _ _ _ hm
  have k1 := h1
  have lt1 : ∀ x ∈ p1, x.block < W.heap.size := by obtain ⟨m, hm⟩ := k1; exact DataW.trod_lt m _ _ _ hm
  obtain ⟨a0, len0, cap0, rfl⟩ := okWide_slice Try.underlying22 (hval 0 22 v0 rfl rfl)
  obtain ⟨z0, w0⟩ : ∃ zs, IsRow .u8 W a0 len0 cap0 zs := by
    obtain ⟨fuel, hf⟩ := h0
    rcases open_ints Try.underlying22 Try.underlying5 (by kernel_rfl) hf with ⟨hcs, _⟩ | ⟨x, l, c, zs, hcs, _, hl, hm, hz, _, hcell, hwz⟩
    · simp [Value.cells] at hcs
      obtain ⟨rfl, rfl, rfl⟩ := hcs
      exact ⟨[], .inl ⟨rfl, rfl, rfl, rfl⟩⟩
    · simp [Value.cells] at hcs
      obtain ⟨rfl, rfl, rfl⟩ := hcs
      exact ⟨zs, .inr ⟨_, rfl, hl, hm, by simpa using hz, hcell, hwz⟩⟩
  obtain ⟨a1, len1, cap1, rfl⟩ := okWide_slice Try.underlying22 (hval 1 22 v1 rfl rfl)
  obtain ⟨z1, w1⟩ : ∃ zs, IsRow .u8 W a1 len1 cap1 zs := by
    obtain ⟨fuel, hf⟩ := h1
    rcases open_ints Try.underlying22 Try.underlying5 (by kernel_rfl) hf with ⟨hcs, _⟩ | ⟨x, l, c, zs, hcs, _, hl, hm, hz, _, hcell, hwz⟩
    · simp [Value.cells] at hcs
      obtain ⟨rfl, rfl, rfl⟩ := hcs
      exact ⟨[], .inl ⟨rfl, rfl, rfl, rfl⟩⟩
    · simp [Value.cells] at hcs
      obtain ⟨rfl, rfl, rfl⟩ := hcs
      exact ⟨zs, .inr ⟨_, rfl, hl, hm, by simpa using hz, hcell, hwz⟩⟩
  clear hA0 hval0
  refine (walk a0 len0 cap0 z0 a1 len1 cap1 z1 W w0 w1).mono fun e W' ⟨he, bel⟩ => ?_
  subst he
  exact ⟨_, rfl, _, _, _, [], _, [], hW', trodAll_mk1 (shut_bool Try.underlying4 _), (trodAll_cons_mk (Below.trod laidOut (by kernel_rfl) (of_decide_eq_true (by kernel_rfl)) k0 bel lt0) (trodAll_cons_mk (Below.trod laidOut (by kernel_rfl) (of_decide_eq_true (by kernel_rfl)) k1 bel lt1) trodAll_mk0)), rfl, bel.frame _, fun h => by cases h⟩

theorem over : Rows.fnBurstRow.holds Try.pinned (OpenSpec.ofChange Rows.fnBurstSpec) :=
  OpenClaim.holds_of_wide 4 Try.f4 rfl rfl rfl rfl rfl rfl rfl ⟨rfl, rfl, rfl, rfl, rfl⟩ rfl rfl rfl rfl rfl (by kernel_rfl) Try.func4 (by kernel_rfl)
    (of_decide_eq_true (by kernel_rfl)) (by unfold Func.isWrapper; first | (rw [if_pos (by decide +kernel)]; kernel_rfl) | (rw [if_neg (by decide +kernel)]; exact ⟨rfl, rfl⟩))
    (fun os started H enc _ => lifted os started H enc)

theorem proved : Rows.FnBurstSaid := over
#print axioms proved
end Go.Proofs.Ytadcckjlcmnhbaa.fnBurst
