/- The law FnHopSequence holds for every input that the given row lets in: the program's answer is the reference's. No condition of its own. -/
import Derived.Test.YtklbdkbaldkkpaaRows
import Derived.WalkKit
import Derived.ProofKit
import Derived.OpenShut
import Derived.ShutString
import Derived.ChangeOld
import Derived.Below
import Derived.Lib.SmallJoins
import Derived.Test.YtklbdkbaldkkpaaDq
import Derived.Test.YtklbdkbaldkkpaaLw
import Derived.Test.YtklbdkbaldkkpaaRy
namespace Go.Proofs.Ytklbdkbaldkkpaa.fnHopSequence
open Go.ChangeShapes Go.WideShapes Go.ChangeAt Go.RowKit
open Go.ChangeMaps (open_string shut_string)
set_option linter.unusedVariables false

theorem own : ownKnob Try.prog.godebug = none := by kernel_rfl
theorem laidOut : laidOutB Try.prog = true := by kernel_rfl

/-- A slice of integers that came in: nil, or a row of 'cap' cells that hold the numbers zs. -/
def IsRow (k : IntKind) (w : World) (a : Option Addr) (len cap : Nat) (zs : List Int) : Prop :=
  (a = none ∧ len = 0 ∧ cap = 0 ∧ zs = []) ∨
  ∃ x, a = some x ∧ len ≤ cap ∧ cap ≤ maxLen ∧ zs.length = cap ∧ (∀ i, i < zs.length → w.cell? (x.add i) = some (.int k (zs.getD i 0))) ∧ ∀ n ∈ zs, (Lit.int k n).wf = true

theorem jumpS_add (s t : Nat) : ∀ (a b x : Nat), jumpS s t (a + b) x = jumpS s t b (jumpS s t a x) := by
  intro a
  induction a with
  | zero => intro b x; rw [Nat.zero_add]; rfl
  | succ a ih => intro b x; rw [Nat.succ_add]; show jumpS s t (a + b) (stepS s t x) = _; rw [ih]; rfl
theorem hopX_jump (s t x : Nat) : ∀ k, jumpS s t (k * s) x = hopX s t x k := by
  intro k
  induction k with
  | zero => rw [Nat.zero_mul]; rfl
  | succ k ih => rw [Nat.succ_mul, jumpS_add, ih]; rfl
theorem hopX_more (s t x k : Nat) : ∀ i, hopX s t (hopX s t x k) i = hopX s t x (k + i) := by
  intro i
  induction i with
  | zero => rfl
  | succ i ih => show jumpS s t s _ = _; rw [ih]; rfl
theorem hopL_drop {s t x k m : Nat} {ch : Int} (h : k ≤ m) : (hopL s t x ch m).drop k = hopL s t (hopX s t x k) ch (m - k) := by
  apply List.ext_getElem
  · simp [hopL_len]
  · intro i h1 h2
    have hl : i < m - k := by rw [hopL_len] at h2; exact h2
    have e1 : (hopL s t x ch m)[k + i]? = some ((hopX s t x (k + i) : Int) % ch) := by unfold hopL; rw [List.getElem?_map, List.getElem?_range (by omega)]; rfl
    have e2 : (hopL s t (hopX s t x k) ch (m - k))[i]? = some ((hopX s t x (k + i) : Int) % ch) := by rw [← hopX_more]; unfold hopL; rw [List.getElem?_map, List.getElem?_range (by omega)]; rfl
    rw [List.getElem_drop]
    have f1 := (List.getElem?_eq_some_iff.1 e1).2
    have f2 := (List.getElem?_eq_some_iff.1 e2).2
    rw [f1, f2]
theorem sync_first {s t x m : Nat} {ch : Int} (hx : x < 2 ^ s) : ∃ y, y ≤ x ∧ y < 2 ^ s ∧ syncN s t ch (hopL s t x ch m) (2 ^ s) = some y ∧ hopL s t y ch m = hopL s t x ch m := by
  have hs : seesB s t ch (hopL s t x ch m) x = true := by unfold seesB eqB; rw [hopL_len]; simp
  unfold syncN
  cases hf : (List.range (2 ^ s)).find? (seesB s t ch (hopL s t x ch m)) with
  | none =>
    rw [List.find?_eq_none] at hf
    exact absurd hs (hf x (List.mem_range.2 hx))
  | some y =>
    obtain ⟨h1, i, hi, he, hlt⟩ := List.find?_eq_some_iff_getElem.1 hf
    rw [List.getElem_range] at he
    subst he
    rw [List.length_range] at hi
    refine ⟨i, ?_, hi, rfl, ?_⟩
    · rcases Nat.lt_or_ge x i with h | h
      · have := hlt x h
        rw [List.getElem_range, hs] at this
        simp at this
      · exact h
    · unfold seesB eqB at h1
      rw [hopL_len] at h1
      exact of_decide_eq_true h1
theorem own_fits' {w : World} {lo : Nat} {ao : Option Addr} {n c : Nat} {l : List Int} (h : Own w lo ao n c l) : n ≤ c := h.rdc.2.1
set_option maxRecDepth 100000
set_option maxHeartbeats 4000000 in
theorem walk (a0 : Option Addr) (len0 cap0 : Nat) (z0 : List Int) (a1 : Option Addr) (len1 cap1 : Nat) (z1 : List Int) (w : World) (w0 : IsRow .u8 w a0 len0 cap0 z0) (w1 : IsRow .u8 w a1 len1 cap1 z1) :
    Calls Try.prog 3 #[.slice a0 len0 cap0, .slice a1 len1 cap1] w fun e w' => e = .returned (.bool true) ∧ Below w.heap.size w w' := by
  by_cases hn : len0 ≤ 1048576
  · by_cases hnM : len1 ≤ 1048576
    · have hC := codeW_of_row w0 (by omega)
      clear w0 w1
      go_enter Try.func3, Try.ntmps3
      go_wp2_with fail
      refine (DrawHopSequence_c hC).mono ?_; rintro e w1 ⟨s, t, x, ch, m, rfl, hchb, hmb, hb1⟩
      clear hC
      have hBx := Box.new w1 #[.int .i64 s, .int .i64 t, .int .i64 x] 24
      have hbl : Below w1.heap.size w1 (w1.alloc (.cells #[.int .i64 s, .int .i64 t, .int .i64 x] 24)) := (Below.refl _ _).alloc (Nat.le_refl _) _
      have hB1 := hb1.trans (hbl.mono hb1.size)
      clear hb1 hbl
      by_cases hok : hopOk s t x ch m = true
      · have hok2 := hok
        unfold hopOk at hok2
        simp only [Bool.and_eq_true] at hok2
        obtain ⟨⟨hreg, hch⟩, hm⟩ := hok2
        have hch2 := chB_iff.1 hch
        have hm2 := inB_iff.1 hm
        have htap : tapB s t = true := by unfold regB at hreg; rw [Bool.and_eq_true] at hreg; exact hreg.1
        obtain ⟨S, T, X, rfl, rfl, rfl, hS, hT, hX⟩ := regB_nat hreg
        obtain ⟨M, rfl⟩ := Int.eq_ofNat_of_zero_le hm2.1
        have HR := Lib.hid (hopSeq_yes hok)
        have hHO : ∀ Y R : Nat, Y < 2 ^ S → R ≤ 300 → hopSeq (S : Int) (T : Int) (Y : Int) ch (R : Int) = some (hopL S T Y ch R) := fun Y R hY hR => by
          refine hopSeq_yes ?_
          unfold hopOk
          rw [hch, inB_true (show (0 : Int) ≤ (R : Int) by omega) (by omega)]
          have : regB (S : Int) (T : Int) (Y : Int) = true := by
            have hy : (Y : Int) < 2 ^ S := by exact_mod_cast hY
            unfold regB
            rw [htap]
            simp only [Int.toNat_natCast, Bool.true_and]
            exact inB_true (by omega) (by omega)
          rw [this]; rfl
        have HHO := Lib.hid hHO
        clear hHO
        have HOPS := Lib.hid (show hopsB (hopL S T X ch M) ch = true from hopsB_mk hch2 (by rw [hopL_len]; omega) (allB_hopL (by omega) M))
        obtain ⟨Y, hYX, hY2, hYs, hYh⟩ := sync_first (s := S) (t := T) (x := X) (m := M) (ch := ch) hX
        have HSY := Lib.hid (show syncR (S : Int) (T : Int) ch (hopL S T X ch M) = some ((S : Int), (T : Int), (Y : Int)) by
          rw [syncR_yes htap HOPS.out]
          simp only [Int.toNat_natCast]
          rw [hYs]; rfl)
        have HYH := Lib.hid hYh
        have HYX := Lib.hid hYX
        have HY2 := Lib.hid hY2
        have HS := Lib.hid hS; have HT := Lib.hid hT; have HX := Lib.hid hX
        have hM := hm2.2
        clear hok hreg hch hm htap hYs hYh hYX hY2 hm2 hX hT hmb
        have C0 := box_k3 hBx
        go_wp2_with fail
        refine (HopSequence_c _ _ _ ch _ _).mono ?_; rintro e w2 hret
        rw [HR.out] at hret; obtain ⟨a2, n2, c2, rfl, hx2', hb2⟩ := hret.some
        have hx2 : Own w2 _ a2 n2 c2 (hopL S T X ch M) := hx2'
        have hBx2 := hBx.below hb2 hBx.lt
        have hB2 := hB1.trans (hb2.mono hB1.size)
        clear hBx hB1 hb2 hx2'
        obtain ⟨c0, c1, c3⟩ := box_k3 hBx2
        go_wp2_with fail
        refine (sHopSequence_c _ _ _ ch _ _).mono ?_; rintro e w3 hret
        rw [HR.out] at hret; obtain ⟨a3, n3, c4, rfl, hy3', hb3⟩ := hret.some
        have hy3 : Own w3 _ a3 n3 c4 (hopL S T X ch M) := hy3'
        have hBx3 := hBx2.below hb3 hBx2.lt
        have hx3 := hx2.below hb3
        have hB3 := hB2.trans (hb3.mono hB2.size)
        clear hBx2 hB2 hb3 hy3' hx2 c0 c1 c3 C0
        go_wp2_with fail
        refine (ssInts_c hx3.rd hy3.rd).mono ?_; rintro e w4 ⟨rfl, hq4⟩
        rw [sameB_self]
        have hBx4 := hBx3.below (hq4.below _) hBx3.lt
        have hx4 := hx3.qw hq4
        have hy4 := hy3.qw hq4
        have hB4 := hB3.trans ((hq4.below w3.heap.size).mono hB3.size)
        clear hBx3 hx3 hy3 hB3 hq4
        by_cases hbig : 60 < M
        · have hbig' : (60 : Int) < (M : Int) := by omega
          go_wp2_with fail
          refine (ssInts_c hx4.rd hy4.rd).mono ?_; rintro e w5 ⟨rfl, hq5⟩
          rw [sameB_self]
          have hB5 := hB4.trans ((hq5.below w4.heap.size).mono hB4.size)
          go_wp2_with fail
          go_ret
          exact ⟨rfl, hB5⟩
        · have hbig' : ¬ (60 : Int) < (M : Int) := by omega
          obtain ⟨K, hK⟩ : ∃ K : Nat, K = len1 % (M + 1) := ⟨_, rfl⟩
          have hKM : K ≤ M := by rw [hK]; have := Nat.mod_lt len1 (show 0 < M + 1 by omega); omega
          have hKe : (len1 : Int) % ((M : Int) + 1) = (K : Int) := by rw [hK]; simp
          have hne : ((M : Int) + 1 == 0) = false := by simp; omega
          obtain ⟨J, hJ⟩ : ∃ J : Nat, J = K * S := ⟨_, rfl⟩
          have hS8 := HS.out.2
          have hwJ : wrap64 ((len1 : Int) % ((M : Int) + 1) * (S : Int)) = (J : Int) := by
            rw [hKe, hJ]
            have : K * S ≤ 60 * 8 := Nat.mul_le_mul (show K ≤ 60 by omega) hS8
            rw [IntWalk.wrap64_in _ (by constructor <;> (have := hJ; simp only [← Int.natCast_mul]; omega))]
            simp
          have hJ5 : J ≤ 5000 := by rw [hJ]; exact Nat.le_trans (Nat.mul_le_mul (show K ≤ 60 by omega) HS.out.2) (by decide)
          have HJX := Lib.hid (show jumpS S T J X = hopX S T X K by rw [hJ]; exact hopX_jump S T X K)
          have HRE := Lib.hid (show (M : Int) - (K : Int) = ((M - K : Nat) : Int) by omega)
          have HKE := Lib.hid hKe
          have hKM' : (K : Int) ≤ (M : Int) := by omega
          have HD := Lib.hid (hopL_drop (s := S) (t := T) (x := X) (ch := ch) hKM)
          have hX2 : hopX S T X K < 2 ^ S := hopX_lt HS.out.1 HX.out K
          have HX2 := Lib.hid hX2
          have HN2 := Lib.hid hx4.1
          have hn2 : n2 = M := by rw [HN2.out, hopL_len]
          have Hn2 := Lib.hid hn2
          obtain ⟨c0, c1, c3⟩ := box_k3 hBx4
          clear hK hJ hX2 hn2 hy4 hKe
          go_wp2_with fail
          rw [HKE.out]
          refine (JumpRegister_pos S T X J _ HS.out HT.out HX.out hJ5).mono ?_; rintro e w5 ⟨rfl, hb5⟩
          rw [HJX.out]
          have hBx5 := hBx4.below hb5 hBx4.lt
          have hx5 := hx4.below hb5
          have hB5 := hB4.trans (hb5.mono hB4.size)
          have hW := Box.new w5 #[.int .i64 (S : Int), .int .i64 (T : Int), .int .i64 (hopX S T X K : Nat)] 24
          have hbl : Below w5.heap.size w5 (w5.alloc (.cells #[.int .i64 (S : Int), .int .i64 (T : Int), .int .i64 (hopX S T X K : Nat)] 24)) := (Below.refl _ _).alloc (Nat.le_refl _) _
          have hBx6 := hBx5.below hbl hBx5.lt
          have hx6 := hx5.below hbl
          have hB6 := hB5.trans (hbl.mono hB5.size)
          have HH1 := Lib.hid (HHO.out (hopX S T X K) (M - K) HX2.out (by omega))
          clear c0 c1 c3 hBx4 hx4 hB4 hb5 hBx5 hx5 hB5 hbl hwJ
          go_wp2_with fail
          rw [HRE.out]
          refine (HopSequence_c _ _ _ ch _ _).mono ?_; rintro e w7 hret
          rw [HH1.out, ← HD.out] at hret
          obtain ⟨a7, n7, c7, rfl, hz7, hb7⟩ := hret.some
          have hBx7 := hBx6.below hb7 hBx6.lt
          have hx7 := hx6.below hb7
          have hB7 := hB6.trans (hb7.mono hB6.size)
          obtain ⟨c0, c1, c3⟩ := box_k3 hBx7
          clear hBx6 hx6 hB6 hb7 hW
          go_wp2_with fail
          refine (SyncHops_c _ _ ch hx7.rd).mono ?_; rintro e w8 ⟨rfl, hb8⟩
          rw [HSY.out]
          simp only [Option.getD_some, Option.isSome_some]
          have hBx8 := hBx7.below hb8 hBx7.lt
          have hx8 := hx7.below hb8
          have hz8 := hz7.below hb8
          have hB8 := hB7.trans (hb8.mono hB7.size)
          have hV := Box.new w8 #[.int .i64 (S : Int), .int .i64 (T : Int), .int .i64 (Y : Nat)] 24
          have hbl : Below w8.heap.size w8 (w8.alloc (.cells #[.int .i64 (S : Int), .int .i64 (T : Int), .int .i64 (Y : Nat)] 24)) := (Below.refl _ _).alloc (Nat.le_refl _) _
          have hBx9 := hBx8.below hbl hBx8.lt
          have hx9 := hx8.below hbl
          have hz9 := hz8.below hbl
          have hB9 := hB8.trans (hbl.mono hB8.size)
          have HH2 := Lib.hid (HHO.out Y M HY2.out (by omega))
          clear c0 c1 c3 hBx7 hx7 hz7 hB7 hb8 hBx8 hx8 hz8 hB8 hbl
          go_wp2_with fail
          refine (HopSequence_c _ _ _ ch _ _).mono ?_; rintro e w10 hret
          rw [HH2.out, HYH.out] at hret
          obtain ⟨a10, n10, c10, rfl, hu10, hb10⟩ := hret.some
          have hBx10 := hBx9.below hb10 hBx9.lt
          have hV10 := hV.below hb10 hV.lt
          have hx10 := hx9.below hb10
          have hz10 := hz9.below hb10
          have hB10 := hB9.trans (hb10.mono hB9.size)
          clear hBx9 hV hx9 hz9 hB9 hb10
          have hnM2 : ((n2 : Int) == (M : Int)) = true := by have := Hn2.out; simp; omega
          have hyx : (Y : Int) ≤ (X : Int) := by have := HYX.out; omega
          have hk1 : (K : Int) ≤ (n2 : Int) := by have := Hn2.out; omega
          have hk2 : K ≤ n2 := by omega
          have hk0 : (0 : Int) ≤ (K : Int) := by omega
          have hcap := own_fits' hx10
          by_cases hcK : c2 = K
          · have hnK : n2 - K = 0 := by omega
            have hsd : Rd w10 a2 (n2 - K) ((hopL S T X ch M).drop K) := by
              rw [hnK, List.drop_of_length_le (by rw [hopL_len]; have := Hn2.out; omega)]
              exact Rd.zero _ _
            have HSD := Lib.hid hsd
            clear hsd hnK
            go_wp2_with fail
            refine (ssInts_c hz10.rd HSD.out).mono ?_; rintro e w11 ⟨rfl, hq11⟩
            rw [sameB_self]
            have hBx11 := hBx10.below (hq11.below _) hBx10.lt
            have hV11 := hV10.below (hq11.below _) hV10.lt
            have hx11 := hx10.qw hq11
            have hu11 := hu10.qw hq11
            have hB11 := hB10.trans ((hq11.below w10.heap.size).mono hB10.size)
            clear hBx10 hV10 hx10 hz10 hu10 hB10 hq11
            go_wp2_with fail
            refine (HopsValid_c ch hx11.rd).mono ?_; rintro e w' ⟨rfl, rfl⟩
            rw [HOPS.out]
            go_wp2_with fail
            refine (ssInts_c hu11.rd hx11.rd).mono ?_; rintro e w12 ⟨rfl, hq12⟩
            rw [sameB_self]
            have hBx12 := hBx11.below (hq12.below _) hBx11.lt
            have hV12 := hV11.below (hq12.below _) hV11.lt
            have hB12 := hB11.trans ((hq12.below w11.heap.size).mono hB11.size)
            obtain ⟨c0, c1, c3⟩ := box_k3 hBx12
            obtain ⟨d0, d1, d3⟩ := box_k3 hV12
            clear hBx11 hV11 hx11 hu11 hB11 hq12 hBx12 hV12
            go_wp2_with fail
            go_ret
            exact ⟨rfl, hB12⟩
          · obtain ⟨b2, rfl⟩ : ∃ b, a2 = some ⟨b, 0, none⟩ := by
              rcases hx10.2.2.2 with ⟨h1, h2⟩ | ⟨g, cap, cur, hv, _⟩
              · cases h1; omega
              · cases hv; exact ⟨g, rfl⟩
            have hsd := hx10.rd.drop hk2
            rw [Nat.zero_add] at hsd
            have HSD := Lib.hid hsd
            clear hsd
            go_wp2_with fail
            refine (ssInts_c hz10.rd HSD.out).mono ?_; rintro e w11 ⟨rfl, hq11⟩
            rw [sameB_self]
            have hBx11 := hBx10.below (hq11.below _) hBx10.lt
            have hV11 := hV10.below (hq11.below _) hV10.lt
            have hx11 := hx10.qw hq11
            have hu11 := hu10.qw hq11
            have hB11 := hB10.trans ((hq11.below w10.heap.size).mono hB10.size)
            clear hBx10 hV10 hx10 hz10 hu10 hB10 hq11
            go_wp2_with fail
            refine (HopsValid_c ch hx11.rd).mono ?_; rintro e w' ⟨rfl, rfl⟩
            rw [HOPS.out]
            go_wp2_with fail
            refine (ssInts_c hu11.rd hx11.rd).mono ?_; rintro e w12 ⟨rfl, hq12⟩
            rw [sameB_self]
            have hBx12 := hBx11.below (hq12.below _) hBx11.lt
            have hV12 := hV11.below (hq12.below _) hV11.lt
            have hB12 := hB11.trans ((hq12.below w11.heap.size).mono hB11.size)
            obtain ⟨c0, c1, c3⟩ := box_k3 hBx12
            obtain ⟨d0, d1, d3⟩ := box_k3 hV12
            clear hBx11 hV11 hx11 hu11 hB11 hq12 hBx12 hV12
            go_wp2_with fail
            go_ret
            exact ⟨rfl, hB12⟩
      · have HR := Lib.hid (hopSeq_no (show hopOk s t x ch m = false by simpa using hok))
        clear hok
        obtain ⟨c0, c1, c3⟩ := box_k3 hBx
        go_wp2_with fail
        refine (HopSequence_c _ _ _ ch _ _).mono ?_; rintro e w2 hret
        rw [HR.out] at hret; obtain ⟨a2, n2, c2, rfl, hx2, hb2⟩ := hret.none
        have hBx2 := hBx.below hb2 hBx.lt
        have hB2 := hB1.trans (hb2.mono hB1.size)
        clear hBx hB1 hb2 c0 c1 c3
        obtain ⟨c0, c1, c3⟩ := box_k3 hBx2
        go_wp2_with fail
        refine (sHopSequence_c _ _ _ ch _ _).mono ?_; rintro e w3 hret
        rw [HR.out] at hret; obtain ⟨a3, n3, c4, rfl, hy3, hb3⟩ := hret.none
        have hx3 := hx2.below hb3
        have hB3 := hB2.trans (hb3.mono hB2.size)
        clear hBx2 hB2 hb3 hx2 c0 c1 c3
        go_wp2_with fail
        refine (ssInts_c hx3.rd hy3.rd).mono ?_; rintro e w4 ⟨rfl, hq4⟩
        rw [sameB_self]
        have hx4 := hx3.qw hq4
        have hy4 := hy3.qw hq4
        have hB4 := hB3.trans ((hq4.below w3.heap.size).mono hB3.size)
        clear hx3 hy3 hB3 hq4
        go_wp2_with fail
        refine (ssInts_c hx4.rd hy4.rd).mono ?_; rintro e w5 ⟨rfl, hq5⟩
        rw [sameB_self]
        have hB5 := hB4.trans ((hq5.below w4.heap.size).mono hB4.size)
        go_wp2_with fail
        go_ret
        exact ⟨rfl, hB5⟩
    · have hn' : (1048576 : Int) < (len1 : Int) := by omega
      go_enter Try.func3, Try.ntmps3
      go_wp2_with fail
      go_ret
      exact ⟨rfl, Below.refl _ _⟩
  · have hn' : (1048576 : Int) < (len0 : Int) := by omega
    go_enter Try.func3, Try.ntmps3
    go_wp2_with fail
    go_ret
    exact ⟨rfl, Below.refl _ _⟩

set_option maxRecDepth 100000 in
theorem lifted (os : Os) (started : os.Started) (H : Type) (enc : TypeId × Value → H) :
    ReturnsInHanded {} Try.checked os 3 .any (Rows.fnHopSequenceSpec.pre6 enc Try.prog Try.f3 Rows.fnHopSequenceRow.domain false) (Rows.fnHopSequenceSpec.post enc Try.prog Try.f3 false true false false) := by
  refine returnsInHanded_of_change (C := Try.checked) own started (by kernel_rfl) Try.func3
    (ChangeSpec.witness6 (enc := enc) (C := Try.checked) false ⟨#[], #[.slice none 0 0, .slice none 0 0], []⟩ 8 (by kernel_rfl) (by kernel_rfl) (by kernel_rfl) (by kernel_rfl)) ?_
  intro W base args ds gs before hval0 hW hcnd _
  have hval : ∀ (j : Nat) t v, Try.f3.params[j]? = some t → args[j]? = some v → Value.okWide Try.prog W .any base t v := hval0
  have hW' := hW
  obtain ⟨p, q, hA0, hV, rfl, hfz, hnd⟩ := hW
  have hA : DataW.TrodAll enc Try.prog W 0 (fun _ => true) true Try.f3.params.toList args.toList ds p := hA0
  rw [Try.params3] at hA hval
  obtain ⟨v0, vs0, d0, ds0, p0, q0, hargs, rfl, rfl, h0, r0⟩ := trodAll_cons hA
  obtain ⟨v1, vs1, d1, ds1, p1, q1, rfl, rfl, rfl, h1, r1⟩ := trodAll_cons r0
  obtain ⟨rfl, rfl, rfl⟩ := trodAll_nil r1
  obtain rfl : args = #[v0, v1] := by cases args; simp_all
  obtain ⟨rfl, rfl⟩ := trodVars_none hV
  have k0 := h0
  have lt0 : ∀ x ∈ p0, x.block < W.heap.size := by obtain ⟨m, hm⟩ := k0; exact DataW.trod_lt m _ _ _ hm
  have k1 := h1
  have lt1 : ∀ x ∈ p1, x.block < W.heap.size := by obtain ⟨m, hm⟩ := k1; exact DataW.trod_lt m _ _ _ hm
  obtain ⟨a0, len0, cap0, rfl⟩ := okWide_slice Try.underlying22 (hval 0 22 v0 rfl rfl)
  obtain ⟨z0, w0⟩ : ∃ zs, IsRow .u8 W a0 len0 cap0 zs := by
    obtain ⟨fuel, hf⟩ := h0
    rcases open_ints Try.underlying22 Try.underlying5 (by kernel_rfl) hf with ⟨hcs, _⟩ | ⟨x, l, c, zs, hcs, _, hl, hm, hz, _, hcell, hwz⟩
    · simp [Value.cells] at hcs
      obtain ⟨rfl, rfl, rfl⟩ := hcs
      exact ⟨[], .inl ⟨rfl, rfl, rfl, rfl⟩⟩
    · simp [Value.cells] at hcs
      obtain ⟨rfl, rfl, rfl⟩ := hcs
      exact ⟨zs, .inr ⟨_, rfl, hl, hm, by simpa using hz, hcell, hwz⟩⟩
  obtain ⟨a1, len1, cap1, rfl⟩ := okWide_slice Try.underlying22 (hval 1 22 v1 rfl rfl)
  obtain ⟨z1, w1⟩ : ∃ zs, IsRow .u8 W a1 len1 cap1 zs := by
    obtain ⟨fuel, hf⟩ := h1
    rcases open_ints Try.underlying22 Try.underlying5 (by kernel_rfl) hf with ⟨hcs, _⟩ | ⟨x, l, c, zs, hcs, _, hl, hm, hz, _, hcell, hwz⟩
    · simp [Value.cells] at hcs
      obtain ⟨rfl, rfl, rfl⟩ := hcs
      exact ⟨[], .inl ⟨rfl, rfl, rfl, rfl⟩⟩
    · simp [Value.cells] at hcs
      obtain ⟨rfl, rfl, rfl⟩ := hcs
      exact ⟨zs, .inr ⟨_, rfl, hl, hm, by simpa using hz, hcell, hwz⟩⟩
  clear hA0 hval0
  refine (walk a0 len0 cap0 z0 a1 len1 cap1 z1 W w0 w1).mono fun e W' ⟨he, bel⟩ => ?_
  subst he
  exact ⟨_, rfl, _, _, _, [], _, [], hW', trodAll_mk1 (shut_bool Try.underlying4 _), (trodAll_cons_mk (Below.trod laidOut (by kernel_rfl) (of_decide_eq_true (by kernel_rfl)) k0 bel lt0) (trodAll_cons_mk (Below.trod laidOut (by kernel_rfl) (of_decide_eq_true (by kernel_rfl)) k1 bel lt1) trodAll_mk0)), rfl, bel.frame _, fun h => by cases h⟩

theorem over : Rows.fnHopSequenceRow.holds Try.pinned (OpenSpec.ofChange Rows.fnHopSequenceSpec) :=
  OpenClaim.holds_of_wide 3 Try.f3 rfl rfl rfl rfl rfl rfl rfl ⟨rfl, rfl, rfl, rfl, rfl⟩ rfl rfl rfl rfl rfl (by kernel_rfl) Try.func3 (by kernel_rfl)
    (of_decide_eq_true (by kernel_rfl)) (by unfold Func.isWrapper; first | (rw [if_pos (by decide +kernel)]; kernel_rfl) | (rw [if_neg (by decide +kernel)]; exact ⟨rfl, rfl⟩))
    (fun os started H enc _ => lifted os started H enc)

theorem proved : Rows.FnHopSequenceSaid := over
#print axioms proved
end Go.Proofs.Ytklbdkbaldkkpaa.fnHopSequence
