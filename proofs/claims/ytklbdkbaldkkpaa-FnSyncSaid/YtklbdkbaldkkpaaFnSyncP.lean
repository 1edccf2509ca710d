/- The law FnSync holds for every input that the given row lets in: the program's answer is the reference's. No condition of its own. -/
import Derived.Test.YtklbdkbaldkkpaaRows
import Derived.WalkKit
import Derived.ProofKit
import Derived.OpenShut
import Derived.ShutString
import Derived.ChangeOld
import Derived.Below
import Derived.Lib.SmallJoins
import Derived.Test.YtklbdkbaldkkpaaDs
namespace Go.Proofs.Ytklbdkbaldkkpaa.fnSync
open Go.ChangeShapes Go.WideShapes Go.ChangeAt Go.RowKit
open Go.ChangeMaps (open_string shut_string)
set_option linter.unusedVariables false

theorem own : ownKnob Try.prog.godebug = none := by kernel_rfl
theorem laidOut : laidOutB Try.prog = true := by kernel_rfl

/-- A slice of integers that came in: nil, or a row of 'cap' cells that hold the numbers zs. -/
def IsRow (k : IntKind) (w : World) (a : Option Addr) (len cap : Nat) (zs : List Int) : Prop :=
  (a = none ∧ len = 0 ∧ cap = 0 ∧ zs = []) ∨
  ∃ x, a = some x ∧ len ≤ cap ∧ cap ≤ maxLen ∧ zs.length = cap ∧ (∀ i, i < zs.length → w.cell? (x.add i) = some (.int k (zs.getD i 0))) ∧ ∀ n ∈ zs, (Lit.int k n).wf = true

theorem sync_parts {s t ch : Int} {l : List Int} {r : Int × Int × Int} (h : syncR s t ch l = some r) :
    ∃ S T Y : Nat, s = S ∧ t = T ∧ r = (s, t, (Y : Int)) ∧ hopsB l ch = true ∧ tapB s t = true ∧ Y < 2 ^ S ∧ hopL S T Y ch l.length = l ∧ ∀ j, j < Y → hopL S T j ch l.length ≠ l := by
  unfold syncR at h
  split at h
  · rename_i hok
    rw [Bool.and_eq_true] at hok
    cases hf : syncN s.toNat t.toNat ch l (2 ^ s.toNat) with
    | none => rw [hf] at h; cases h
    | some Y =>
      rw [hf] at h
      have hr : r = (s, t, (Y : Int)) := by simpa using h.symm
      have htp := hok.1
      unfold tapB at htp
      rw [Bool.and_eq_true] at htp
      have h1 := inB_iff.1 htp.1
      have h2 := inB_iff.1 htp.2
      obtain ⟨S, rfl⟩ := Int.eq_ofNat_of_zero_le (show 0 ≤ s by omega)
      obtain ⟨T, rfl⟩ := Int.eq_ofNat_of_zero_le (show 0 ≤ t by omega)
      simp only [Int.toNat_natCast] at hf
      unfold syncN at hf
      obtain ⟨g1, i, hi, he, hlt⟩ := List.find?_eq_some_iff_getElem.1 hf
      rw [List.getElem_range] at he
      subst he
      rw [List.length_range] at hi
      refine ⟨S, T, i, rfl, rfl, hr, hok.2, hok.1, hi, ?_, fun j hj hh => ?_⟩
      · unfold seesB eqB at g1; exact of_decide_eq_true g1
      · have := hlt j hj
        rw [List.getElem_range] at this
        unfold seesB eqB at this
        rw [hh] at this
        simp at this
  · cases h
theorem tapB_reg {S T Y : Nat} (h : tapB (S : Int) (T : Int) = true) (hY : Y < 2 ^ S) : regB (S : Int) (T : Int) (Y : Int) = true := by
  have hy : (Y : Int) < 2 ^ S := by exact_mod_cast hY
  unfold regB
  rw [h]
  simp only [Int.toNat_natCast, Bool.true_and]
  exact inB_true (by omega) (by omega)
theorem sameB_no {l r : List Int} (h : l ≠ r) : sameB l r = false := by unfold sameB; exact decide_eq_false h
set_option maxRecDepth 100000
set_option maxHeartbeats 4000000 in
theorem walk (a0 : Option Addr) (len0 cap0 : Nat) (z0 : List Int) (w : World) (w0 : IsRow .u8 w a0 len0 cap0 z0) :
    Calls Try.prog 5 #[.slice a0 len0 cap0] w fun e w' => e = .returned (.bool true) ∧ Below w.heap.size w w' := by
  by_cases hn : len0 ≤ 1048576
  · have hC := codeW_of_row w0 (by omega)
    clear w0
    go_enter Try.func5, Try.ntmps5
    go_wp2_with fail
    refine (DrawSyncHops_c hC).mono ?_; rintro e w1 ⟨s, t, ch, ao, n, c, l, rfl, hL1, h301, hb1⟩
    clear hC
    cases hA : syncR s t ch l with
    | some r =>
      obtain ⟨S, T, Y, rfl, rfl, rfl, hops, htap, hY2, hYl, hmin⟩ := sync_parts hA
      obtain ⟨hch, hl300, _⟩ := hopsB_ch hops
      have hHO : ∀ Z : Nat, Z < 2 ^ S → hopSeq (S : Int) (T : Int) (Z : Int) ch (l.length : Int) = some (hopL S T Z ch l.length) := fun Z hZ => by
        refine hopSeq_yes ?_
        unfold hopOk
        rw [tapB_reg htap hZ, chB_iff.2 hch, inB_true (show (0 : Int) ≤ (l.length : Int) by omega) (by omega)]; rfl
      have HHO := Lib.hid hHO
      have HYL := Lib.hid hYl
      have HMIN := Lib.hid hmin
      have HA := Lib.hid hA
      have HY2 := Lib.hid hY2
      have hs := hL1.1.2.1
      obtain rfl := hL1.1.1
      have HS8 := Lib.hid (show S ≤ 8 by unfold tapB at htap; rw [Bool.and_eq_true] at htap; have := inB_iff.1 htap.1; omega)
      clear hHO hops htap hY2 hYl hmin hA hl300
      go_wp2_with fail
      refine (SyncHops_c _ _ ch hL1.1).mono ?_; rintro e w2 ⟨rfl, hb2⟩
      rw [HA.out]
      simp only [Option.getD_some, Option.isSome_some]
      have hL2 := hL1.below hb2
      have hB2 := hb1.trans (hb2.mono hb1.size)
      have hU := Box.new w2 #[.int .i64 (S : Int), .int .i64 (T : Int), .int .i64 (Y : Int)] 24
      have hbl : Below w2.heap.size w2 (w2.alloc (.cells #[.int .i64 (S : Int), .int .i64 (T : Int), .int .i64 (Y : Int)] 24)) := (Below.refl _ _).alloc (Nat.le_refl _) _
      have hL3 := hL2.below hbl
      have hB3 := hB2.trans (hbl.mono hB2.size)
      clear hL1 hb1 hb2 hL2 hB2 hbl
      go_wp2_with fail
      refine (sSyncHops_c _ _ ch hL3.1).mono ?_; rintro e w4 ⟨rfl, hb4⟩
      rw [HA.out]
      simp only [Option.getD_some, Option.isSome_some]
      have hL4 := hL3.below hb4
      have hU4 := hU.below hb4 hU.lt
      have hB4 := hB3.trans (hb4.mono hB3.size)
      have hV := Box.new w4 #[.int .i64 (S : Int), .int .i64 (T : Int), .int .i64 (Y : Int)] 24
      have hbl : Below w4.heap.size w4 (w4.alloc (.cells #[.int .i64 (S : Int), .int .i64 (T : Int), .int .i64 (Y : Int)] 24)) := (Below.refl _ _).alloc (Nat.le_refl _) _
      have hL5 := hL4.below hbl
      have hU5 := hU4.below hbl hU4.lt
      have hB5 := hB4.trans (hbl.mono hB4.size)
      obtain ⟨u0, u1, u2⟩ := box_k3 hU5
      obtain ⟨v0, v1, v2⟩ := box_k3 hV
      have HH := Lib.hid (HHO.out Y HY2.out)
      clear hU hL3 hB3 hb4 hL4 hU4 hB4 hbl hV
      go_wp2_with fail
      refine (HopSequence_c _ _ _ ch _ _).mono ?_; rintro e w6 hret
      rw [HH.out, HYL.out] at hret
      obtain ⟨a6, n6, c6, rfl, hh6, hb6⟩ := hret.some
      have hL6 := hL5.below hb6
      have hU6 := hU5.below hb6 hU5.lt
      have hB6 := hB5.trans (hb6.mono hB5.size)
      have hzb := hB6.size
      clear hL5 hU5 hB5 hb6 u0 u1 u2 v0 v1 v2
      go_wp2_with fail
      go_loopw [13] (fun i wr => ∃ k : Nat, k ≤ Y ∧ i = .int .i64 k ∧ Below w6.heap.size w6 wr) (fun i _ => Y - (intOf i).toNat)
      case atStart => exact ⟨0, Nat.zero_le _, rfl, Below.refl _ _⟩
      case round =>
        obtain ⟨k, hk, rfl, hb⟩ := hrel
        have hLk := hL6.below hb
        have hUk := hU6.below hb hU6.lt
        obtain ⟨u0, u1, u2⟩ := box_k3 hUk
        have hY63 : (Y : Int) ≤ 9223372036854775806 := by
          have := HY2.out
          have h8 : 2 ^ S ≤ 2 ^ 8 := Nat.pow_le_pow_right (by omega) HS8.out
          omega
        by_cases hlt : k < Y
        · have HK := Lib.hid (HHO.out k (Nat.lt_trans hlt HY2.out))
          have HNE := Lib.hid (sameB_no (HMIN.out k hlt))
          go_wp2_with fail
          refine (HopSequence_c _ _ _ ch _ _).mono ?_; rintro e w7 hret
          rw [HK.out] at hret
          obtain ⟨a7, n7, c7, rfl, hx7, hb7⟩ := hret.some
          have hL7 := hLk.below hb7
          have hbA := hb.trans (hb7.mono hb.size)
          clear hb hb7 hLk hUk u0 u1 u2
          go_wp2_with fail
          refine (ssInts_c hx7.rd hL7.1).mono ?_; rintro e w8 ⟨rfl, hq8⟩
          rw [HNE.out]
          have hbB := hbA.trans ((hq8.below w7.heap.size).mono hbA.size)
          clear hbA hx7 hL7
          go_wp2_with fail
          go_roundw
          case rel => exact ⟨k + 1, by omega, by go_num, hbB⟩
          case measure => simp [intOf]; omega
        · have hhk := hh6.below hb
          have hBk := hB6.trans (hb.mono hzb)
          clear hb hL6 hU6 hh6 hB6
          go_wp2_with fail
          refine (ssInts_c hhk.rd hLk.1).mono ?_; rintro e w8 ⟨rfl, hq8⟩
          rw [sameB_self]
          have hBz := hBk.trans ((hq8.below _).mono hBk.size)
          have hU8 := hUk.below (hq8.below _) hUk.lt
          clear u0 u1 u2
          obtain ⟨u0, u1, u2⟩ := box_k3 hU8
          clear hUk hU8 hLk hhk
          go_wp2_with fail
          go_ret
          exact ⟨rfl, hBz⟩
    | none =>
      have HA := Lib.hid hA; clear hA
      go_wp2_with fail
      refine (SyncHops_c _ _ ch hL1.1).mono ?_; rintro e w2 ⟨rfl, hb2⟩
      rw [HA.out]
      have hL2 := hL1.below hb2
      have hB2 := hb1.trans (hb2.mono hb1.size)
      have hU := Box.new w2 #[.int .i64 0, .int .i64 0, .int .i64 0] 24
      have hbl : Below w2.heap.size w2 (w2.alloc (.cells #[.int .i64 0, .int .i64 0, .int .i64 0] 24)) := (Below.refl _ _).alloc (Nat.le_refl _) _
      have hL3 := hL2.below hbl
      have hB3 := hB2.trans (hbl.mono hB2.size)
      simp only [Option.getD_none, Option.isSome_none]
      clear hL1 hb1 hb2 hL2 hB2 hbl
      go_wp2_with fail
      refine (sSyncHops_c _ _ ch hL3.1).mono ?_; rintro e w4 ⟨rfl, hb4⟩
      rw [HA.out]
      simp only [Option.getD_none, Option.isSome_none]
      have hU4 := hU.below hb4 hU.lt
      have hB4 := hB3.trans (hb4.mono hB3.size)
      have hV := Box.new w4 #[.int .i64 0, .int .i64 0, .int .i64 0] 24
      have hbl : Below w4.heap.size w4 (w4.alloc (.cells #[.int .i64 0, .int .i64 0, .int .i64 0] 24)) := (Below.refl _ _).alloc (Nat.le_refl _) _
      have hU5 := hU4.below hbl hU4.lt
      have hB5 := hB4.trans (hbl.mono hB4.size)
      obtain ⟨u0, u1, u2⟩ := box_k3 hU5
      obtain ⟨v0, v1, v2⟩ := box_k3 hV
      clear hU hL3 hB3 hb4 hU4 hB4 hbl
      go_wp2_with fail
      go_ret
      exact ⟨rfl, hB5⟩
  · have hn' : (1048576 : Int) < (len0 : Int) := by omega
    go_enter Try.func5, Try.ntmps5
    go_wp2_with fail
    go_ret
    exact ⟨rfl, Below.refl _ _⟩

set_option maxRecDepth 100000 in
theorem lifted (os : Os) (started : os.Started) (H : Type) (enc : TypeId × Value → H) :
    ReturnsInHanded {} Try.checked os 5 .any (Rows.fnSyncSpec.pre6 enc Try.prog Try.f5 Rows.fnSyncRow.domain false) (Rows.fnSyncSpec.post enc Try.prog Try.f5 false true false false) := by
  refine returnsInHanded_of_change (C := Try.checked) own started (by kernel_rfl) Try.func5
    (ChangeSpec.witness6 (enc := enc) (C := Try.checked) false ⟨#[], #[.slice none 0 0], []⟩ 8 (by kernel_rfl) (by kernel_rfl) (by kernel_rfl) (by kernel_rfl)) ?_
  intro W base args ds gs before hval0 hW hcnd _
  have hval : ∀ (j : Nat) t v, Try.f5.params[j]? = some t → args[j]? = some v → Value.okWide Try.prog W .any base t v := hval0
  have hW' := hW
  obtain ⟨p, q, hA0, hV, rfl, hfz, hnd⟩ := hW
  have hA : DataW.TrodAll enc Try.prog W 0 (fun _ => true) true Try.f5.params.toList args.toList ds p := hA0
  rw [Try.params5] at hA hval
  obtain ⟨v0, vs0, d0, ds0, p0, q0, hargs, rfl, rfl, h0, r0⟩ := trodAll_cons hA
  obtain ⟨rfl, rfl, rfl⟩ := trodAll_nil r0
  obtain rfl : args = #[v0] := by cases args; simp_all
  obtain ⟨rfl, rfl⟩ := trodVars_none hV
  have k0 := h0
  have lt0 : ∀ x ∈ p0, x.block < W.heap.size := by obtain ⟨m, hm⟩ := k0; exact DataW.trod_lt m _ _ _ hm
  obtain ⟨a0, len0, cap0, rfl⟩ := okWide_slice Try.underlying22 (hval 0 22 v0 rfl rfl)
  obtain ⟨z0, w0⟩ : ∃ zs, IsRow .u8 W a0 len0 cap0 zs := by
    obtain ⟨fuel, hf⟩ := h0
    rcases open_ints Try.underlying22 Try.underlying5 (by kernel_rfl) hf with ⟨hcs, _⟩ | ⟨x, l, c, zs, hcs, _, hl, hm, hz, _, hcell, hwz⟩
    · simp [Value.cells] at hcs
      obtain ⟨rfl, rfl, rfl⟩ := hcs
      exact ⟨[], .inl ⟨rfl, rfl, rfl, rfl⟩⟩
    · simp [Value.cells] at hcs
      obtain ⟨rfl, rfl, rfl⟩ := hcs
      exact ⟨zs, .inr ⟨_, rfl, hl, hm, by simpa using hz, hcell, hwz⟩⟩
  clear hA0 hval0
  refine (walk a0 len0 cap0 z0 W w0).mono fun e W' ⟨he, bel⟩ => ?_
  subst he
  exact ⟨_, rfl, _, _, _, [], _, [], hW', trodAll_mk1 (shut_bool Try.underlying4 _), (trodAll_cons_mk (Below.trod laidOut (by kernel_rfl) (of_decide_eq_true (by kernel_rfl)) k0 bel lt0) trodAll_mk0), rfl, bel.frame _, fun h => by cases h⟩

theorem over : Rows.fnSyncRow.holds Try.pinned (OpenSpec.ofChange Rows.fnSyncSpec) :=
  OpenClaim.holds_of_wide 5 Try.f5 rfl rfl rfl rfl rfl rfl rfl ⟨rfl, rfl, rfl, rfl, rfl⟩ rfl rfl rfl rfl rfl (by kernel_rfl) Try.func5 (by kernel_rfl)
    (of_decide_eq_true (by kernel_rfl)) (by unfold Func.isWrapper; first | (rw [if_pos (by decide +kernel)]; kernel_rfl) | (rw [if_neg (by decide +kernel)]; exact ⟨rfl, rfl⟩))
    (fun os started H enc _ => lifted os started H enc)

theorem proved : Rows.FnSyncSaid := over
#print axioms proved
end Go.Proofs.Ytklbdkbaldkkpaa.fnSync
