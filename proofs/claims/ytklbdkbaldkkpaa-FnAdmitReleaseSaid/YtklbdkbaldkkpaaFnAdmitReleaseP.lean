/- The law FnAdmitRelease holds for every input that the given row lets in: the program's answer is the reference's. No condition of its own. -/
import Derived.Test.YtklbdkbaldkkpaaRows
import Derived.WalkKit
import Derived.ProofKit
import Derived.OpenShut
import Derived.ShutString
import Derived.ChangeOld
import Derived.Below
import Derived.Lib.SmallJoins
import Derived.Test.YtklbdkbaldkkpaaLs
import Derived.Test.YtklbdkbaldkkpaaAn
namespace Go.Proofs.Ytklbdkbaldkkpaa.fnAdmitRelease
open Go.ChangeShapes Go.WideShapes Go.ChangeAt Go.RowKit
open Go.ChangeMaps (open_string shut_string)
set_option linter.unusedVariables false

theorem own : ownKnob Try.prog.godebug = none := by kernel_rfl
theorem laidOut : laidOutB Try.prog = true := by kernel_rfl

/-- A slice of integers that came in: nil, or a row of 'cap' cells that hold the numbers zs. -/
def IsRow (k : IntKind) (w : World) (a : Option Addr) (len cap : Nat) (zs : List Int) : Prop :=
  (a = none ∧ len = 0 ∧ cap = 0 ∧ zs = []) ∨
  ∃ x, a = some x ∧ len ≤ cap ∧ cap ≤ maxLen ∧ zs.length = cap ∧ (∀ i, i < zs.length → w.cell? (x.add i) = some (.int k (zs.getD i 0))) ∧ ∀ n ∈ zs, (Lit.int k n).wf = true

theorem adm_parts {l l' : List Stn} {nm : ByteArray} {d loss : Int} (h : admR l nm d loss = some l') :
    ∃ p, l' = l ++ [⟨nm, p, 1, loss⟩] ∧ (p.size : Int) = d ∧ cellB l' = true ∧ relR l' nm = some l ∧ admR l' nm d loss = none := by
  unfold admR at h
  split at h
  · rename_i hok
    cases ha : allocR (l.map Stn.ph) d with
    | none => rw [ha] at h; cases h
    | some p =>
      rw [ha] at h
      obtain rfl : l ++ [⟨nm, p, 1, loss⟩] = l' := by simpa using h
      unfold admOk at hok
      simp only [Bool.and_eq_true, decide_eq_true_eq] at hok
      obtain ⟨⟨⟨⟨h1, h2⟩, h3⟩, h4⟩, h5⟩ := hok
      obtain ⟨_, h6, h7, h8⟩ := allocR_free ha
      have hcell : cellB (l ++ [⟨nm, p, 1, loss⟩]) = true :=
        cellB_snoc h1 h2 (stOk_mk h3 h7 (by show (0 : Int) ≤ 1 ∧ (1 : Int) ≤ 1000; omega) (inB_iff.1 h5)) h4 fun q hq => h8 _ (List.mem_map_of_mem hq)
      have hidx : idxS (l ++ [⟨nm, p, 1, loss⟩]) nm = (l.length : Nat) := idxS_snoc (s := ⟨nm, p, 1, loss⟩) h4
      refine ⟨p, rfl, h6, hcell, ?_, admR_4 hidx⟩
      rw [relR_yes hcell hidx]
      congr 1
      exact dropS_end l _
  · cases h
set_option maxRecDepth 100000
set_option maxHeartbeats 4000000 in
theorem walk (a0 : Option Addr) (len0 cap0 : Nat) (z0 : List Int) (w : World) (w0 : IsRow .u8 w a0 len0 cap0 z0) :
    Calls Try.prog 10 #[.slice a0 len0 cap0] w fun e w' => e = .returned (.bool true) ∧ Below w.heap.size w w' := by
  by_cases hn : len0 ≤ 1048576
  · have hC := codeW_of_row w0 (by omega)
    clear w0
    go_enter Try.func10, Try.ntmps10
    go_wp2_with fail
    refine (DrawAdmitStation_c hC).mono ?_; rintro e w1 ⟨ao, n, c, l, nm, d, loss, rfl, hL1, hnm, hd, hk, hb1⟩
    clear hC
    cases hA : admR l nm d loss with
    | some l' =>
      obtain ⟨p, hl', hpd, hcell, hrel, hadm⟩ := adm_parts hA
      have HA := Lib.hid hA; have HL' := Lib.hid hl'; have HC := Lib.hid hcell; have HR := Lib.hid hrel; have HM := Lib.hid hadm
      clear hA hcell hrel hadm hl'
      have HPD := Lib.hid hpd; clear hpd
      go_wp2_with fail
      refine (AdmitStation_c nm d loss hL1.1 hL1.2.1).mono ?_; rintro e w2 hret
      rw [HA.out] at hret; obtain ⟨a2, n2, c2, rfl, hx2, hb2⟩ := hret.some
      have hL2 := hL1.below hb2
      have hB2 := hb1.trans (hb2.mono hb1.size)
      clear hL1 hb1 hb2
      go_wp2_with fail
      refine (sAdmitStation_c nm d loss hL2.1 hL2.2.2.1 (by omega) hL2.2.2.2.2.big).mono ?_; rintro e w3 hret
      rw [HA.out] at hret; obtain ⟨a3, n3, c3, rfl, hy3, hb3⟩ := hret.some
      have hL3 := hL2.below hb3
      have hx3 := hx2.below hb3
      have hB3 := hB2.trans (hb3.mono hB2.size)
      clear hL2 hx2 hb3 hB2
      go_wp2_with fail
      refine (ssCells_same hx3.rd hy3.rd).mono ?_; rintro e w4 ⟨rfl, hq4⟩
      have hL4 := hL3.below (hq4.below _)
      have hx4 := hx3.qw hq4
      have hB4 := hB3.trans ((hq4.below w3.heap.size).mono hB3.size)
      clear hL3 hx3 hy3 hB3 hq4
      go_wp2_with fail
      refine (ReleaseStation_c nm hx4.rd hx4.cap'.1).mono ?_; rintro e w5 hret
      rw [HR.out] at hret; obtain ⟨a5, n5, c5, rfl, hz5, hb5⟩ := hret.some
      have hL5 := hL4.below hb5
      have hx5 := hx4.below hb5
      have hB5 := hB4.trans (hb5.mono hB4.size)
      clear hL4 hx4 hb5 hB4
      go_wp2_with fail
      refine (AdmitStation_c nm d loss hx5.rd hx5.cap'.1).mono ?_; rintro e w6 hret
      rw [HM.out] at hret; obtain ⟨a6, n6, c6, rfl, _, hb6⟩ := hret.none
      have hL6 := hL5.below hb6
      have hx6 := hx5.below hb6
      have hz6 := hz5.below hb6
      have hB6 := hB5.trans (hb6.mono hB5.size)
      clear hL5 hx5 hz5 hb6 hB5
      have HN := Lib.hid hL6.1.1
      have HN2 := Lib.hid hx6.1
      have hnn : n < n2 := by have := HN.out; have := HN2.out; rw [HL'.out] at this; simp at this; omega
      have hn4 : n ≤ 4 := by have := HN.out; have := hL6.2.2.2.1; omega
      have hn1 : (n2 : Int) - 1 = (n : Int) := by have := HN.out; have := HN2.out; rw [HL'.out] at this; simp at this; omega
      obtain ⟨b7, o7, rfl, hl7, hc0, hc1, hc2, hc3⟩ := hx6.rd.at hnn
      have hlast : l'[n] = ⟨nm, p, 1, loss⟩ := by
        have := HN.out
        simp only [HL'.out, this]
        simp
      rw [hlast] at hc0 hc1 hc2 hc3
      change _ = some (Value.string nm) at hc0
      change _ = some (Value.string p) at hc1
      change _ = some (Value.int .i64 1) at hc2
      change _ = some (Value.int .i64 loss) at hc3
      have hBx := Box.new w6 #[.string nm, .string p, .int .i64 1, .int .i64 loss] 37
      have hbl : Below w6.heap.size w6 (w6.alloc (.cells #[.string nm, .string p, .int .i64 1, .int .i64 loss] 37)) := (Below.refl _ _).alloc (Nat.le_refl _) _
      have hL7 := hL6.below hbl
      have hx7 := hx6.below hbl
      have hz7 := hz6.below hbl
      have hB7 := hB6.trans (hbl.mono hB6.size)
      clear hlast hL6 hx6 hz6 hB6 hbl
      go_wp2_with fail
      refine (CellValid_c hx7.rd hx7.cap'.1).mono ?_; rintro e w8 ⟨rfl, hb8⟩
      rw [HC.out]
      have hBx8 := hBx.below hb8 hBx.lt
      have hL8 := hL7.below hb8
      have hz8 := hz7.below hb8
      have hB8 := hB7.trans (hb8.mono hB7.size)
      clear hBx hL7 hx7 hz7 hB7 hb8 hc0 hc1 hc2 hc3
      go_wp2_with fail
      refine (ssCells_same hz8.rd hL8.1).mono ?_; rintro e w9 ⟨rfl, hq9⟩
      have hBx9 := hBx8.below (hq9.below _) hBx8.lt
      have hB9 := hB8.trans ((hq9.below w8.heap.size).mono hB8.size)
      have d0 := hBx9.cell (i := 0) rfl
      have d1 := hBx9.cell (i := 1) rfl
      have d2 := hBx9.cell (i := 2) rfl
      have d3 := hBx9.cell (i := 3) rfl
      have hpb : ((p.size : Int) == d) = true := by have := HPD.out; simp; omega
      clear hBx8 hL8 hz8 hB8 hq9 hBx9
      go_wp2_with fail
      go_ret
      exact ⟨rfl, hB9⟩
    | none =>
      have HA := Lib.hid hA; clear hA
      go_wp2_with fail
      refine (AdmitStation_c nm d loss hL1.1 hL1.2.1).mono ?_; rintro e w2 hret
      rw [HA.out] at hret; obtain ⟨a2, n2, c2, rfl, hx2, hb2⟩ := hret.none
      have hL2 := hL1.below hb2
      have hB2 := hb1.trans (hb2.mono hb1.size)
      clear hL1 hb1 hb2
      go_wp2_with fail
      refine (sAdmitStation_c nm d loss hL2.1 hL2.2.2.1 (by omega) hL2.2.2.2.2.big).mono ?_; rintro e w3 hret
      rw [HA.out] at hret; obtain ⟨a3, n3, c3, rfl, hy3, hb3⟩ := hret.none
      have hx3 := hx2.below hb3
      have hB3 := hB2.trans (hb3.mono hB2.size)
      clear hL2 hx2 hb3 hB2
      go_wp2_with fail
      refine (ssCells_same hx3.rd hy3.rd).mono ?_; rintro e w4 ⟨rfl, hq4⟩
      have hx4 := hx3.qw hq4
      have hy4 := hy3.qw hq4
      have hB4 := hB3.trans ((hq4.below w3.heap.size).mono hB3.size)
      clear hx3 hy3 hB3 hq4
      go_wp2_with fail
      refine (ssCells_same hx4.rd hy4.rd).mono ?_; rintro e w5 ⟨rfl, hq5⟩
      have hB5 := hB4.trans ((hq5.below w4.heap.size).mono hB4.size)
      go_wp2_with fail
      go_ret
      exact ⟨rfl, hB5⟩
  · have hn' : (1048576 : Int) < (len0 : Int) := by omega
    go_enter Try.func10, Try.ntmps10
    go_wp2_with fail
    go_ret
    exact ⟨rfl, Below.refl _ _⟩

set_option maxRecDepth 100000 in
theorem lifted (os : Os) (started : os.Started) (H : Type) (enc : TypeId × Value → H) :
    ReturnsInHanded {} Try.checked os 10 .any (Rows.fnAdmitReleaseSpec.pre6 enc Try.prog Try.f10 Rows.fnAdmitReleaseRow.domain false) (Rows.fnAdmitReleaseSpec.post enc Try.prog Try.f10 false true false false) := by
  refine returnsInHanded_of_change (C := Try.checked) own started (by kernel_rfl) Try.func10
    (ChangeSpec.witness6 (enc := enc) (C := Try.checked) false ⟨#[], #[.slice none 0 0], []⟩ 8 (by kernel_rfl) (by kernel_rfl) (by kernel_rfl) (by kernel_rfl)) ?_
  intro W base args ds gs before hval0 hW hcnd _
  have hval : ∀ (j : Nat) t v, Try.f10.params[j]? = some t → args[j]? = some v → Value.okWide Try.prog W .any base t v := hval0
  have hW' := hW
  obtain ⟨p, q, hA0, hV, rfl, hfz, hnd⟩ := hW
  have hA : DataW.TrodAll enc Try.prog W 0 (fun _ => true) true Try.f10.params.toList args.toList ds p := hA0
  rw [Try.params10] at hA hval
  obtain ⟨v0, vs0, d0, ds0, p0, q0, hargs, rfl, rfl, h0, r0⟩ := trodAll_cons hA
  obtain ⟨rfl, rfl, rfl⟩ := trodAll_nil r0
  obtain rfl : args = #[v0] := by cases args; simp_all
  obtain ⟨rfl, rfl⟩ := trodVars_none hV
  have k0 := h0
  have lt0 : ∀ x ∈ p0, x.block < W.heap.size := by obtain ⟨m, hm⟩ := k0; exact DataW.trod_lt m _ _ _ hm
  obtain ⟨a0, len0, cap0, rfl⟩ := okWide_slice Try.underlying22 (hval 0 22 v0 rfl rfl)
  obtain ⟨z0, w0⟩ : ∃ zs, IsRow .u8 W a0 len0 cap0 zs := by
    obtain ⟨fuel, hf⟩ := h0
    rcases open_ints Try.underlying22 Try.underlying5 (by kernel_rfl) hf with ⟨hcs, _⟩ | ⟨x, l, c, zs, hcs, _, hl, hm, hz, _, hcell, hwz⟩
    · simp [Value.cells] at hcs
      obtain ⟨rfl, rfl, rfl⟩ := hcs
      exact ⟨[], .inl ⟨rfl, rfl, rfl, rfl⟩⟩
    · simp [Value.cells] at hcs
      obtain ⟨rfl, rfl, rfl⟩ := hcs
      exact ⟨zs, .inr ⟨_, rfl, hl, hm, by simpa using hz, hcell, hwz⟩⟩
  clear hA0 hval0
  refine (walk a0 len0 cap0 z0 W w0).mono fun e W' ⟨he, bel⟩ => ?_
  subst he
  exact ⟨_, rfl, _, _, _, [], _, [], hW', trodAll_mk1 (shut_bool Try.underlying4 _), (trodAll_cons_mk (Below.trod laidOut (by kernel_rfl) (of_decide_eq_true (by kernel_rfl)) k0 bel lt0) trodAll_mk0), rfl, bel.frame _, fun h => by cases h⟩

theorem over : Rows.fnAdmitReleaseRow.holds Try.pinned (OpenSpec.ofChange Rows.fnAdmitReleaseSpec) :=
  OpenClaim.holds_of_wide 10 Try.f10 rfl rfl rfl rfl rfl rfl rfl ⟨rfl, rfl, rfl, rfl, rfl⟩ rfl rfl rfl rfl rfl (by kernel_rfl) Try.func10 (by kernel_rfl)
    (of_decide_eq_true (by kernel_rfl)) (by unfold Func.isWrapper; first | (rw [if_pos (by decide +kernel)]; kernel_rfl) | (rw [if_neg (by decide +kernel)]; exact ⟨rfl, rfl⟩))
    (fun os started H enc _ => lifted os started H enc)

theorem proved : Rows.FnAdmitReleaseSaid := over
#print axioms proved
end Go.Proofs.Ytklbdkbaldkkpaa.fnAdmitRelease
