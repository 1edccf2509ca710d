/- The law FnOpen holds for every input that the given row lets in: the program's answer is the reference's. No condition of its own. -/
import Derived.Test.YtbgabjdgbibohaaRows
import Derived.WalkKit
import Derived.ProofKit
import Derived.OpenShut
import Derived.ShutString
import Derived.ChangeOld
import Derived.Below
import Derived.Lib.SmallJoins
import Derived.Test.YtbgabjdgbibohaaOe
import Derived.Test.YtbgabjdgbibohaaLa
import Derived.Test.YtbgabjdgbibohaaLw
namespace Go.Proofs.Ytbgabjdgbibohaa.fnOpen
open Go.ChangeShapes Go.WideShapes Go.ChangeAt Go.RowKit
open Go.ChangeMaps (open_string shut_string)
set_option linter.unusedVariables false

theorem own : ownKnob Try.prog.godebug = none := by kernel_rfl
theorem laidOut : laidOutB Try.prog = true := by kernel_rfl

/-- A slice of integers that came in: nil, or a row of 'cap' cells that hold the numbers zs. -/
def IsRow (k : IntKind) (w : World) (a : Option Addr) (len cap : Nat) (zs : List Int) : Prop :=
  (a = none ∧ len = 0 ∧ cap = 0 ∧ zs = []) ∨
  ∃ x, a = some x ∧ len ≤ cap ∧ cap ≤ maxLen ∧ zs.length = cap ∧ (∀ i, i < zs.length → w.cell? (x.add i) = some (.int k (zs.getD i 0))) ∧ ∀ n ∈ zs, (Lit.int k n).wf = true

theorem open_protect {b p : ByteArray} {n s t x : Int} (h : opR b n s t x = some p) : ∃ q, prR p n s t x = some q ∧ opR q n s t x = some p ∧ p.size ≤ 100 ∧ (b.size % (7 * n.toNat) = 0 → q.size ≤ b.size) ∧ ∃ N : Nat, n = (N : Int) ∧ 1 ≤ N ∧ N ≤ 40 := by
  obtain ⟨h1, h2, h3, _⟩ := open_is h
  obtain ⟨R, rfl, hR1, hR4⟩ := inB_40 h2
  have hP := prot_all h1 hR1 hR4
  have hps := prR_some h1 h2 h3 hP
  obtain ⟨S, T, X, rfl, rfl, rfl, _⟩ := regB_nat h3
  have hCR : (encT (padT (frameT p) (4 * R))).size / R * R = (encT (padT (frameT p) (4 * R))).size := Nat.div_mul_cancel (Nat.dvd_of_mod_eq_zero (mod_of hP.rows))
  have hWB : bitsB (wvT (encT (padT (frameT p) (4 * R))) R) = true := bits_mk (by rw [wv_size]; exact hP.top) (wv_bits (by omega) hCR (bits_all hP.out))
  rw [scrR_yes hWB h3] at hps
  exact ⟨_, hps.symm, open_prot (a := 0) hps.symm (Fl.none _) (fun i hi => by cases hi), (payB_is h1).1, open_len h hps.symm, R, rfl, hR1, hR4⟩
set_option maxRecDepth 100000
set_option maxHeartbeats 4000000 in
theorem walk (a0 : Option Addr) (len0 cap0 : Nat) (z0 : List Int) (w : World) (w0 : IsRow .u8 w a0 len0 cap0 z0) :
    Calls Try.prog 5 #[.slice a0 len0 cap0] w fun e w' => e = .returned (.bool true) ∧ Below w.heap.size w w' := by
  by_cases hn : len0 ≤ 1048576
  · have hC := codeW_of_row w0 (by omega)
    clear w0
    go_enter Try.func5, Try.ntmps5
    go_wp2_with fail
    refine (DrawOpenPayload_c hC).mono ?_; rintro e w1 ⟨b, n, s, t, x, rfl, hbz, hnn, hb1⟩
    clear hC
    have hBx1 := Box.new w1 #[.int .i64 s, .int .i64 t, .int .i64 x] 26
    have hbl : Below w1.heap.size w1 (w1.alloc (.cells #[.int .i64 s, .int .i64 t, .int .i64 x] 26)) := (Below.refl _ _).alloc (Nat.le_refl _) _
    have hB1 := hb1.trans (hbl.mono hb1.size)
    clear hb1 hbl
    have c0 := hBx1.cell (i := 0) rfl
    have c1 := hBx1.cell (i := 1) rfl
    have c2 := hBx1.cell (i := 2) rfl
    cases hq : opR b n s t x with
    | none =>
      have HT := Lib.hid hq
      clear hq
      go_wp2_with fail
      refine (OpenPayload_c b n s t x _).mono ?_; rintro e w2 ⟨rfl, hb2⟩
      have hBx2 := hBx1.below hb2 hBx1.lt
      have hbA := hB1.trans (hb2.mono hB1.size)
      clear c0 c1 c2
      have c0 := hBx2.cell (i := 0) rfl
      have c1 := hBx2.cell (i := 1) rfl
      have c2 := hBx2.cell (i := 2) rfl
      rw [HT.out]
      simp only [Option.getD_none, Option.isSome_none]
      go_wp2_with fail
      refine (sOpenPayload_c b n s t x _ (by omega)).mono ?_; rintro e w3 ⟨rfl, hb3⟩
      have hbB := hbA.trans (hb3.mono hbA.size)
      clear c0 c1 c2
      rw [HT.out]
      simp only [Option.getD_none, Option.isSome_none]
      go_wp2_with fail
      go_ret
      exact ⟨by simp, hbB⟩
    | some p =>
      obtain ⟨q, hpr, hop, hp100, hlen, N, rfl, hN1, hN4⟩ := open_protect hq
      have HT := Lib.hid hq
      have HP := Lib.hid hpr
      have HO := Lib.hid hop
      have hpp : (p.toList == p.toList) = true := by simp
      have hpp2 : (p.toList != p.toList) = false := by simp
      have hp100' : (p.size : Int) ≤ 100 := by omega
      have hq6 := (prR_good hpr).2.1
      clear hq hpr hop
      obtain ⟨K, hK⟩ : ∃ K, K = 7 * N := ⟨_, rfl⟩
      have hlen2 : b.size % K = 0 → q.size ≤ b.size := by rw [hK]; exact hlen
      have kw : IntKind.i64.wrap (7 * (N : Int)) = (K : Int) := by rw [hK]; exact IntWalk.i64_in _ (by omega)
      have hK0 : ¬ (K : Int) = 0 := by omega
      have hK00 : ¬ K = 0 := by omega
      obtain ⟨r, hr⟩ : ∃ r, r = b.size % K := ⟨_, rfl⟩
      have a1 : (b.size : Int).tmod (K : Int) = (r : Int) := by rw [hr]; rfl
      have a2 : (b.size : Int) % (K : Int) = (r : Int) := by rw [hr]; rfl
      rw [← hr] at hlen2
      clear hlen hr hK
      go_wp2_with fail
      refine (OpenPayload_c b N s t x _).mono ?_; rintro e w2 ⟨rfl, hb2⟩
      have hBx2 := hBx1.below hb2 hBx1.lt
      have hbA := hB1.trans (hb2.mono hB1.size)
      clear c0 c1 c2 hBx1 hB1 hb2
      have c0 := hBx2.cell (i := 0) rfl
      have c1 := hBx2.cell (i := 1) rfl
      have c2 := hBx2.cell (i := 2) rfl
      rw [HT.out]
      simp only [Option.getD_some, Option.isSome_some]
      go_wp2_with fail
      refine (sOpenPayload_c b N s t x _ (by omega)).mono ?_; rintro e w3 ⟨rfl, hb3⟩
      have hBx3 := hBx2.below hb3 hBx2.lt
      have hbB := hbA.trans (hb3.mono hbA.size)
      clear c0 c1 c2 hBx2 hbA hb3
      have c0 := hBx3.cell (i := 0) rfl
      have c1 := hBx3.cell (i := 1) rfl
      have c2 := hBx3.cell (i := 2) rfl
      rw [HT.out]
      simp only [Option.getD_some, Option.isSome_some]
      go_wp2_with fail
      refine (ProtectPayload_c p N s t x _).mono ?_; rintro e w4 ⟨rfl, hb4⟩
      have hBx4 := hBx3.below hb4 hBx3.lt
      have hbC := hbB.trans (hb4.mono hbB.size)
      clear c0 c1 c2 hBx3 hbB hb4
      have c0 := hBx4.cell (i := 0) rfl
      have c1 := hBx4.cell (i := 1) rfl
      have c2 := hBx4.cell (i := 2) rfl
      rw [HP.out]
      simp only [Option.getD_some, Option.isSome_some]
      go_wp2_with fail
      refine (OpenPayload_c q N s t x _).mono ?_; rintro e w5 ⟨rfl, hb5⟩
      have hbD := hbC.trans (hb5.mono hbC.size)
      clear c0 c1 c2 hBx4 hbC hb5
      rw [HO.out]
      simp only [Option.getD_some, Option.isSome_some]
      by_cases hr0 : r = 0
      · subst hr0
        have hle : (q.size : Int) ≤ (b.size : Int) := by have := hlen2 rfl; omega
        clear hlen2
        go_wp2_with fail
        go_ret
        exact ⟨by simp, hbD⟩
      · have hr1 : ((r : Int) != 0) = true := by rw [bne_iff_ne]; omega
        have hr2 : ((r : Int) == 0) = false := by rw [beq_eq_false_iff_ne]; omega
        clear hlen2
        go_wp2_with fail
        go_ret
        exact ⟨by simp, hbD⟩
  · have hn' : (1048576 : Int) < (len0 : Int) := by omega
    go_enter Try.func5, Try.ntmps5
    go_wp2_with fail
    go_ret
    exact ⟨rfl, Below.refl _ _⟩

set_option maxRecDepth 100000 in
theorem lifted (os : Os) (started : os.Started) (H : Type) (enc : TypeId × Value → H) :
    ReturnsInHanded {} Try.checked os 5 .any (Rows.fnOpenSpec.pre6 enc Try.prog Try.f5 Rows.fnOpenRow.domain false) (Rows.fnOpenSpec.post enc Try.prog Try.f5 false true false false) := by
  refine returnsInHanded_of_change (C := Try.checked) own started (by kernel_rfl) Try.func5
    (ChangeSpec.witness6 (enc := enc) (C := Try.checked) false ⟨#[], #[.slice none 0 0], []⟩ 8 (by kernel_rfl) (by kernel_rfl) (by kernel_rfl) (by kernel_rfl)) ?_
  intro W base args ds gs before hval0 hW hcnd _
  have hval : ∀ (j : Nat) t v, Try.f5.params[j]? = some t → args[j]? = some v → Value.okWide Try.prog W .any base t v := hval0
  have hW' := hW
  obtain ⟨p, q, hA0, hV, rfl, hfz, hnd⟩ := hW
  have hA : DataW.TrodAll enc Try.prog W 0 (fun _ => true) true Try.f5.params.toList args.toList ds p := hA0
  rw [Try.params5] at hA hval
  obtain ⟨v0, vs0, d0, ds0, p0, q0, hargs, rfl, rfl, h0, r0⟩ := trodAll_cons hA
  obtain ⟨rfl, rfl, rfl⟩ := trodAll_nil r0
  obtain rfl : args = #[v0] := by cases args; simp_all
  obtain ⟨rfl, rfl⟩ := trodVars_none hV
  have k0 := h0
  have lt0 : ∀ x ∈ p0, x.block < W.heap.size := by obtain ⟨m, hm⟩ := k0; exact DataW.trod_lt m _ _ _ hm
  obtain ⟨a0, len0, cap0, rfl⟩ := okWide_slice Try.underlying29 (hval 0 29 v0 rfl rfl)
  obtain ⟨z0, w0⟩ : ∃ zs, IsRow .u8 W a0 len0 cap0 zs := by
    obtain ⟨fuel, hf⟩ := h0
    rcases open_ints Try.underlying29 Try.underlying5 (by kernel_rfl) hf with ⟨hcs, _⟩ | ⟨x, l, c, zs, hcs, _, hl, hm, hz, _, hcell, hwz⟩
    · simp [Value.cells] at hcs
      obtain ⟨rfl, rfl, rfl⟩ := hcs
      exact ⟨[], .inl ⟨rfl, rfl, rfl, rfl⟩⟩
    · simp [Value.cells] at hcs
      obtain ⟨rfl, rfl, rfl⟩ := hcs
      exact ⟨zs, .inr ⟨_, rfl, hl, hm, by simpa using hz, hcell, hwz⟩⟩
  clear hA0 hval0
  refine (walk a0 len0 cap0 z0 W w0).mono fun e W' ⟨he, bel⟩ => ?_
  subst he
  exact ⟨_, rfl, _, _, _, [], _, [], hW', trodAll_mk1 (shut_bool Try.underlying4 _), (trodAll_cons_mk (Below.trod laidOut (by kernel_rfl) (of_decide_eq_true (by kernel_rfl)) k0 bel lt0) trodAll_mk0), rfl, bel.frame _, fun h => by cases h⟩

theorem over : Rows.fnOpenRow.holds Try.pinned (OpenSpec.ofChange Rows.fnOpenSpec) :=
  OpenClaim.holds_of_wide 5 Try.f5 rfl rfl rfl rfl rfl rfl rfl ⟨rfl, rfl, rfl, rfl, rfl⟩ rfl rfl rfl rfl rfl (by kernel_rfl) Try.func5 (by kernel_rfl)
    (of_decide_eq_true (by kernel_rfl)) (by unfold Func.isWrapper; first | (rw [if_pos (by decide +kernel)]; kernel_rfl) | (rw [if_neg (by decide +kernel)]; exact ⟨rfl, rfl⟩))
    (fun os started H enc _ => lifted os started H enc)

theorem proved : Rows.FnOpenSaid := over
#print axioms proved
end Go.Proofs.Ytbgabjdgbibohaa.fnOpen
