/- The law FnJammed holds for every input that the given row lets in: the program's answer is the reference's. No condition of its own. -/
import Derived.Test.YtnklnafcbjnmfaaRows
import Derived.WalkKit
import Derived.ProofKit
import Derived.OpenShut
import Derived.ShutString
import Derived.ChangeOld
import Derived.Below
import Derived.Lib.SmallJoins
import Derived.Test.YtnklnafcbjnmfaaLw
import Derived.Test.YtnklnafcbjnmfaaHj
namespace Go.Proofs.Ytnklnafcbjnmfaa.fnJammed
open Go.ChangeShapes Go.WideShapes Go.ChangeAt Go.RowKit
open Go.ChangeMaps (open_string shut_string)
set_option linter.unusedVariables false

theorem own : ownKnob Try.prog.godebug = none := by kernel_rfl
theorem laidOut : laidOutB Try.prog = true := by kernel_rfl

/-- A slice of integers that came in: nil, or a row of 'cap' cells that hold the numbers zs. -/
def IsRow (k : IntKind) (w : World) (a : Option Addr) (len cap : Nat) (zs : List Int) : Prop :=
  (a = none ∧ len = 0 ∧ cap = 0 ∧ zs = []) ∨
  ∃ x, a = some x ∧ len ≤ cap ∧ cap ≤ maxLen ∧ zs.length = cap ∧ (∀ i, i < zs.length → w.cell? (x.add i) = some (.int k (zs.getD i 0))) ∧ ∀ n ∈ zs, (Lit.int k n).wf = true

theorem jamB_sub {l r : List Int} (h : jamB l = true) (hr : ∀ x ∈ r, x ∈ l) (hn : r.length ≤ l.length) : jamB r = true := by
  unfold jamB allB at *
  rw [Bool.and_eq_true, List.all_eq_true] at *
  exact ⟨by have := of_decide_eq_true h.1; exact decide_eq_true (by omega), fun x hx => h.2 x (hr x hx)⟩
theorem cntB_mono {p q : Int → Bool} (l : List Int) (h : ∀ x, p x = true → q x = true) : cntB p l ≤ cntB q l := by
  unfold cntB
  induction l with
  | nil => exact Nat.le_refl _
  | cons x l ih =>
    simp only [List.filter_cons]
    by_cases hp : p x = true
    · rw [if_pos hp, if_pos (h x hp)]; simp; exact ih
    · rw [if_neg hp]; split
      · simp; omega
      · exact ih
theorem cntB_or {p q r : Int → Bool} (l : List Int) (h : ∀ x, p x = true → q x = true ∨ r x = true) : cntB p l ≤ cntB q l + cntB r l := by
  unfold cntB
  induction l with
  | nil => exact Nat.le_refl _
  | cons x l ih =>
    simp only [List.filter_cons]
    by_cases hp : p x = true
    · rw [if_pos hp]
      rcases h x hp with hq | hq
      · rw [if_pos hq]; split <;> (try simp only [List.length_cons]) <;> omega
      · rw [if_pos hq]; split <;> (try simp only [List.length_cons]) <;> omega
    · rw [if_neg hp]; split <;> split <;> (try simp only [List.length_cons]) <;> omega
theorem cntB_none (l : List Int) : cntB (hasB []) l = 0 := by
  unfold cntB
  rw [List.length_eq_zero_iff, List.filter_eq_nil_iff]
  intro x _
  simp [hasB]
theorem jam_no {l j : List Int} (h : (hopsB l 16 && jamB j) = false) : jamHops l j = -1 := by simp [jamHops, h]
theorem jam_yes {l j : List Int} (h1 : hopsB l 16 = true) (h2 : jamB j = true) : jamHops l j = cntB (hasB j) l := by simp [jamHops, h1, h2]
theorem has_take {j : List Int} {k : Nat} {x : Int} (h : hasB (j.take k) x = true) : hasB j x = true := by
  unfold hasB at *; rw [decide_eq_true_eq] at *; exact List.mem_of_mem_take h
theorem has_split {j : List Int} {k : Nat} {x : Int} (h : hasB j x = true) : hasB (j.take k) x = true ∨ hasB (j.drop k) x = true := by
  unfold hasB at *; simp only [decide_eq_true_eq] at *
  rw [← List.take_append_drop k j, List.mem_append] at h
  exact h
set_option maxRecDepth 100000
set_option maxHeartbeats 4000000 in
theorem walk (a0 : Option Addr) (len0 cap0 : Nat) (z0 : List Int) (w : World) (w0 : IsRow .u8 w a0 len0 cap0 z0) :
    Calls Try.prog 6 #[.slice a0 len0 cap0] w fun e w' => e = .returned (.bool true) ∧ Below w.heap.size w w' := by
  by_cases hn : len0 ≤ 1048576
  · have hC := codeW_of_row w0 (by omega)
    clear w0
    go_enter Try.func6, Try.ntmps6
    go_wp2_with fail
    refine (DrawJammedHops_c hC).mono ?_; rintro e w1 ⟨ao, n, c, l, bo, m, d, j, rfl, hL, h301, hJ, h17, hb1⟩
    clear hC
    go_wp2_with fail
    refine (JammedHops_c hL.1 hJ.1).mono ?_; rintro e w' ⟨rfl, rfl⟩
    go_wp2_with fail
    refine (sJammedHops_c hL.1 hJ.1).mono ?_; rintro e w' ⟨rfl, rfl⟩
    have hne : (jamHops l j != jamHops l j) = false := by simp
    by_cases hok : (hopsB l 16 && jamB j) = true
    · rw [Bool.and_eq_true] at hok
      have HJ := Lib.hid (jam_yes hok.1 hok.2)
      have HJ0 := Lib.hid (show jamHops l [] = 0 by rw [jam_yes hok.1 rfl, cntB_none]; rfl)
      have HJ1 := Lib.hid (jam_yes hok.1 (jamB_sub hok.2 (fun x hx => List.mem_of_mem_take hx) (by rw [List.length_take]; omega : (j.take (m / 2)).length ≤ j.length)))
      have HJ2 := Lib.hid (jam_yes hok.1 (jamB_sub hok.2 (fun x hx => List.mem_of_mem_drop hx) (by rw [List.length_drop]; omega : (j.drop (m / 2)).length ≤ j.length)))
      have hge : ¬ jamHops l j < 0 := by rw [HJ.out]; omega
      have hle1 : cntB (hasB (j.take (m / 2))) l ≤ cntB (hasB j) l := cntB_mono l fun x hx => has_take hx
      have hle2 : cntB (hasB j) l ≤ cntB (hasB (j.take (m / 2))) l + cntB (hasB (j.drop (m / 2))) l := cntB_or l fun x hx => has_split hx
      have hlz := @cntB_le (hasB j) l
      have hlz1 := @cntB_le (hasB (j.take (m / 2))) l
      have hlz2 := @cntB_le (hasB (j.drop (m / 2))) l
      have HL := Lib.hid hL.1.1
      have HM := Lib.hid hJ.1.1
      have hs := hL.1.2.1
      have hm17 : m ≤ 17 := by have := HM.out; omega
      rw [HJ.out] at hne hge ⊢
      clear hok
      go_wp2_with fail
      go_loop [6, 7] (fun q i => ∃ k : Nat, k ≤ n ∧ i = .int .i64 k ∧ q = .int .i64 (cntB (hasB j) (l.take k) : Nat)) (fun _ i => n - (intOf i).toNat)
      case atStart => exact ⟨0, Nat.zero_le _, rfl, rfl⟩
      case round =>
        obtain ⟨k, hk, rfl, rfl⟩ := hrel
        have hle := @cntB_take_le (hasB j) l k
        by_cases hlt : k < n
        · obtain ⟨b, off, rfl, hl, hc⟩ := hL.1.at hlt
          have HS := Lib.hid (cntB_succ (p := hasB j) hl)
          go_wp2_with fail
          refine (ssHas_c _ hJ.1).mono ?_; rintro e w' ⟨rfl, rfl⟩
          by_cases hh : hasB j l[k] = true
          · rw [hh]
            have HH := Lib.hid hh; clear hh
            go_wp2_with fail
            go_round
            case rel => exact ⟨k + 1, by omega, by go_num, by rw [HS.out, if_pos HH.out]; go_num⟩
            case measure => simp [intOf]; omega
          · have hh' : hasB j l[k] = false := by simpa using hh
            rw [hh']
            have HH := Lib.hid hh'; clear hh hh'
            go_wp2_with fail
            go_round
            case rel => exact ⟨k + 1, by omega, by go_num, by rw [HS.out, if_neg (by rw [HH.out]; decide)]; go_num⟩
            case measure => simp [intOf]; omega
        · obtain rfl : k = n := by omega
          have hw : (cntB (hasB j) (l.take k) : Int) = cntB (hasB j) l := by rw [List.take_of_length_le (by rw [← HL.out]; exact Nat.le_refl _)]
          rw [hw]
          clear hw
          go_wp2_with fail
          refine (JammedHops_c hL.1 (Rd.nil _)).mono ?_; rintro e w' ⟨rfl, rfl⟩
          rw [HJ0.out]
          by_cases hm0 : 0 < m
          · obtain ⟨b, off, rfl, hl, hc⟩ := hJ.1.at hm0
            have hT := hJ.1.take (show m / 2 ≤ m by omega)
            have hD := hJ.1.drop (show m / 2 ≤ m by omega)
            have q1 : m / 2 ≤ d := by have := hJ.2.1; omega
            have q2 : m / 2 ≤ m := by omega
            have q3 : ¬ d = m / 2 := by have := hJ.2.1; omega
            have q4 : (0 : Int) ≤ (m : Int) / 2 := by omega
            have q5 : (m : Int) / 2 ≤ (d : Int) := by have := hJ.2.1; omega
            have q6 : (m : Int) / 2 ≤ (m : Int) := by omega
            have q7 : ((m : Int) / 2).toNat = m / 2 := by omega
            go_wp2_with fail
            refine (JammedHops_c hL.1 hT).mono ?_; rintro e w' ⟨rfl, rfl⟩
            rw [HJ1.out]
            go_wp2_with fail
            refine (JammedHops_c hL.1 hD).mono ?_; rintro e w' ⟨rfl, rfl⟩
            rw [HJ2.out]
            have r1 : (cntB (hasB (j.take (m / 2))) l : Int) ≤ (cntB (hasB j) l : Int) := by omega
            have r2 : (cntB (hasB j) l : Int) ≤ (cntB (hasB (j.take (m / 2))) l : Int) + (cntB (hasB (j.drop (m / 2))) l : Int) := by omega
            go_wp2_with fail
            go_ret
            exact ⟨rfl, hb1⟩
          · obtain rfl : m = 0 := by omega
            have hj0 : j = [] := List.eq_nil_of_length_eq_zero HM.out.symm
            have HJ0b := Lib.hid hj0; clear hj0
            have HZ1 := Lib.hid (show jamHops l (j.take (0 / 2)) = 0 by rw [HJ0b.out]; exact HJ0.out)
            have hz0 : (cntB (hasB j) l : Int) = 0 := by rw [HJ0b.out, cntB_none]; rfl
            rw [hz0]
            have q1 : (0 : Int) ≤ (d : Int) := by omega
            by_cases hd : d = 0
            all_goals
              go_wp2_with fail
              refine (JammedHops_c hL.1 (Rd.zero _ _)).mono ?_; rintro e w' ⟨rfl, rfl⟩
              rw [HJ0.out]
              go_wp2_with fail
              refine (JammedHops_c hL.1 (Rd.zero _ _)).mono ?_; rintro e w' ⟨rfl, rfl⟩
              rw [HJ0.out]
              go_wp2_with fail
              go_ret
              exact ⟨rfl, hb1⟩
    · have hok' : (hopsB l 16 && jamB j) = false := by simpa using hok
      have HJ := Lib.hid (jam_no hok')
      clear hok hok'
      rw [HJ.out] at hne ⊢
      go_wp2_with fail
      refine (sJammedHops_c hL.1 hJ.1).mono ?_; rintro e w' ⟨rfl, rfl⟩
      rw [HJ.out]
      go_wp2_with fail
      go_ret
      exact ⟨rfl, hb1⟩
  · have hn' : (1048576 : Int) < (len0 : Int) := by omega
    go_enter Try.func6, Try.ntmps6
    go_wp2_with fail
    go_ret
    exact ⟨rfl, Below.refl _ _⟩

set_option maxRecDepth 100000 in
theorem lifted (os : Os) (started : os.Started) (H : Type) (enc : TypeId × Value → H) :
    ReturnsInHanded {} Try.checked os 6 .any (Rows.fnJammedSpec.pre6 enc Try.prog Try.f6 Rows.fnJammedRow.domain false) (Rows.fnJammedSpec.post enc Try.prog Try.f6 false true false false) := by
  refine returnsInHanded_of_change (C := Try.checked) own started (by kernel_rfl) Try.func6
    (ChangeSpec.witness6 (enc := enc) (C := Try.checked) false ⟨#[], #[.slice none 0 0], []⟩ 8 (by kernel_rfl) (by kernel_rfl) (by kernel_rfl) (by kernel_rfl)) ?_
  intro W base args ds gs before hval0 hW hcnd _
  have hval : ∀ (j : Nat) t v, Try.f6.params[j]? = some t → args[j]? = some v → Value.okWide Try.prog W .any base t v := hval0
  have hW' := hW
  obtain ⟨p, q, hA0, hV, rfl, hfz, hnd⟩ := hW
  have hA : DataW.TrodAll enc Try.prog W 0 (fun _ => true) true Try.f6.params.toList args.toList ds p := hA0
  rw [Try.params6] at hA hval
  obtain ⟨v0, vs0, d0, ds0, p0, q0, hargs, rfl, rfl, h0, r0⟩ := trodAll_cons hA
  obtain ⟨rfl, rfl, rfl⟩ := trodAll_nil r0
  obtain rfl : args = #[v0] := by cases args; simp_all
  obtain ⟨rfl, rfl⟩ := trodVars_none hV
  have k0 := h0
  have lt0 : ∀ x ∈ p0, x.block < W.heap.size := by obtain ⟨m, hm⟩ := k0; exact DataW.trod_lt m _ _ _ hm
  obtain ⟨a0, len0, cap0, rfl⟩ := okWide_slice Try.underlying34 (hval 0 34 v0 rfl rfl)
  obtain ⟨z0, w0⟩ : ∃ zs, IsRow .u8 W a0 len0 cap0 zs := by
    obtain ⟨fuel, hf⟩ := h0
    rcases open_ints Try.underlying34 Try.underlying5 (by kernel_rfl) hf with ⟨hcs, _⟩ | ⟨x, l, c, zs, hcs, _, hl, hm, hz, _, hcell, hwz⟩
    · simp [Value.cells] at hcs
      obtain ⟨rfl, rfl, rfl⟩ := hcs
      exact ⟨[], .inl ⟨rfl, rfl, rfl, rfl⟩⟩
    · simp [Value.cells] at hcs
      obtain ⟨rfl, rfl, rfl⟩ := hcs
      exact ⟨zs, .inr ⟨_, rfl, hl, hm, by simpa using hz, hcell, hwz⟩⟩
  clear hA0 hval0
  refine (walk a0 len0 cap0 z0 W w0).mono fun e W' ⟨he, bel⟩ => ?_
  subst he
  exact ⟨_, rfl, _, _, _, [], _, [], hW', trodAll_mk1 (shut_bool Try.underlying4 _), (trodAll_cons_mk (Below.trod laidOut (by kernel_rfl) (of_decide_eq_true (by kernel_rfl)) k0 bel lt0) trodAll_mk0), rfl, bel.frame _, fun h => by cases h⟩

theorem over : Rows.fnJammedRow.holds Try.pinned (OpenSpec.ofChange Rows.fnJammedSpec) :=
  OpenClaim.holds_of_wide 6 Try.f6 rfl rfl rfl rfl rfl rfl rfl ⟨rfl, rfl, rfl, rfl, rfl⟩ rfl rfl rfl rfl rfl (by kernel_rfl) Try.func6 (by kernel_rfl)
    (of_decide_eq_true (by kernel_rfl)) (by unfold Func.isWrapper; first | (rw [if_pos (by decide +kernel)]; kernel_rfl) | (rw [if_neg (by decide +kernel)]; exact ⟨rfl, rfl⟩))
    (fun os started H enc _ => lifted os started H enc)

theorem proved : Rows.FnJammedSaid := over
#print axioms proved
end Go.Proofs.Ytnklnafcbjnmfaa.fnJammed
