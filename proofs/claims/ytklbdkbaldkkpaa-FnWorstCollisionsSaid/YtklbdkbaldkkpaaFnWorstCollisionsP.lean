/- The law FnWorstCollisions holds for every input that the given row lets in: the program's answer is the reference's. No condition of its own. -/
import Derived.Test.YtklbdkbaldkkpaaRows
import Derived.WalkKit
import Derived.ProofKit
import Derived.OpenShut
import Derived.ShutString
import Derived.ChangeOld
import Derived.Below
import Derived.Lib.SmallJoins
import Derived.Test.YtklbdkbaldkkpaaDw
import Derived.Test.YtklbdkbaldkkpaaWi
import Derived.Test.YtklbdkbaldkkpaaWs
import Derived.Test.YtklbdkbaldkkpaaLw
namespace Go.Proofs.Ytklbdkbaldkkpaa.fnWorstCollisions
open Go.ChangeShapes Go.WideShapes Go.ChangeAt Go.RowKit
open Go.ChangeMaps (open_string shut_string)
set_option linter.unusedVariables false

theorem own : ownKnob Try.prog.godebug = none := by kernel_rfl
theorem laidOut : laidOutB Try.prog = true := by kernel_rfl

/-- A slice of integers that came in: nil, or a row of 'cap' cells that hold the numbers zs. -/
def IsRow (k : IntKind) (w : World) (a : Option Addr) (len cap : Nat) (zs : List Int) : Prop :=
  (a = none ∧ len = 0 ∧ cap = 0 ∧ zs = []) ∨
  ∃ x, a = some x ∧ len ≤ cap ∧ cap ≤ maxLen ∧ zs.length = cap ∧ (∀ i, i < zs.length → w.cell? (x.add i) = some (.int k (zs.getD i 0))) ∧ ∀ n ∈ zs, (Lit.int k n).wf = true

theorem ok_len {L : List (List Int)} (hok : allOk L = true) {i : Nat} (hi : i < L.length) : (L.getD i []).length = (hd L).length ∧ rowB (hd L) (L.getD i []) = true := by
  unfold allOk at hok
  rw [Bool.and_eq_true, List.all_eq_true] at hok
  have e : L.getD i [] = L[i] := by simp [List.getD, hi]
  rw [e]
  have := hok.2 _ (List.getElem_mem hi)
  exact ⟨(rowB_parts this).2.2, this⟩
theorem wp_best {L : List (List Int)} {v : Int} (hok : allOk L = true) (h : WPost L v) : Best (mt L) (fun i j k => j < i ∧ i < L.length ∧ k < (hd L).length) v := by
  unfold WPost at h; rwa [if_pos hok] at h
theorem mt_le {L : List (List Int)} {v : Int} (hok : allOk L = true) (h : WPost L v) {i j k : Nat} (hj : j < i) (hi : i < L.length) (hk : k < (hd L).length) : mt L j i k ≤ v := by
  rw [mt_turn (ok_len hok (Nat.lt_trans hj hi)).1 (ok_len hok hi).1 hk]
  exact (wp_best hok h).1 i j _ ⟨hj, hi, undo_lt hk⟩
theorem mt_has {L : List (List Int)} {v : Int} (hok : allOk L = true) (h : WPost L v) (h0 : v ≠ 0) : ∃ i j k, j < i ∧ i < L.length ∧ k < (hd L).length ∧ mt L j i k = v := by
  rcases (wp_best hok h).2.2 with e | ⟨i, j, k, ⟨h1, h2, h3⟩, e⟩
  · exact absurd e h0
  · refine ⟨i, j, undo (hd L).length k, h1, h2, undo_lt h3, ?_⟩
    rw [e, mt_turn (ok_len hok h2).1 (ok_len hok (Nat.lt_trans h1 h2)).1 h3]
theorem k2_below {w w' : World} (hb : Below w.heap.size w w') {p0 p1 : Addr} {v0 v1 : Value}
    (h : w.cell? p0 = some v0 ∧ w.cell? p1 = some v1) : w'.cell? p0 = some v0 ∧ w'.cell? p1 = some v1 := by
  obtain ⟨h0, h1⟩ := h
  have k : ∀ {p : Addr} {v : Value}, w.cell? p = some v → w'.cell? p = some v := fun {p v} e => (hb.cell (lt_of_cell e)).trans e
  exact ⟨k h0, k h1⟩
set_option maxRecDepth 100000
set_option maxHeartbeats 4000000 in
theorem walk (a0 : Option Addr) (len0 cap0 : Nat) (z0 : List Int) (w : World) (w0 : IsRow .u8 w a0 len0 cap0 z0) :
    Calls Try.prog 6 #[.slice a0 len0 cap0] w fun e w' => e = .returned (.bool true) ∧ Below w.heap.size w w' := by
  by_cases hn : len0 ≤ 1048576
  · have hC := codeW_of_row w0 (by omega)
    clear w0
    go_enter Try.func6, Try.ntmps6
    go_wp2_with fail
    refine (DrawWorstCollisions_c hC).mono ?_; rintro e w1 ⟨ao, n, c, rs, rfl, hM1, hcap, h9, h301, hb1⟩
    clear hC
    go_wp2_with fail
    refine (WorstCollisions_c hM1 hcap).mono ?_; rintro e w2 ⟨v, rfl, hP, hb2⟩
    have hM2 := hM1.below hb2
    have hB2 := hb1.trans (hb2.mono hb1.size)
    clear hM1 hb1 hb2
    go_wp2_with fail
    refine (sWorstCollisions_c hM2).mono ?_; rintro e w3 ⟨v', rfl, hP', hq3⟩
    obtain rfl : v' = v := hP'.uniq hP
    have hM3 := hM2.qw hq3
    have hB3 := hB2.trans ((hq3.below w2.heap.size).mono hB2.size)
    have HP := Lib.hid hP
    clear hM2 hB2 hq3 hP hP'
    by_cases hok : allOk (nums rs) = true
    · obtain ⟨L, hL⟩ : ∃ L, nums rs = L := ⟨_, rfl⟩
      have HL := Lib.hid hL
      have hbest := wp_best hok HP.out
      have hv0 : 0 ≤ v' := hbest.2.1
      have hlen : n = rs.length := hM3.1.1
      have HN := Lib.hid hlen
      obtain ⟨D, hD⟩ : ∃ D, (hd (nums rs)).length = D := ⟨_, rfl⟩
      have HD := Lib.hid hD
      have HROW := Lib.hid (fun i (hi : i < rs.length) => (show rs[i].n = D ∧ rowB (hd (nums rs)) rs[i].l = true by
        have hr := ok_len hok (i := i) (by rw [nums_len]; exact hi)
        rw [nums_getD hi] at hr
        exact ⟨by rw [((hM3.2 _ (List.getElem_mem hi)).1).1, hr.1, hD], hr.2⟩))
      have hD301 : D ≤ 301 ∨ rs.length = 0 := by
        rcases Nat.eq_zero_or_pos rs.length with h | h
        · exact .inr h
        · left; rw [← (HROW.out 0 h).1]; exact h301 _ (List.getElem_mem h)
      have HLE := Lib.hid (fun i j k (h1 : j < i) (h2 : i < rs.length) (h3 : k < D) => mt_le hok HP.out h1 (by rw [nums_len]; exact h2) (by rw [hD]; exact h3))
      have HHAS := Lib.hid (mt_has hok HP.out)
      have hs := hM3.1.2.1
      have hn9 : n ≤ 9 := by omega
      have hvn : decide (v' < 0) = false := by simp; omega
      clear hok hbest hL hlen hD h301
      have hzb := hB3.size
      go_wp2_with fail
      go_loopw [5, 6] (fun sb si wr => ∃ (i : Nat) (b : Bool), i ≤ n ∧ si = .int .i64 i ∧ sb = .bool b ∧ Hid (∀ i' j' k', j' < i' → i' < i → k' < D → mt (nums rs) j' i' k' = v' → b = true) ∧ Hid (v' = 0 → b = true) ∧ Below w3.heap.size w3 wr) (fun _ si _ => n - (intOf si).toNat)
      case atStart => exact ⟨0, _, Nat.zero_le _, rfl, rfl, Lib.hid (fun i' j' k' h1 h2 => absurd h2 (by omega)), Lib.hid (fun h => by simp [h]), Below.refl _ _⟩
      case round =>
        obtain ⟨i, b, hi, rfl, rfl, HV, HZ, hb⟩ := hrel
        by_cases hlt : i < n
        · have hlr : i < rs.length := by rw [← HN.out]; exact hlt
          have HRI := Lib.hid (HROW.out i hlr)
          have hD3 : D ≤ 301 := by omega
          obtain ⟨wo, rfl⟩ : ∃ wo : World, wo = wr := ⟨_, rfl⟩
          go_wp2_with fail
          go_loopw [5, 7] (fun sb sj wq => ∃ (j : Nat) (b : Bool), j ≤ i ∧ sj = .int .i64 j ∧ sb = .bool b ∧ Hid (∀ i' j' k', j' < i' → (i' < i ∨ (i' = i ∧ j' < j)) → k' < D → mt (nums rs) j' i' k' = v' → b = true) ∧ Hid (v' = 0 → b = true) ∧ Below w3.heap.size w3 wq) (fun _ sj _ => i - (intOf sj).toNat)
          case atStart => exact ⟨0, b, Nat.zero_le _, rfl, rfl, Lib.hid (fun i' j' k' h1 h2 h3 h4 => HV.out i' j' k' h1 (by omega) h3 h4), HZ, hb⟩
          case round =>
            clear HV HZ hb
            obtain ⟨j, b, hj, rfl, rfl, HV, HZ, hb⟩ := hrel
            by_cases hjt : j < i
            · have hjr : j < rs.length := by omega
              obtain ⟨wm, rfl⟩ : ∃ wm : World, wm = wr := ⟨_, rfl⟩
              go_wp2_with fail
              go_loopw [5, 8] (fun sb sk wq => ∃ (k : Nat) (b : Bool), k ≤ D ∧ sk = .int .i64 k ∧ sb = .bool b ∧ Hid (∀ i' j' k', j' < i' → (i' < i ∨ (i' = i ∧ (j' < j ∨ (j' = j ∧ k' < k)))) → k' < D → mt (nums rs) j' i' k' = v' → b = true) ∧ Hid (v' = 0 → b = true) ∧ Below w3.heap.size w3 wq) (fun _ sk _ => D - (intOf sk).toNat)
              case atStart => exact ⟨0, b, Nat.zero_le _, rfl, rfl, Lib.hid (fun i' j' k' h1 h2 h3 h4 => HV.out i' j' k' h1 (by omega) h3 h4), HZ, hb⟩
              case round =>
                clear HV HZ hb
                obtain ⟨k, b, hk, rfl, rfl, HV, HZ, hb⟩ := hrel
                have hMk := hM3.below hb
                obtain ⟨b1, o1, rfl, hl1, hc1⟩ := hMk.1.at hlt
                obtain ⟨b2, o2, he, hl2, hc2⟩ := hMk.1.at (show j < n by omega)
                cases he
                have hri := HRI.out.1
                change _ = some (Value.slice rs[i].ao rs[i].n rs[i].c) at hc1
                change _ = some (Value.slice rs[j].ao rs[j].n rs[j].c) at hc2
                rw [hri] at hc1
                have HRD1 := Lib.hid (hMk.2 _ (List.getElem_mem hl1))
                have HRD2 := Lib.hid (hMk.2 _ (List.getElem_mem hl2))
                clear hri
                by_cases hkt : k < D
                · obtain ⟨m, hm⟩ : ∃ m, mt (nums rs) j i k = m := ⟨_, rfl⟩
                  have hmv : m ≤ v' := by rw [← hm]; exact HLE.out i j k hjt hl1 hkt
                  have hcol : colHops rs[j].l rs[i].l (k : Int) = m := by
                    rw [colHops_yes (rowB_col (HROW.out j hjr).2 (HROW.out i hl1).2), ← hm]; unfold mt; rw [nums_getD hjr, nums_getD hl1]
                  have HC := Lib.hid hcol
                  have HMM := Lib.hid hm
                  have hmd : decide (v' < m) = false := by simp; omega
                  clear hcol hm
                  have hr1 : Rd wr.drew rs[i].ao D rs[i].l := by
                    have := (HRD1.out.1).below (Below.drew (Below.refl wr.heap.size wr))
                    rwa [HRI.out.1] at this
                  have hr2 := (HRD2.out.1).below (Below.drew (Below.refl wr.heap.size wr))
                  have hcp : D ≤ rs[i].c := by have := HRD1.out.2; rwa [HRI.out.1] at this
                  have C0 := And.intro hc2 hc1
                  have p1 : (j : Int) < (n : Int) := by omega
                  have p2 : (0 : Int) ≤ (j : Int) := by omega
                  have p3 : j < n := by omega
                  have p4 : (i : Int) < (n : Int) := by omega
                  have p5 : (0 : Int) ≤ (i : Int) := by omega
                  clear hMk
                  go_wp2_with fail
                  go_region_held3 (fun w' => w'.cell? ⟨b1, o1 + j, none⟩ = some (.slice rs[j].ao rs[j].n rs[j].c) ∧ w'.cell? ⟨b1, o1 + i, none⟩ = some (.slice rs[i].ao D rs[i].c)) (first | exact C0 | exact C1) (first | (go_at_call 29; refine (HopCollisions_c (k : Int) hr2 hr1 hcp).mono ?_; rintro e w8 ⟨rfl, hb8⟩; rw [HC.out]; have C1 := k2_below hb8 C0))
                  have hb9 : Below w3.heap.size w3 w8 := hb.trans (((Below.drew (Below.refl wr.heap.size wr)).trans hb8).mono hb.size)
                  clear C0 C1 hc1 hc2 hr1 hr2 hb hb8
                  cases b with
                  | true =>
                    clear HV HZ
                    go_wp2_with fail
                    go_roundw
                    case rel => exact ⟨k + 1, true, by omega, by go_num, rfl, Lib.hid (fun _ _ _ _ _ _ _ => rfl), Lib.hid (fun _ => rfl), hb9⟩
                    case measure => simp [intOf]; omega
                  | false =>
                    have HV2 := Lib.hid (show ∀ i' j' k', j' < i' → (i' < i ∨ (i' = i ∧ (j' < j ∨ (j' = j ∧ k' < k + 1)))) → k' < D → mt (nums rs) j' i' k' = v' → (m == v') = true from fun i' j' k' h1 h2 h3 h4 => by
                      by_cases hnew : i' = i ∧ j' = j ∧ k' = k
                      · obtain ⟨rfl, rfl, rfl⟩ := hnew
                        rw [HMM.out] at h4
                        rw [h4]; simp
                      · exact absurd (HV.out i' j' k' h1 (by omega) h3 h4) (by simp))
                    have HZ2 := Lib.hid (show v' = 0 → (m == v') = true from fun h => absurd (HZ.out h) (by simp))
                    clear HV HZ
                    go_wp2_with fail
                    go_roundw
                    case rel => exact ⟨k + 1, (m == v'), by omega, by go_num, rfl, HV2, HZ2, hb9⟩
                    case measure => simp [intOf]; omega
                · obtain rfl : k = D := by omega
                  clear hMk
                  go_wp2_with fail
                  go_roundw
                  case rel => exact ⟨j + 1, b, by omega, by go_num, rfl, Lib.hid (fun i' j' k' h1 h2 h3 h4 => HV.out i' j' k' h1 (by omega) h3 h4), HZ, hb⟩
                  case measure => simp [intOf]; omega
            · obtain rfl : j = i := by omega
              go_wp2_with fail
              go_roundw
              case rel => exact ⟨j + 1, b, by omega, by go_num, rfl, Lib.hid (fun i' j' k' h1 h2 h3 h4 => HV.out i' j' k' h1 (by omega) h3 h4), HZ, hb⟩
              case measure => simp [intOf]; omega
        · obtain rfl : i = n := by omega
          have hBz := hB3.trans (hb.mono hzb)
          by_cases hz0 : v' = 0
          · obtain rfl : b = true := HZ.out hz0
            obtain rfl : v' = 0 := hz0
            go_wp2_with fail
            all_goals
              go_ret
              exact ⟨rfl, hBz⟩
          · obtain ⟨i', j', k', h1, h2, h3, h4⟩ := HHAS.out hz0
            rw [nums_len, ← HN.out] at h2
            rw [HD.out] at h3
            obtain rfl : b = true := HV.out i' j' k' h1 h2 h3 h4
            have hn1 : (1 : Int) < (i : Int) := by omega
            clear h1 h2 h3 h4 hz0
            go_wp2_with fail
            go_ret
            exact ⟨rfl, hBz⟩
    · have hv : v' = -1 := by
        have := HP.out
        unfold WPost at this
        rwa [if_neg (by simp [hok])] at this
      obtain rfl : v' = -1 := hv
      clear hok
      go_wp2_with fail
      refine (sWorstCollisions_c hM3).mono ?_; rintro e w4 ⟨v2, rfl, hP2, hq4⟩
      obtain rfl : -1 = v2 := HP.out.uniq hP2
      have hB4 := hB3.trans ((hq4.below w3.heap.size).mono hB3.size)
      go_wp2_with fail
      go_ret
      exact ⟨rfl, hB4⟩
  · have hn' : (1048576 : Int) < (len0 : Int) := by omega
    go_enter Try.func6, Try.ntmps6
    go_wp2_with fail
    go_ret
    exact ⟨rfl, Below.refl _ _⟩

set_option maxRecDepth 100000 in
theorem lifted (os : Os) (started : os.Started) (H : Type) (enc : TypeId × Value → H) :
    ReturnsInHanded {} Try.checked os 6 .any (Rows.fnWorstCollisionsSpec.pre6 enc Try.prog Try.f6 Rows.fnWorstCollisionsRow.domain false) (Rows.fnWorstCollisionsSpec.post enc Try.prog Try.f6 false true false false) := by
  refine returnsInHanded_of_change (C := Try.checked) own started (by kernel_rfl) Try.func6
    (ChangeSpec.witness6 (enc := enc) (C := Try.checked) false ⟨#[], #[.slice none 0 0], []⟩ 8 (by kernel_rfl) (by kernel_rfl) (by kernel_rfl) (by kernel_rfl)) ?_
  intro W base args ds gs before hval0 hW hcnd _
  have hval : ∀ (j : Nat) t v, Try.f6.params[j]? = some t → args[j]? = some v → Value.okWide Try.prog W .any base t v := hval0
  have hW' := hW
  obtain ⟨p, q, hA0, hV, rfl, hfz, hnd⟩ := hW
  have hA : DataW.TrodAll enc Try.prog W 0 (fun _ => true) true Try.f6.params.toList args.toList ds p := hA0
  rw [Try.params6] at hA hval
  obtain ⟨v0, vs0, d0, ds0, p0, q0, hargs, rfl, rfl, h0, r0⟩ := trodAll_cons hA
  obtain ⟨rfl, rfl, rfl⟩ := trodAll_nil r0
  obtain rfl : args = #[v0] := by cases args; simp_all
  obtain ⟨rfl, rfl⟩ := trodVars_none hV
  have k0 := h0
  have lt0 : ∀ x ∈ p0, x.block < W.heap.size := by obtain ⟨m, hm⟩ := k0; exact DataW.trod_lt m _ _ _ hm
  obtain ⟨a0, len0, cap0, rfl⟩ := okWide_slice Try.underlying22 (hval 0 22 v0 rfl rfl)
  obtain ⟨z0, w0⟩ : ∃ zs, IsRow .u8 W a0 len0 cap0 zs := by
    obtain ⟨fuel, hf⟩ := h0
    rcases open_ints Try.underlying22 Try.underlying5 (by kernel_rfl) hf with ⟨hcs, _⟩ | ⟨x, l, c, zs, hcs, _, hl, hm, hz, _, hcell, hwz⟩
    · simp [Value.cells] at hcs
      obtain ⟨rfl, rfl, rfl⟩ := hcs
      exact ⟨[], .inl ⟨rfl, rfl, rfl, rfl⟩⟩
    · simp [Value.cells] at hcs
      obtain ⟨rfl, rfl, rfl⟩ := hcs
      exact ⟨zs, .inr ⟨_, rfl, hl, hm, by simpa using hz, hcell, hwz⟩⟩
  clear hA0 hval0
  refine (walk a0 len0 cap0 z0 W w0).mono fun e W' ⟨he, bel⟩ => ?_
  subst he
  exact ⟨_, rfl, _, _, _, [], _, [], hW', trodAll_mk1 (shut_bool Try.underlying4 _), (trodAll_cons_mk (Below.trod laidOut (by kernel_rfl) (of_decide_eq_true (by kernel_rfl)) k0 bel lt0) trodAll_mk0), rfl, bel.frame _, fun h => by cases h⟩

theorem over : Rows.fnWorstCollisionsRow.holds Try.pinned (OpenSpec.ofChange Rows.fnWorstCollisionsSpec) :=
  OpenClaim.holds_of_wide 6 Try.f6 rfl rfl rfl rfl rfl rfl rfl ⟨rfl, rfl, rfl, rfl, rfl⟩ rfl rfl rfl rfl rfl (by kernel_rfl) Try.func6 (by kernel_rfl)
    (of_decide_eq_true (by kernel_rfl)) (by unfold Func.isWrapper; first | (rw [if_pos (by decide +kernel)]; kernel_rfl) | (rw [if_neg (by decide +kernel)]; exact ⟨rfl, rfl⟩))
    (fun os started H enc _ => lifted os started H enc)

theorem proved : Rows.FnWorstCollisionsSaid := over
#print axioms proved
end Go.Proofs.Ytklbdkbaldkkpaa.fnWorstCollisions
