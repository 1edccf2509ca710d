/- The law FnPowerControl holds for every input that the given row lets in: the program's answer is the reference's. No condition of its own. -/
import Derived.Test.YtklbdkbaldkkpaaRows
import Derived.WalkKit
import Derived.ProofKit
import Derived.OpenShut
import Derived.ShutString
import Derived.ChangeOld
import Derived.Below
import Derived.Lib.SmallJoins
import Derived.Test.YtklbdkbaldkkpaaLt
import Derived.Test.YtklbdkbaldkkpaaPs
import Derived.Test.YtklbdkbaldkkpaaPt
namespace Go.Proofs.Ytklbdkbaldkkpaa.fnPowerControl
open Go.ChangeShapes Go.WideShapes Go.ChangeAt Go.RowKit
open Go.ChangeMaps (open_string shut_string)
set_option linter.unusedVariables false

theorem own : ownKnob Try.prog.godebug = none := by kernel_rfl
theorem laidOut : laidOutB Try.prog = true := by kernel_rfl

/-- A slice of integers that came in: nil, or a row of 'cap' cells that hold the numbers zs. -/
def IsRow (k : IntKind) (w : World) (a : Option Addr) (len cap : Nat) (zs : List Int) : Prop :=
  (a = none ∧ len = 0 ∧ cap = 0 ∧ zs = []) ∨
  ∃ x, a = some x ∧ len ≤ cap ∧ cap ≤ maxLen ∧ zs.length = cap ∧ (∀ i, i < zs.length → w.cell? (x.add i) = some (.int k (zs.getD i 0))) ∧ ∀ n ∈ zs, (Lit.int k n).wf = true

theorem stpN_zero (t : Int) (l : List Stn) : l.map (stpN t 0) = l := by rw [show stpN t 0 = id from rfl, List.map_id]
theorem timeR_mapN {l : List Stn} {t : Int} (h : cellB l = true) (ht : inB t 0 40 = true) {N : Nat} (hN : timeT l t l.length = N) : timeR (l.map (stpN t N)) t = 0 := by
  have ht' := inB_iff.1 ht
  rw [timeR_yes (cellB_mapN ht' h N) ht, timeT_full, List.map_map]
  have e : ∀ x ∈ l.map (gapS t ∘ stpN t N), x = 0 := by
    intro x hx
    obtain ⟨s, hs, rfl⟩ := List.mem_map.1 hx
    show gapS t (stpN t N s) = 0
    rw [stpN_gap]
    have := gap_le (t := t) hs
    omega
  have key : ∀ L : List Int, (∀ x ∈ L, x = 0) → L.foldl max 0 = 0 := by
    intro L
    induction L with
    | nil => intro _; rfl
    | cons x L ih =>
      intro h
      rw [List.foldl_cons, h x List.mem_cons_self]
      exact ih fun y hy => h y (List.mem_cons_of_mem _ hy)
  exact key _ e
theorem strOf_there {l : List Stn} {t : Int} (h : cellB l = true) (ht : inB t 0 40 = true) {N : Nat} (hN : (N : Int) = timeT l t l.length) {k : Nat} (hk : k < l.length) :
    (stpN t N l[k]).g = goalS t l[k] ∧ strOf (stpN t N l[k]).nm (stpN t N l[k]).ph (stpN t N l[k]).g (stpN t N l[k]).l = t := by
  have ht' := inB_iff.1 ht
  have hg := stpN_there (List.getElem_mem hk) hN
  refine ⟨hg, ?_⟩
  have hc := cellB_mapN ht' h N
  have hs := (cellB_iff.1 hc).2.1 _ (List.mem_map_of_mem (List.getElem_mem hk))
  rw [strOf_yes hs, hg, (stpN_keep t N l[k]).2.2]
  exact (goal_div ht' (stOk_parts ((cellB_iff.1 h).2.1 _ (List.getElem_mem hk))).2.2.2).2
theorem c8_below {w w' : World} (hb : Below w.heap.size w w') {p0 p1 p2 p3 p4 p5 p6 p7 : Addr} {v0 v1 v2 v3 v4 v5 v6 v7 : Value}
    (h : w.cell? p0 = some v0 ∧ w.cell? p1 = some v1 ∧ w.cell? p2 = some v2 ∧ w.cell? p3 = some v3 ∧ w.cell? p4 = some v4 ∧ w.cell? p5 = some v5 ∧ w.cell? p6 = some v6 ∧ w.cell? p7 = some v7) :
    w'.cell? p0 = some v0 ∧ w'.cell? p1 = some v1 ∧ w'.cell? p2 = some v2 ∧ w'.cell? p3 = some v3 ∧ w'.cell? p4 = some v4 ∧ w'.cell? p5 = some v5 ∧ w'.cell? p6 = some v6 ∧ w'.cell? p7 = some v7 := by
  obtain ⟨h0, h1, h2, h3, h4, h5, h6, h7⟩ := h
  have k : ∀ {p : Addr} {v : Value}, w.cell? p = some v → w'.cell? p = some v := fun {p v} e => (hb.cell (lt_of_cell e)).trans e
  exact ⟨k h0, k h1, k h2, k h3, k h4, k h5, k h6, k h7⟩
theorem goalOf_at {l : List Stn} {t : Int} (h : cellB l = true) (ht : inB t 0 40 = true) {k : Nat} (hk : k < l.length) : goalOf l[k].nm l[k].ph l[k].g l[k].l t = goalS t l[k] := goalOf_yes (cellB_st h hk) ht
set_option maxRecDepth 100000
set_option maxHeartbeats 4000000 in
theorem walk (a0 : Option Addr) (len0 cap0 : Nat) (z0 : List Int) (w : World) (w0 : IsRow .u8 w a0 len0 cap0 z0) :
    Calls Try.prog 7 #[.slice a0 len0 cap0] w fun e w' => e = .returned (.bool true) ∧ Below w.heap.size w w' := by
  by_cases hn : len0 ≤ 1048576
  · have hC := codeW_of_row w0 (by omega)
    clear w0
    go_enter Try.func7, Try.ntmps7
    go_wp2_with fail
    refine (DrawPowerTime_c hC).mono ?_; rintro e w1 ⟨ao, n, c, l, t, rfl, hL1, ht0, ht1, hb1⟩
    clear hC
    by_cases hok : cellB l = true ∧ inB t 0 40 = true
    · obtain ⟨hcell, htb⟩ := hok
      have ht := inB_iff.1 htb
      have hTb := timeT_bd hcell ht l.length
      obtain ⟨N, hN⟩ := Int.eq_ofNat_of_zero_le hTb.1
      have HT := Lib.hid (show timeR l t = (N : Int) by rw [timeR_yes hcell htb, hN])
      have HR := Lib.hid (fun i : Nat => (stepR_yes (t := t) (cellB_mapN ht hcell i) htb))
      have HT2 := Lib.hid (timeR_mapN hcell htb hN)
      have HS := Lib.hid (fun k (hk : k < l.length) => strOf_there hcell htb hN.symm hk)
      have HGO := Lib.hid (fun k (hk : k < l.length) => goalOf_at hcell htb hk)
      have hN1 : N ≤ 1000 := by omega
      clear hcell htb hN hTb
      go_wp2_with fail
      refine (PowerTime_c t hL1.1 hL1.2.1).mono ?_; rintro e w2 ⟨rfl, hb2⟩
      rw [HT.out]
      have hL2 := hL1.below hb2
      have hB2 := hb1.trans (hb2.mono hb1.size)
      clear hL1 hb1 hb2
      go_wp2_with fail
      refine (sPowerTime_c t hL2.1 hL2.2.2.2.2.big).mono ?_; rintro e w3 ⟨rfl, hb3⟩
      rw [HT.out]
      have hL3 := hL2.below hb3
      have hB3 := hB2.trans (hb3.mono hB2.size)
      clear hL2 hB2 hb3
      have HN := Lib.hid hL3.1.1
      have hs := hL3.1.2.1
      have hn4 : n ≤ 4 := by have := HN.out; have := hL3.2.2.2.1; omega
      have hzb := hB3.size
      go_wp2_with fail
      go_loopw [6, 7] (fun v i wr => ∃ (k : Nat) (a2 : Option Addr) (c2 : Nat), k ≤ N ∧ i = .int .i64 k ∧ v = .slice a2 n c2 ∧ RdS wr a2 n (l.map (stpN t k)) ∧ n ≤ c2 ∧ Below w3.heap.size w3 wr) (fun _ i _ => N - (intOf i).toNat)
      case atStart => exact ⟨0, ao, c, Nat.zero_le _, rfl, rfl, by rw [stpN_zero]; exact hL3.1, hL3.2.1, Below.refl _ _⟩
      case round =>
        obtain ⟨k, a2, c2, hk, rfl, rfl, hx, hcap, hb⟩ := hrel
        have hz := hb.size
        by_cases hlt : k < N
        · have HM := Lib.hid (stpN_map t k l)
          go_wp2_with fail
          refine (PowerStep_c t hx hcap).mono ?_; rintro e w4 hret
          rw [HR.out k] at hret; obtain ⟨a5, n5, c5, rfl, hx5, hb5⟩ := hret.some
          have hb6 := hb.trans (hb5.mono hz)
          have hrd := hx5.rd
          rw [← HM.out] at hrd
          have hcap5 := hx5.cap'.1
          obtain rfl : n5 = n := by have h1 := hrd.1; have h2 := HN.out; rw [List.length_map] at h1; omega
          clear hx hb hb5 hx5 hret
          go_wp2_with fail
          go_roundw
          case rel => exact ⟨k + 1, a5, c5, by omega, by go_num, rfl, hrd, hcap5, hb6⟩
          case measure => simp [intOf]; omega
        · obtain rfl : k = N := by omega
          have hLk := hL3.below hb
          have hBk := hB3.trans (hb.mono hzb)
          clear hL3 hB3 hb
          have hzk := hBk.size
          obtain ⟨wo, rfl⟩ : ∃ wo : World, wo = wr := ⟨_, rfl⟩
          go_wp2_with fail
          go_loopw [8] (fun i wq => ∃ j : Nat, j ≤ n ∧ i = .int .i64 j ∧ Below wo.heap.size wo wq) (fun i _ => n - (intOf i).toNat)
          case atStart => exact ⟨0, Nat.zero_le _, rfl, Below.refl _ _⟩
          case round =>
            obtain ⟨j, hj, rfl, hbq⟩ := hrel
            have hzq := hbq.size
            have hxq := hx.below hbq
            have hLq := hLk.below hbq
            by_cases hjt : j < n
            · obtain ⟨b1, o1, rfl, hl, hc0, hc1, hc2, hc3⟩ := hLq.1.at hjt
              obtain ⟨b2, o2, rfl, hl2, hd0, hd1, hd2, hd3⟩ := hxq.at hjt
              obtain ⟨q, hq⟩ : ∃ q, goalS t l[j] = q := ⟨_, rfl⟩
              have hs2 := HS.out j hl
              rw [hq] at hs2
              have hmk : (l.map (stpN t k))[j] = ⟨l[j].nm, l[j].ph, q, l[j].l⟩ := by
                rw [List.getElem_map]
                exact stn_ext (stpN_keep t k l[j]).1 (stpN_keep t k l[j]).2.1 hs2.1 (stpN_keep t k l[j]).2.2
              have HSO := Lib.hid (show strOf l[j].nm l[j].ph q l[j].l = t by
                have := hs2.2
                rw [(stpN_keep t k l[j]).1, (stpN_keep t k l[j]).2.1, hs2.1, (stpN_keep t k l[j]).2.2] at this
                exact this)
              have HQ := Lib.hid (show goalOf l[j].nm l[j].ph l[j].g l[j].l t = q by rw [HGO.out j hl, hq])
              rw [hmk] at hd0 hd1 hd2 hd3
              change _ = some (Value.string l[j].nm) at hd0
              change _ = some (Value.string l[j].ph) at hd1
              change _ = some (Value.int .i64 q) at hd2
              change _ = some (Value.int .i64 l[j].l) at hd3
              have C0 := And.intro hc0 (And.intro hc1 (And.intro hc2 (And.intro hc3 (And.intro hd0 (And.intro hd1 (And.intro hd2 hd3))))))
              clear hmk hs2 hq hxq hLq hx hLk
              go_wp2_with fail
              go_region_held3 (fun w' => w'.cell? ⟨b1, o1 + j * 4, none⟩ = some (.string l[j].nm) ∧ w'.cell? ⟨b1, o1 + j * 4 + 1, none⟩ = some (.string l[j].ph) ∧ w'.cell? ⟨b1, o1 + j * 4 + 2, none⟩ = some (.int .i64 l[j].g) ∧ w'.cell? ⟨b1, o1 + j * 4 + 3, none⟩ = some (.int .i64 l[j].l) ∧ w'.cell? ⟨b2, o2 + j * 4, none⟩ = some (.string l[j].nm) ∧ w'.cell? ⟨b2, o2 + j * 4 + 1, none⟩ = some (.string l[j].ph) ∧ w'.cell? ⟨b2, o2 + j * 4 + 2, none⟩ = some (.int .i64 q) ∧ w'.cell? ⟨b2, o2 + j * 4 + 3, none⟩ = some (.int .i64 l[j].l)) (first | exact C0 | exact C1 | exact C2) (first | (go_at_call 20; refine (PowerGoal_c _ _ _ _ _ _).mono ?_; rintro e w1 ⟨rfl, hb1⟩; rw [HQ.out]; have C1 := c8_below hb1 C0) | (go_at_call 22; refine (StrengthOf_c _ _ _ _ _).mono ?_; rintro e w2 ⟨rfl, hb2⟩; rw [HSO.out]; have C2 := c8_below hb2 C1))
              have hb9 : Below wo.heap.size wo w2 := hbq.trans ((((Below.drew (Below.refl wr.heap.size wr)).trans hb1).trans (hb2.mono hb1.size)).mono hbq.size)
              clear C0 C1 C2 hc0 hc1 hc2 hc3 hd0 hd1 hd2 hd3
              go_wp2_with fail
              go_roundw
              case rel => exact ⟨j + 1, by omega, by go_num, hb9⟩
              case measure => simp [intOf]; omega
            · have hnn : ((n : Int) == (n : Int)) = true := by simp
              have hBq := hBk.trans (hbq.mono hBk.size)
              go_wp2_with fail
              refine (PowerTime_c t hxq hcap).mono ?_; rintro e w6 ⟨rfl, hb6⟩
              rw [HT2.out]
              have hBz := hBq.trans (hb6.mono hBq.size)
              clear hxq hLq hx hLk
              go_wp2_with fail
              go_ret
              exact ⟨rfl, hBz⟩
    · have hno : timeR l t = -1 := by
        by_cases hcell : cellB l = true
        · have h2 : inB t 0 40 = false := by
            rw [Bool.eq_false_iff]; exact fun h => hok ⟨hcell, h⟩
          exact timeR_no2 h2
        · have h1 : cellB l = false := by simpa using hcell
          exact timeR_no1 h1
      have HT := Lib.hid hno
      clear hno hok
      go_wp2_with fail
      refine (PowerTime_c t hL1.1 hL1.2.1).mono ?_; rintro e w2 ⟨rfl, hb2⟩
      rw [HT.out]
      have hL2 := hL1.below hb2
      have hB2 := hb1.trans (hb2.mono hb1.size)
      clear hL1 hb1 hb2
      go_wp2_with fail
      refine (sPowerTime_c t hL2.1 hL2.2.2.2.2.big).mono ?_; rintro e w3 ⟨rfl, hb3⟩
      rw [HT.out]
      have hL3 := hL2.below hb3
      have hB3 := hB2.trans (hb3.mono hB2.size)
      clear hL2 hB2 hb3
      go_wp2_with fail
      refine (sPowerTime_c t hL3.1 hL3.2.2.2.2.big).mono ?_; rintro e w4 ⟨rfl, hb4⟩
      rw [HT.out]
      have hB4 := hB3.trans (hb4.mono hB3.size)
      clear hL3
      go_wp2_with fail
      go_ret
      exact ⟨rfl, hB4⟩
  · have hn' : (1048576 : Int) < (len0 : Int) := by omega
    go_enter Try.func7, Try.ntmps7
    go_wp2_with fail
    go_ret
    exact ⟨rfl, Below.refl _ _⟩

set_option maxRecDepth 100000 in
theorem lifted (os : Os) (started : os.Started) (H : Type) (enc : TypeId × Value → H) :
    ReturnsInHanded {} Try.checked os 7 .any (Rows.fnPowerControlSpec.pre6 enc Try.prog Try.f7 Rows.fnPowerControlRow.domain false) (Rows.fnPowerControlSpec.post enc Try.prog Try.f7 false true false false) := by
  refine returnsInHanded_of_change (C := Try.checked) own started (by kernel_rfl) Try.func7
    (ChangeSpec.witness6 (enc := enc) (C := Try.checked) false ⟨#[], #[.slice none 0 0], []⟩ 8 (by kernel_rfl) (by kernel_rfl) (by kernel_rfl) (by kernel_rfl)) ?_
  intro W base args ds gs before hval0 hW hcnd _
  have hval : ∀ (j : Nat) t v, Try.f7.params[j]? = some t → args[j]? = some v → Value.okWide Try.prog W .any base t v := hval0
  have hW' := hW
  obtain ⟨p, q, hA0, hV, rfl, hfz, hnd⟩ := hW
  have hA : DataW.TrodAll enc Try.prog W 0 (fun _ => true) true Try.f7.params.toList args.toList ds p := hA0
  rw [Try.params7] at hA hval
  obtain ⟨v0, vs0, d0, ds0, p0, q0, hargs, rfl, rfl, h0, r0⟩ := trodAll_cons hA
  obtain ⟨rfl, rfl, rfl⟩ := trodAll_nil r0
  obtain rfl : args = #[v0] := by cases args; simp_all
  obtain ⟨rfl, rfl⟩ := trodVars_none hV
  have k0 := h0
  have lt0 : ∀ x ∈ p0, x.block < W.heap.size := by obtain ⟨m, hm⟩ := k0; exact DataW.trod_lt m _ _ _ hm
  obtain ⟨a0, len0, cap0, rfl⟩ := okWide_slice Try.underlying22 (hval 0 22 v0 rfl rfl)
  obtain ⟨z0, w0⟩ : ∃ zs, IsRow .u8 W a0 len0 cap0 zs := by
    obtain ⟨fuel, hf⟩ := h0
    rcases open_ints Try.underlying22 Try.underlying5 (by kernel_rfl) hf with ⟨hcs, _⟩ | ⟨x, l, c, zs, hcs, _, hl, hm, hz, _, hcell, hwz⟩
    · simp [Value.cells] at hcs
      obtain ⟨rfl, rfl, rfl⟩ := hcs
      exact ⟨[], .inl ⟨rfl, rfl, rfl, rfl⟩⟩
    · simp [Value.cells] at hcs
      obtain ⟨rfl, rfl, rfl⟩ := hcs
      exact ⟨zs, .inr ⟨_, rfl, hl, hm, by simpa using hz, hcell, hwz⟩⟩
  clear hA0 hval0
  refine (walk a0 len0 cap0 z0 W w0).mono fun e W' ⟨he, bel⟩ => ?_
  subst he
  exact ⟨_, rfl, _, _, _, [], _, [], hW', trodAll_mk1 (shut_bool Try.underlying4 _), (trodAll_cons_mk (Below.trod laidOut (by kernel_rfl) (of_decide_eq_true (by kernel_rfl)) k0 bel lt0) trodAll_mk0), rfl, bel.frame _, fun h => by cases h⟩

theorem over : Rows.fnPowerControlRow.holds Try.pinned (OpenSpec.ofChange Rows.fnPowerControlSpec) :=
  OpenClaim.holds_of_wide 7 Try.f7 rfl rfl rfl rfl rfl rfl rfl ⟨rfl, rfl, rfl, rfl, rfl⟩ rfl rfl rfl rfl rfl (by kernel_rfl) Try.func7 (by kernel_rfl)
    (of_decide_eq_true (by kernel_rfl)) (by unfold Func.isWrapper; first | (rw [if_pos (by decide +kernel)]; kernel_rfl) | (rw [if_neg (by decide +kernel)]; exact ⟨rfl, rfl⟩))
    (fun os started H enc _ => lifted os started H enc)

theorem proved : Rows.FnPowerControlSaid := over
#print axioms proved
end Go.Proofs.Ytklbdkbaldkkpaa.fnPowerControl
