/- The law FnGoal holds for every input that the given row lets in: the program's answer is the reference's. No condition of its own. -/
import Derived.Test.YtklbdkbaldkkpaaRows
import Derived.WalkKit
import Derived.ProofKit
import Derived.OpenShut
import Derived.ShutString
import Derived.ChangeOld
import Derived.Below
import Derived.Lib.SmallJoins
import Derived.Test.YtklbdkbaldkkpaaDp
import Derived.Test.YtklbdkbaldkkpaaLt
namespace Go.Proofs.Ytklbdkbaldkkpaa.fnGoal
open Go.ChangeShapes Go.WideShapes Go.ChangeAt Go.RowKit
open Go.ChangeMaps (open_string shut_string)
set_option linter.unusedVariables false

theorem own : ownKnob Try.prog.godebug = none := by kernel_rfl
theorem laidOut : laidOutB Try.prog = true := by kernel_rfl

/-- A slice of integers that came in: nil, or a row of 'cap' cells that hold the numbers zs. -/
def IsRow (k : IntKind) (w : World) (a : Option Addr) (len cap : Nat) (zs : List Int) : Prop :=
  (a = none ∧ len = 0 ∧ cap = 0 ∧ zs = []) ∨
  ∃ x, a = some x ∧ len ≤ cap ∧ cap ≤ maxLen ∧ zs.length = cap ∧ (∀ i, i < zs.length → w.cell? (x.add i) = some (.int k (zs.getD i 0))) ∧ ∀ n ∈ zs, (Lit.int k n).wf = true

theorem k4_below {w w' : World} (hb : Below w.heap.size w w') {p0 p1 p2 p3 : Addr} {v0 v1 v2 v3 : Value}
    (h : w.cell? p0 = some v0 ∧ w.cell? p1 = some v1 ∧ w.cell? p2 = some v2 ∧ w.cell? p3 = some v3) :
    w'.cell? p0 = some v0 ∧ w'.cell? p1 = some v1 ∧ w'.cell? p2 = some v2 ∧ w'.cell? p3 = some v3 := by
  obtain ⟨h0, h1, h2, h3⟩ := h
  have k : ∀ {p : Addr} {v : Value}, w.cell? p = some v → w'.cell? p = some v := fun {p v} e => (hb.cell (lt_of_cell e)).trans e
  exact ⟨k h0, k h1, k h2, k h3⟩
theorem box_k4 {w : World} {b : Nat} {x0 x1 x2 x3 : Value} {t : TypeId} (h : Box w b #[x0, x1, x2, x3] t) : w.cell? ⟨b, 0, none⟩ = some x0 ∧ w.cell? ⟨b, 1, none⟩ = some x1 ∧ w.cell? ⟨b, 2, none⟩ = some x2 ∧ w.cell? ⟨b, 3, none⟩ = some x3 :=
  ⟨h.cell rfl, h.cell rfl, h.cell rfl, h.cell rfl⟩
theorem str_at {nm ph : ByteArray} {g l q t : Int} (hst : stB nm ph g l = true) (hq : 0 ≤ q ∧ q ≤ 1000) (e : q / l = t) : strOf nm ph q l = t := by
  have hs := stOk_parts (s := ⟨nm, ph, g, l⟩) hst
  rw [strOf_yes (stOk_mk (s := ⟨nm, ph, q, l⟩) hs.1 hs.2.1 hq hs.2.2.2), e]
theorem div_pred {t l : Int} (ht : 1 ≤ t) (hl : 1 ≤ l) : (t * l - 1) / l = t - 1 := by
  have e : t * l - 1 = (l - 1) + (t - 1) * l := by rw [Int.sub_mul]; omega
  rw [e, Int.add_mul_ediv_right _ _ (by omega), Int.ediv_eq_zero_of_lt (by omega) (by omega)]
  omega
set_option maxRecDepth 100000
set_option maxHeartbeats 4000000 in
theorem walk (a0 : Option Addr) (len0 cap0 : Nat) (z0 : List Int) (w : World) (w0 : IsRow .u8 w a0 len0 cap0 z0) :
    Calls Try.prog 4 #[.slice a0 len0 cap0] w fun e w' => e = .returned (.bool true) ∧ Below w.heap.size w w' := by
  by_cases hn : len0 ≤ 1048576
  · have hC := codeW_of_row w0 (by omega)
    clear w0
    go_enter Try.func4, Try.ntmps4
    go_wp2_with fail
    refine (DrawPowerGoal_c hC).mono ?_; rintro e w1 ⟨⟨nm, ph, g, l⟩, t, rfl, hss, ht0, ht1, hb1⟩
    clear hC
    have hnm : nm.size ≤ 1000 := hss.1
    have hph : ph.size ≤ 1000 := hss.2
    obtain ⟨q, hq⟩ : ∃ q, goalOf nm ph g l t = q := ⟨_, rfl⟩
    have HQ := Lib.hid hq
    have HK := Lib.hid (show ∃ k, strOf nm ph g l = k from ⟨_, rfl⟩)
    obtain ⟨k, hk⟩ := HK.out
    have HKK := Lib.hid hk
    clear HK hss
    have hBx := Box.new w1 #[.string nm, .string ph, .int .i64 g, .int .i64 l] 37
    have hbl : Below w1.heap.size w1 (w1.alloc (.cells #[.string nm, .string ph, .int .i64 g, .int .i64 l] 37)) := (Below.refl _ _).alloc (Nat.le_refl _) _
    by_cases hok : stB nm ph g l = true ∧ inB t 0 40 = true
    · obtain ⟨hst, htb⟩ := hok
      have ht := inB_iff.1 htb
      obtain ⟨hg, hl⟩ := stB_ranges hst
      have hgd := goal_div (s := ⟨nm, ph, g, l⟩) ht hl
      have hqv : q = t * l := by rw [← hq, goalOf_yes hst htb]; exact hgd.1
      have hqb : 0 ≤ q ∧ q ≤ 800 := by
        have := goalS_bd (s := ⟨nm, ph, g, l⟩) ht hl
        rw [hgd.1] at this; rw [hqv]; exact this
      have hkv : k = g / l := by rw [← hk, strOf_yes hst]
      have hk1 : 0 ≤ k ∧ k ≤ 1000 := by
        rw [hkv]
        exact ⟨Int.ediv_nonneg hg.1 (by omega), Int.le_trans (Int.ediv_le_self _ hg.1) hg.2⟩
      have hm1 : k * l ≤ g := by rw [hkv]; exact Int.ediv_mul_le _ (by omega)
      have hm2 : g < (k + 1) * l := by rw [hkv]; exact Int.lt_ediv_add_one_mul_self _ (by omega)
      have HX := Lib.hid (str_at hst (q := q) (t := t) (by omega) (by rw [hqv]; exact Int.mul_ediv_cancel _ (by omega)))
      have HY := Lib.hid (fun h : 1 ≤ t => str_at hst (q := q - 1) (t := t - 1) (by rw [hqv]; have : 1 * 1 ≤ t * l := Int.mul_le_mul h hl.1 (by omega) (by omega); rw [hqv] at hqb; omega) (by rw [hqv]; exact div_pred h hl.1))
      have HQ0 := Lib.hid (fun h : t = 0 => show q = 0 by rw [hqv, h]; simp)
      have HQ1 := Lib.hid (fun h : 1 ≤ t => show 1 ≤ q by rw [hqv]; have : 1 * 1 ≤ t * l := Int.mul_le_mul h hl.1 (by omega) (by omega); omega)
      have hkl : 0 ≤ (k + 1) * l ∧ (k + 1) * l ≤ 1001 * 20 := ⟨Int.mul_nonneg (by omega) (by omega), Int.mul_le_mul (by omega) hl.2 (by omega) (by omega)⟩
      have HW := Lib.hid (show wrap64 ((k + 1) * l) = (k + 1) * l from IntWalk.wrap64_in _ (by omega))
      have hkl0 : 0 ≤ k * l := Int.mul_nonneg (by omega) (by omega)
      have HW0 := Lib.hid (show wrap64 (k * l) = k * l from IntWalk.wrap64_in _ (by omega))
      clear hkl0
      clear hkl
      have hqn : ¬ q < 0 := by omega
      have hqn' : decide (q < 0) = false := by simp; omega
      have HM1 := Lib.hid hm1
      have HM2 := Lib.hid hm2
      clear hst htb hgd hqv hkv hq hk hm1 hm2
      go_wp2_with fail
      refine (PowerGoal_c nm ph g l t _).mono ?_; rintro e w2 ⟨rfl, hb2⟩
      rw [HQ.out]
      have hBx2 := hBx.below hb2 hBx.lt
      have hB2 := hb1.trans ((hbl.trans (hb2.mono hbl.size)).mono hb1.size)
      have C0 := box_k4 hBx2
      obtain ⟨c0, c1, c2, c3⟩ := C0
      have C0 := box_k4 hBx2
      clear hBx hbl hb1 hb2
      go_wp2_with fail
      go_region_held3 (fun w' => w'.cell? ⟨w1.heap.size, 0, none⟩ = some (.string nm) ∧ w'.cell? ⟨w1.heap.size, 1, none⟩ = some (.string ph) ∧ w'.cell? ⟨w1.heap.size, 2, none⟩ = some (.int .i64 g) ∧ w'.cell? ⟨w1.heap.size, 3, none⟩ = some (.int .i64 l)) (first | exact C0 | exact C1 | exact C2 | exact C3) (first | (go_at_call 21; refine (sPowerGoal_c nm ph g l t _ (by omega) (by omega)).mono ?_; rintro e w3 ⟨rfl, hb3⟩; rw [HQ.out]; have C1 := k4_below hb3 C0) | (go_at_call 22; refine (StrengthOf_c nm ph g l _).mono ?_; rintro e w4 ⟨rfl, hb4⟩; rw [HKK.out]; have C2 := k4_below hb4 C1) | (go_at_call 23; refine (sStrengthOf_c nm ph g l _ (by omega) (by omega)).mono ?_; rintro e w5 ⟨rfl, hb5⟩; rw [HKK.out]; have C3 := k4_below hb5 C2))
      by_cases ht3 : t = 0
      · obtain rfl : q = 0 := HQ0.out ht3
        obtain rfl : t = 0 := ht3
        have hBx5 : Box w5 w1.heap.size #[.string nm, .string ph, .int .i64 g, .int .i64 l] 37 := ((hBx2.below (Below.drew (Below.refl _ _)) hBx2.lt).below hb3 (by simpa using hBx2.lt)).below hb4 (by have := hBx2.lt; have := hb3.size; simp at this; omega) |>.below hb5 (by have := hBx2.lt; have := hb3.size; have := hb4.size; simp at *; omega)
        have hB5 := hB2.trans (((((Below.drew (Below.refl w2.heap.size w2)).trans hb3).trans (hb4.mono hb3.size)).trans (hb5.mono (Nat.le_trans hb3.size hb4.size))).mono hB2.size)
        have hz5 : w1.heap.size < w5.heap.size := hBx5.lt
        obtain ⟨c0, c1, c2, c3⟩ := C3
        have hX := Box.new w5 #[.string nm, .string ph, .int .i64 0, .int .i64 l] 37
        have hY := Box.new (w5.alloc (.cells #[.string nm, .string ph, .int .i64 0, .int .i64 l] 37)) #[.string nm, .string ph, .int .i64 0, .int .i64 l] 37
        have hX6 := hX.alloc (.cells #[.string nm, .string ph, .int .i64 0, .int .i64 l] 37)
        have hS6 := (hBx5.alloc (.cells #[.string nm, .string ph, .int .i64 0, .int .i64 l] 37)).alloc (.cells #[.string nm, .string ph, .int .i64 0, .int .i64 l] 37)
        have hb6 : Below w5.heap.size w5 ((w5.alloc (.cells #[.string nm, .string ph, .int .i64 0, .int .i64 l] 37)).alloc (.cells #[.string nm, .string ph, .int .i64 0, .int .i64 l] 37)) := ((Below.refl _ _).alloc (Nat.le_refl _) _).alloc (by simp) _
        have hB6 := hB5.trans (hb6.mono hB5.size)
        have hhb : (w5.alloc (.cells #[.string nm, .string ph, .int .i64 0, .int .i64 l] 37)).heap.size = w5.heap.size + 1 := by simp
        rw [hhb] at hY
        clear C0 C1 C2 hBx2 hBx5 hB2 hb3 hb4 hB5 hX hb6 hhb
        go_wp2_with fail
        refine (StrengthOf_c nm ph g l _).mono ?_; rintro e w7 ⟨rfl, hb7⟩
        rw [HKK.out]
        have hS7 := hS6.below hb7 hS6.lt
        have hX7 := hX6.below hb7 hX6.lt
        have hY7 := hY.below hb7 hY.lt
        have hB7 := hB6.trans (hb7.mono hB6.size)
        obtain ⟨x0, x1, x2, x3⟩ := box_k4 hX7
        clear hS6 hX6 hY hB6 hb7 c0 c1 c2 c3
        go_wp2_with fail
        refine (StrengthOf_c nm ph 0 l _).mono ?_; rintro e w8 ⟨rfl, hb8⟩
        rw [HX.out]
        have hS8 := hS7.below hb8 hS7.lt
        have hY8 := hY7.below hb8 hY7.lt
        have hB8 := hB7.trans (hb8.mono hB7.size)
        obtain ⟨s0, s1, s2, s3⟩ := box_k4 hS8
        clear x0 x1 x2 x3 hS7 hX7 hY7 hB7 hb8
        have hm1 := HM1.out
        have hm2 := HM2.out
        have hw := HW.out
        have hw0 := HW0.out
        go_wp2_with fail
        go_ret
        exact ⟨rfl, hB8⟩
      · have ht4 : 1 ≤ t := by omega
        have hte : (t == 0) = false := by simpa using ht3
        have hq1 := HQ1.out ht4
        have hq2 : 0 ≤ q - 1 := by omega
        clear ht3
        have hBx5 : Box w5 w1.heap.size #[.string nm, .string ph, .int .i64 g, .int .i64 l] 37 := ((hBx2.below (Below.drew (Below.refl _ _)) hBx2.lt).below hb3 (by simpa using hBx2.lt)).below hb4 (by have := hBx2.lt; have := hb3.size; simp at this; omega) |>.below hb5 (by have := hBx2.lt; have := hb3.size; have := hb4.size; simp at *; omega)
        have hB5 := hB2.trans (((((Below.drew (Below.refl w2.heap.size w2)).trans hb3).trans (hb4.mono hb3.size)).trans (hb5.mono (Nat.le_trans hb3.size hb4.size))).mono hB2.size)
        have hz5 : w1.heap.size < w5.heap.size := hBx5.lt
        obtain ⟨c0, c1, c2, c3⟩ := C3
        have hX := Box.new w5 #[.string nm, .string ph, .int .i64 q, .int .i64 l] 37
        have hY := Box.new (w5.alloc (.cells #[.string nm, .string ph, .int .i64 q, .int .i64 l] 37)) #[.string nm, .string ph, .int .i64 (q - 1), .int .i64 l] 37
        have hX6 := hX.alloc (.cells #[.string nm, .string ph, .int .i64 (q - 1), .int .i64 l] 37)
        have hS6 := (hBx5.alloc (.cells #[.string nm, .string ph, .int .i64 q, .int .i64 l] 37)).alloc (.cells #[.string nm, .string ph, .int .i64 (q - 1), .int .i64 l] 37)
        have hb6 : Below w5.heap.size w5 ((w5.alloc (.cells #[.string nm, .string ph, .int .i64 q, .int .i64 l] 37)).alloc (.cells #[.string nm, .string ph, .int .i64 (q - 1), .int .i64 l] 37)) := ((Below.refl _ _).alloc (Nat.le_refl _) _).alloc (by simp) _
        have hB6 := hB5.trans (hb6.mono hB5.size)
        have hhb : (w5.alloc (.cells #[.string nm, .string ph, .int .i64 q, .int .i64 l] 37)).heap.size = w5.heap.size + 1 := by simp
        rw [hhb] at hY
        clear C0 C1 C2 hBx2 hBx5 hB2 hb3 hb4 hB5 hX hb6 hhb
        go_wp2_with fail
        refine (StrengthOf_c nm ph g l _).mono ?_; rintro e w7 ⟨rfl, hb7⟩
        rw [HKK.out]
        have hS7 := hS6.below hb7 hS6.lt
        have hX7 := hX6.below hb7 hX6.lt
        have hY7 := hY.below hb7 hY.lt
        have hB7 := hB6.trans (hb7.mono hB6.size)
        obtain ⟨x0, x1, x2, x3⟩ := box_k4 hX7
        clear hS6 hX6 hY hB6 hb7 c0 c1 c2 c3
        go_wp2_with fail
        refine (StrengthOf_c nm ph q l _).mono ?_; rintro e w8 ⟨rfl, hb8⟩
        rw [HX.out]
        have hS8 := hS7.below hb8 hS7.lt
        have hY8 := hY7.below hb8 hY7.lt
        have hB8 := hB7.trans (hb8.mono hB7.size)
        obtain ⟨s0, s1, s2, s3⟩ := box_k4 hS8
        clear x0 x1 x2 x3 hS7 hX7 hY7 hB7 hb8
        obtain ⟨y0, y1, y2, y3⟩ := box_k4 hY8
        go_wp2_with fail
        refine (StrengthOf_c nm ph (q - 1) l _).mono ?_; rintro e w9 ⟨rfl, hb9⟩
        rw [HY.out (by omega)]
        have hS9 := hS8.below hb9 hS8.lt
        have hB9 := hB8.trans (hb9.mono hB8.size)
        clear s0 s1 s2 s3 y0 y1 y2 y3
        obtain ⟨s0, s1, s2, s3⟩ := box_k4 hS9
        have hm1 := HM1.out
        have hm2 := HM2.out
        have hw := HW.out
        have hw0 := HW0.out
        clear hS8 hY8 hB8 hb9
        go_wp2_with fail
        go_ret
        exact ⟨rfl, hB9⟩
    · have hq1 : goalOf nm ph g l t = -1 := by
        by_cases hst : stB nm ph g l = true
        · exact goalOf_no2 (by rw [Bool.eq_false_iff]; exact fun h => hok ⟨hst, h⟩)
        · exact goalOf_no1 (by simpa using hst)
      obtain rfl : q = -1 := by rw [← hq]; exact hq1
      have hneg : decide ((-1 : Int) < 0) = true := by decide
      clear hq hk hok hq1
      go_wp2_with fail
      refine (PowerGoal_c nm ph g l t _).mono ?_; rintro e w2 ⟨rfl, hb2⟩
      rw [HQ.out]
      have hBx2 := hBx.below hb2 hBx.lt
      have hB2 := hb1.trans ((hbl.trans (hb2.mono hbl.size)).mono hb1.size)
      have C0 := box_k4 hBx2
      clear hBx hbl hb1 hb2
      go_wp2_with fail
      obtain ⟨c0, c1, c2, c3⟩ := box_k4 hBx2
      go_region_with ((go_at_call 21; refine (sPowerGoal_c nm ph g l t _ (by omega) (by omega)).mono ?_; rintro e w3 ⟨rfl, hb3⟩; rw [HQ.out]; have C1 := k4_below hb3 C0))
      all_goals
        have hB3 := hB2.trans (((Below.drew (Below.refl w2.heap.size w2)).trans hb3).mono hB2.size)
        clear C0 hb3 hB2
        go_wp2_with fail
        go_region_held3 (fun w' => w'.cell? ⟨w1.heap.size, 0, none⟩ = some (.string nm) ∧ w'.cell? ⟨w1.heap.size, 1, none⟩ = some (.string ph) ∧ w'.cell? ⟨w1.heap.size, 2, none⟩ = some (.int .i64 g) ∧ w'.cell? ⟨w1.heap.size, 3, none⟩ = some (.int .i64 l)) (first | exact C1 | exact C4 | exact C5 | exact C6) (first | (go_at_call 21; refine (sPowerGoal_c nm ph g l t _ (by omega) (by omega)).mono ?_; rintro e w4 ⟨rfl, hb4⟩; rw [HQ.out]; have C4 := k4_below hb4 C1) | (go_at_call 22; refine (StrengthOf_c nm ph g l _).mono ?_; rintro e w5 ⟨rfl, hb5⟩; rw [HKK.out]; have C5 := k4_below hb5 C4) | (go_at_call 23; refine (sStrengthOf_c nm ph g l _ (by omega) (by omega)).mono ?_; rintro e w6 ⟨rfl, hb6⟩; rw [HKK.out]; have C6 := k4_below hb6 C5))
        have hB6 := hB3.trans (((((Below.drew (Below.refl w3.heap.size w3)).trans hb4).trans (hb5.mono hb4.size)).trans (hb6.mono (Nat.le_trans hb4.size hb5.size))).mono hB3.size)
        go_wp2_with fail
        go_ret
        exact ⟨rfl, hB6⟩
  · have hn' : (1048576 : Int) < (len0 : Int) := by omega
    go_enter Try.func4, Try.ntmps4
    go_wp2_with fail
    go_ret
    exact ⟨rfl, Below.refl _ _⟩

set_option maxRecDepth 100000 in
theorem lifted (os : Os) (started : os.Started) (H : Type) (enc : TypeId × Value → H) :
    ReturnsInHanded {} Try.checked os 4 .any (Rows.fnGoalSpec.pre6 enc Try.prog Try.f4 Rows.fnGoalRow.domain false) (Rows.fnGoalSpec.post enc Try.prog Try.f4 false true false false) := by
  refine returnsInHanded_of_change (C := Try.checked) own started (by kernel_rfl) Try.func4
    (ChangeSpec.witness6 (enc := enc) (C := Try.checked) false ⟨#[], #[.slice none 0 0], []⟩ 8 (by kernel_rfl) (by kernel_rfl) (by kernel_rfl) (by kernel_rfl)) ?_
  intro W base args ds gs before hval0 hW hcnd _
  have hval : ∀ (j : Nat) t v, Try.f4.params[j]? = some t → args[j]? = some v → Value.okWide Try.prog W .any base t v := hval0
  have hW' := hW
  obtain ⟨p, q, hA0, hV, rfl, hfz, hnd⟩ := hW
  have hA : DataW.TrodAll enc Try.prog W 0 (fun _ => true) true Try.f4.params.toList args.toList ds p := hA0
  rw [Try.params4] at hA hval
  obtain ⟨v0, vs0, d0, ds0, p0, q0, hargs, rfl, rfl, h0, r0⟩ := trodAll_cons hA
  obtain ⟨rfl, rfl, rfl⟩ := trodAll_nil r0
  obtain rfl : args = #[v0] := by cases args; simp_all
  obtain ⟨rfl, rfl⟩ := trodVars_none hV
  have k0 := h0
  have lt0 : ∀ x ∈ p0, x.block < W.heap.size := by obtain ⟨m, hm⟩ := k0; exact DataW.trod_lt m _ _ _ hm
  obtain ⟨a0, len0, cap0, rfl⟩ := okWide_slice Try.underlying22 (hval 0 22 v0 rfl rfl)
  obtain ⟨z0, w0⟩ : ∃ zs, IsRow .u8 W a0 len0 cap0 zs := by
    obtain ⟨fuel, hf⟩ := h0
    rcases open_ints Try.underlying22 Try.underlying5 (by kernel_rfl) hf with ⟨hcs, _⟩ | ⟨x, l, c, zs, hcs, _, hl, hm, hz, _, hcell, hwz⟩
    · simp [Value.cells] at hcs
      obtain ⟨rfl, rfl, rfl⟩ := hcs
      exact ⟨[], .inl ⟨rfl, rfl, rfl, rfl⟩⟩
    · simp [Value.cells] at hcs
      obtain ⟨rfl, rfl, rfl⟩ := hcs
      exact ⟨zs, .inr ⟨_, rfl, hl, hm, by simpa using hz, hcell, hwz⟩⟩
  clear hA0 hval0
  refine (walk a0 len0 cap0 z0 W w0).mono fun e W' ⟨he, bel⟩ => ?_
  subst he
  exact ⟨_, rfl, _, _, _, [], _, [], hW', trodAll_mk1 (shut_bool Try.underlying4 _), (trodAll_cons_mk (Below.trod laidOut (by kernel_rfl) (of_decide_eq_true (by kernel_rfl)) k0 bel lt0) trodAll_mk0), rfl, bel.frame _, fun h => by cases h⟩

theorem over : Rows.fnGoalRow.holds Try.pinned (OpenSpec.ofChange Rows.fnGoalSpec) :=
  OpenClaim.holds_of_wide 4 Try.f4 rfl rfl rfl rfl rfl rfl rfl ⟨rfl, rfl, rfl, rfl, rfl⟩ rfl rfl rfl rfl rfl (by kernel_rfl) Try.func4 (by kernel_rfl)
    (of_decide_eq_true (by kernel_rfl)) (by unfold Func.isWrapper; first | (rw [if_pos (by decide +kernel)]; kernel_rfl) | (rw [if_neg (by decide +kernel)]; exact ⟨rfl, rfl⟩))
    (fun os started H enc _ => lifted os started H enc)

theorem proved : Rows.FnGoalSaid := over
#print axioms proved
end Go.Proofs.Ytklbdkbaldkkpaa.fnGoal
