/- The text of a cell (FormatCell of the program and of the reference). Conditions: lengths; the table of powers of ten as the library lays it. -/
import Derived.Test.YtdedcablhahbnaaDoorTi
import Derived.Test.YtdedcablhahbnaaDoorTj
import Derived.Test.YtdedcablhahbnaaDoorCy
import Derived.Deep.RegionHeld3
namespace Go.Proofs.YtdedcablhahbnaaDoor
open Go.RowKit

/-- The library's table of powers of ten. -/
def TabW (w : World) : Prop := Lib.TabIs Tryd.prog w "internal/strconv.uint64pow10" .u64 Lib.pow10Tab
theorem TabW.below {w w' : World} (h : TabW w) (hb : Below w.heap.size w w') : TabW w' := by
  have hgn : Tryd.prog.globalNamed "internal/strconv.uint64pow10" = some 0 := by kernel_rfl
  unfold TabW Lib.TabIs World.var? at h ⊢
  rw [hgn] at h ⊢
  simp only [Option.bind_some] at h ⊢
  have hlt : 0 < w.heap.size := by
    rcases Nat.lt_or_ge 0 w.heap.size with h' | h'
    · exact h'
    · rw [Array.getElem?_eq_none h'] at h; cases h
  rw [hb.block _ hlt]
  exact h

theorem below_grow (w : World) (k : Nat) (os : Array Obj) : Below w.heap.size w (Sort.grow (w.drewN k) os) :=
  ⟨rfl, rfl, rfl, by simp [Sort.grow], fun j hj => by simp only [Sort.grow]; rw [Array.getElem?_append_left (by exact hj)]; rfl⟩

theorem Itoa_c (n : Int) (w : World) (h0 : -9223372036854775808 ≤ n) (h1 : n ≤ 9223372036854775807) (h : TabW w) : Calls Tryd.prog 15 #[.int .i64 n] w fun e w' => e = .returned (.string (decT n)) ∧ Below w.heap.size w w' := by
  refine (Tryd.strconv_Itoa n h0 h1 w h).mono ?_
  rintro e w' ⟨rfl, k, os, rfl⟩
  exact ⟨rfl, below_grow w k os⟩

def I64 (n : Int) : Prop := -9223372036854775808 ≤ n ∧ n ≤ 9223372036854775807

theorem Itoa_i (n : Int) (w : World) (h0 : I64 n) (h : TabW w) : Calls Tryd.prog 15 #[.int .i64 n] w fun e w' => e = .returned (.string (decT n)) ∧ Below w.heap.size w w' := Itoa_c n w h0.1 h0.2 h

theorem decT_size {n : Int} (h0 : -9223372036854775808 ≤ n) (h1 : n ≤ 9223372036854775807) : (decT n).size ≤ 21 := by
  unfold decT; rw [txt_size]; exact Lib.itoa_length_le n h0 h1
theorem bts_app (a b : ByteArray) : bts (a ++ b) = bts a ++ bts b := by simp [bts]
theorem stT_is (s : Stn) : s.nm ++ ⟨#[58]⟩ ++ dashT s.ph ++ ⟨#[58]⟩ ++ decT s.g ++ ⟨#[58]⟩ ++ decT s.l = stT s := by
  apply bts_inj
  simp only [bts_app]
  unfold stT joinT stF
  rw [bts_txt]
  simp only [List.map_cons, List.map_nil]
  rw [join_two, join_two, join_two, Lib.join_one]
  have : bts (⟨#[58]⟩ : ByteArray) = [58] := rfl
  rw [this]
  simp only [List.append_assoc]
theorem dash_sz (s : ByteArray) : (dashT s).size ≤ s.size + 1 := by
  unfold dashT; split
  · show 1 ≤ _; omega
  · omega
theorem name_sz {s : ByteArray} (h : nameB s = true) : s.size ≤ 8 := by
  unfold nameB at h; rw [Bool.and_eq_true] at h; have := (inB_iff.1 h.1).2; omega
theorem cell_far1 {w : World} {b b0 o o0 : Nat} {v : Value} (hne : b ≠ b0) (h : w.cell? ⟨b, o, none⟩ = some v) (x : Value) : (w.setCell ⟨b0, o0, none⟩ x).cell? ⟨b, o, none⟩ = some v := by
  simp only [World.cell?] at h ⊢
  rw [Below.heap_setCell _ _ _ _ hne]
  exact h
theorem four_far1 {w : World} {b b0 o0 : Nat} {v0 v1 v2 v3 : Value} (hne : b ≠ b0) (h : w.cell? ⟨b, 0, none⟩ = some v0 ∧ w.cell? ⟨b, 1, none⟩ = some v1 ∧ w.cell? ⟨b, 2, none⟩ = some v2 ∧ w.cell? ⟨b, 3, none⟩ = some v3) (x : Value) :
    (w.setCell ⟨b0, o0, none⟩ x).cell? ⟨b, 0, none⟩ = some v0 ∧ (w.setCell ⟨b0, o0, none⟩ x).cell? ⟨b, 1, none⟩ = some v1 ∧ (w.setCell ⟨b0, o0, none⟩ x).cell? ⟨b, 2, none⟩ = some v2 ∧ (w.setCell ⟨b0, o0, none⟩ x).cell? ⟨b, 3, none⟩ = some v3 :=
  ⟨cell_far1 hne h.1 x, cell_far1 hne h.2.1 x, cell_far1 hne h.2.2.1 x, cell_far1 hne h.2.2.2 x⟩
theorem four_at {w : World} {b : Nat} {x y : ByteArray} {g l : Int} {t : TypeId} (h : Box w b #[.string x, .string y, .int .i64 g, .int .i64 l] t) : w.cell? ⟨b, 0, none⟩ = some (.string x) ∧ w.cell? ⟨b, 1, none⟩ = some (.string y) ∧ w.cell? ⟨b, 2, none⟩ = some (.int .i64 g) ∧ w.cell? ⟨b, 3, none⟩ = some (.int .i64 l) :=
  ⟨h.cell rfl, h.cell rfl, h.cell rfl, h.cell rfl⟩
theorem fmt_no {l : List Stn} (h : cellB l = false) : fmtT l = ⟨#[]⟩ := by unfold fmtT; rw [h]; rfl
theorem fmt_yes {l : List Stn} (h : cellB l = true) : fmtT l = dashT (joinT 59 (l.map stT)) := by unfold fmtT; rw [if_pos h]
theorem stT_size {s : Stn} (h : stOk s) : (stT s).size ≤ 60 := by
  obtain ⟨h1, h2, h3, h4⟩ := stB_parts h
  rw [← stT_is]
  simp only [ByteArray.size_append]
  have a := name_sz h1
  have b := dash_sz s.ph
  have c := pathB_size h2
  have d := decT_size (n := s.g) (by omega) (by omega)
  have e := decT_size (n := s.l) (by omega) (by omega)
  have f : (⟨#[58]⟩ : ByteArray).size = 1 := rfl
  omega
theorem join_len {M : Nat} {s : Byts} (hs : s.length = 1) : ∀ {ps : List Byts}, (∀ p ∈ ps, p.length ≤ M) → (Lib.join ps s).length ≤ ps.length * (M + 1)
  | [], _ => by rw [Lib.join_nil]; simp
  | [p], h => by rw [Lib.join_one]; have := h p (by simp); simp; omega
  | p :: q :: r, h => by
    rw [join_two, List.length_append, List.length_append, hs]
    have h1 := h p (by simp)
    have h2 := join_len hs (ps := q :: r) (fun x hx => h x (by simp [hx]))
    rw [List.length_cons, Nat.succ_mul]; omega

set_option maxRecDepth 100000 in
set_option maxHeartbeats 3200000 in
theorem FormatCell_c {ao : Option Addr} {n c : Nat} {l : List Stn} {w : World} (h : RdS w ao n l) (hcap : n ≤ c) (htab : TabW w) :
    Calls Tryd.prog 5 #[.slice ao n c] w fun e w' => e = .returned (.string (fmtT l)) ∧ Below w.heap.size w w' := by
  have hs := h.2.1
  have HN := Lib.hid h.1
  by_cases hcb : cellB l = true
  · have HC := Lib.hid hcb
    have HFY := Lib.hid (fmt_yes hcb)
    have hn8 : n ≤ 8 := by have := (cellB_iff.1 hcb).1; have := HN.out; omega
    have HML := Lib.hid (show (l.map stT).length = n by rw [List.length_map]; exact HN.out.symm)
    clear hcb
    go_enter Tryd.func5, Tryd.ntmps5
    go_wp2_with fail
    refine (CellValid_c h hcap).mono ?_; rintro e w1 ⟨rfl, hb1⟩
    rw [HC.out]
    have h1 := h.below hb1
    have ht1 := htab.below hb1
    clear h htab
    go_wp2_with (at_make; refine wp_makeF 35 9 16 ByteArray.empty Tryd.underlying35 info_str rfl (by decide) w1 rfl _ _ rfl .i64 .i64 n rfl rfl (by omega) ?_; intro w2 hownF hbF)
    have hF := FillF.start (L := l.map stT) hownF HML.out (by simp)
    have hb2 := hbF
    clear hownF
    obtain ⟨g, hg⟩ : ∃ g, g = w1.heap.size := ⟨_, rfl⟩
    rw [← hg] at hF hb2 hbF ⊢
    have HG := Lib.hid hg
    clear hg
    go_wp2_with fail
    go_loopw [14] (fun i wr => ∃ k : Nat, k ≤ n ∧ i = .int .i64 k ∧ FillT wr g g n (l.map stT) (List.replicate n ByteArray.empty) k ∧ Below g w1 wr) (fun i _ => n - (intOf i).toNat)
    case atStart => exact ⟨0, Nat.zero_le _, rfl, hF, hb2⟩
    case round =>
      clear hF hb2 hbF
      obtain ⟨k, hk, rfl, hF, hb⟩ := hrel
      obtain ⟨wo, hwo⟩ : ∃ wo : World, wo = wr := ⟨_, rfl⟩
      subst hwo
      have hgz := hF.lt
      have hbG : Below w1.heap.size w1 wo := by rw [← HG.out]; exact hb
      have hS := h1.below hbG
      have hT := ht1.below hbG
      by_cases hlt : k < n
      · obtain ⟨bk, off, rfl, hl, s0, s1, s2, s3⟩ := hS.at hlt
        have hst := cellB_st HC.out hl
        obtain ⟨p1, p2, p3, p4⟩ := stB_parts hst
        have HS := Lib.hid (stT_is l[k])
        have hnz := name_sz p1
        have hdz : (dashT l[k].ph).size ≤ 7 := by have := dash_sz l[k].ph; have := pathB_size p2; omega
        have hz1 := decT_size (n := l[k].g) (by omega) (by omega)
        have hz2 := decT_size (n := l[k].l) (by omega) (by omega)
        have hI1 : I64 l[k].g := ⟨by omega, by omega⟩
        have hI2 : I64 l[k].l := ⟨by omega, by omega⟩
        have n1 : ¬ l[k].nm.size + 1 > 9223372036854775807 := by omega
        have n1' : ¬ 9223372036854775807 < l[k].nm.size + 1 := by omega
        have n1'' : ¬ 9223372036854775807 ≤ l[k].nm.size := by omega
        have n2 : ¬ l[k].nm.size + 1 + (dashT l[k].ph).size > 9223372036854775807 := by omega
        have n2' : ¬ 9223372036854775807 < l[k].nm.size + 1 + (dashT l[k].ph).size := by omega
        have n3 : ¬ l[k].nm.size + 1 + (dashT l[k].ph).size + 1 > 9223372036854775807 := by omega
        have n3' : ¬ 9223372036854775807 < l[k].nm.size + 1 + (dashT l[k].ph).size + 1 := by omega
        have n3'' : ¬ 9223372036854775807 ≤ l[k].nm.size + 1 + (dashT l[k].ph).size := by omega
        have n4 : ¬ l[k].nm.size + 1 + (dashT l[k].ph).size + 1 + (decT l[k].g).size > 9223372036854775807 := by omega
        have n4' : ¬ 9223372036854775807 < l[k].nm.size + 1 + (dashT l[k].ph).size + 1 + (decT l[k].g).size := by omega
        have n5 : ¬ l[k].nm.size + 1 + (dashT l[k].ph).size + 1 + (decT l[k].g).size + 1 > 9223372036854775807 := by omega
        have n5' : ¬ 9223372036854775807 < l[k].nm.size + 1 + (dashT l[k].ph).size + 1 + (decT l[k].g).size + 1 := by omega
        have n5'' : ¬ 9223372036854775807 ≤ l[k].nm.size + 1 + (dashT l[k].ph).size + 1 + (decT l[k].g).size := by omega
        have n6 : ¬ l[k].nm.size + 1 + (dashT l[k].ph).size + 1 + (decT l[k].g).size + 1 + (decT l[k].l).size > 9223372036854775807 := by omega
        have n6' : ¬ 9223372036854775807 < l[k].nm.size + 1 + (dashT l[k].ph).size + 1 + (decT l[k].g).size + 1 + (decT l[k].l).size := by omega
        have HGT := Lib.hid (show ∀ hl' : k < (l.map stT).length, (l.map stT)[k]'hl' = stT l[k] from fun hl' => List.getElem_map _)
        generalize l[k] = st at *
        have hBx := Box.new wo #[.string st.nm, .string st.ph, .int .i64 st.g, .int .i64 st.l] 37
        have hB0 : Below wo.heap.size wo (wo.alloc (.cells #[.string st.nm, .string st.ph, .int .i64 st.g, .int .i64 st.l] 37)) := (Below.refl _ _).alloc (Nat.le_refl _) _
        have hTa : TabW (wo.alloc (.cells #[.string st.nm, .string st.ph, .int .i64 st.g, .int .i64 st.l] 37)).drew := hT.below (Below.drew hB0)
        have hFa : FillT (wo.alloc (.cells #[.string st.nm, .string st.ph, .int .i64 st.g, .int .i64 st.l] 37)).drew g g n (l.map stT) (List.replicate n ByteArray.empty) k := hF.alter (Below.drew hB0)
        have hba := Below.drew hB0
        have hBx : Box (wo.alloc (.cells #[.string st.nm, .string st.ph, .int .i64 st.g, .int .i64 st.l] 37)).drew wo.heap.size #[.string st.nm, .string st.ph, .int .i64 st.g, .int .i64 st.l] 37 := hBx
        have C := four_at hBx
        have hBg : wo.heap.size ≠ g := by omega
        clear p1 p2 hst hT hF hS hB0
        obtain ⟨z, hcz⟩ := hFa.cell hlt
        have hfz := hFa.free k
        go_wp2_with fail
        go_region_held3 (fun w' => w'.cell? ⟨wo.heap.size, 0, none⟩ = some (.string st.nm) ∧ w'.cell? ⟨wo.heap.size, 1, none⟩ = some (.string st.ph) ∧ w'.cell? ⟨wo.heap.size, 2, none⟩ = some (.int .i64 st.g) ∧ w'.cell? ⟨wo.heap.size, 3, none⟩ = some (.int .i64 st.l)) (first | with_reducible exact C | exact four_far1 hBg C _) (first | (go_at_call 14; refine (bitsText_c _ _).mono ?_; rintro e w' ⟨rfl, rfl⟩) | (go_at_call 15; refine (Itoa_i _ _ (by first | exact hI1 | exact hI2) hTa).mono ?_; rintro e w5 ⟨rfl, hb5⟩; have hTa := hTa.below hb5; have hFa := hFa.alter hb5; have hba := hba.trans (hb5.mono hba.size); have hBx := hBx.below hb5 hBx.lt; have C := four_at hBx; obtain ⟨z, hcz⟩ := hFa.cell hlt; have hfz := hFa.free k))
        all_goals
          have hst2 := hFa.step hlt (y := .string (stT st)) (fun hl' => by rw [HGT.out hl'])
          have hbw := hb.trans (hba.mono (Nat.le_of_lt hgz))
          have hbw2 := hFa.below hbw (.string (stT st))
          rw [HS.out]
          clear hFa hba hBx C hTa hbw
          go_wp2_with fail
          go_roundw
          case rel => exact ⟨k + 1, by omega, by go_num, hst2, hbw2⟩
          case measure => simp [intOf]; omega
      · obtain rfl : k = n := by omega
        have hbE := hb1.trans (hbG.mono hb1.size)
        have hat := fun j (hj : j < k) => hF.at hj (Nat.le_refl k)
        have HAT := Lib.hid hat
        clear hat hF hb hbG hS hT hgz
        by_cases hk0 : k = 0
        · have HR := Lib.hid (show dashT (⟨#[]⟩ : ByteArray) = fmtT l by
            rw [HFY.out]
            have : l = [] := List.length_eq_zero_iff.1 (by have := HN.out; omega)
            rw [this]; rfl)
          have hkz : (k : Int) = 0 := by omega
          obtain rfl := hk0
          clear hkz
          go_wp2_with fail
          refine (Tryd.strings_Join_none _ _ _ _).mono ?_; rintro e w' ⟨rfl, rfl⟩
          go_wp2_with fail
          refine (bitsText_c _ _).mono ?_; rintro e w' ⟨rfl, rfl⟩
          rw [HR.out]
          go_wp2_with fail
          go_ret
          exact ⟨rfl, hbE⟩
        · have hjc : ∀ (j : Nat) x, (l.map stT)[j]? = some x → wo.cell? ⟨g, 0 + j, none⟩ = some (.string x) := by
            intro j x hx
            obtain ⟨hj, hx2⟩ := List.getElem?_eq_some_iff.1 hx
            obtain ⟨hl, hc⟩ := HAT.out j (by rw [← HML.out]; exact hj)
            rw [Nat.zero_add, hc]
            rw [hx2]
          have hgl : g < wo.heap.size := by
            obtain ⟨hl, hc⟩ := HAT.out 0 (by omega)
            exact lt_of_cell hc
          have hjl : (Lib.join ((l.map stT).map (·.data.toList)) (⟨#[59]⟩ : ByteArray).data.toList).length ≤ 140737488355328 := by
            have := join_len (M := 60) (s := [59]) rfl (ps := (l.map stT).map bts) (fun p hp => by
              obtain ⟨x, hx, rfl⟩ := List.mem_map.1 hp
              obtain ⟨y, hy, rfl⟩ := List.mem_map.1 hx
              exact stT_size ((cellB_iff.1 HC.out).2.1 y hy))
            rw [List.length_map, HML.out] at this
            show (Lib.join ((l.map stT).map bts) [59]).length ≤ _
            omega
          have HJ := Tryd.strings_Join g 0 k (l.map stT) (⟨#[59]⟩ : ByteArray) wo hjc hgl (by rw [HML.out]; omega) (by rw [HML.out]; exact Nat.le_refl _) hjl
          rw [HML.out] at HJ
          have HJT := Lib.hid (show (⟨(Lib.join ((l.map stT).map (·.data.toList)) (⟨#[59]⟩ : ByteArray).data.toList).toArray⟩ : ByteArray) = joinT 59 (l.map stT) from rfl)
          have HJ' := Lib.hid HJ
          clear hjc hjl HJ hk0
          go_wp2_with fail
          refine HJ'.out.mono ?_; rintro e w6 ⟨rfl, hb6⟩
          rw [HJT.out]
          have hbF := hbE.trans (hb6.mono hbE.size)
          go_wp2_with fail
          refine (bitsText_c _ _).mono ?_; rintro e w' ⟨rfl, rfl⟩
          rw [← HFY.out]
          go_wp2_with fail
          go_ret
          exact ⟨rfl, hbF⟩
  · have hcb' : cellB l = false := by simpa using hcb
    have hr := Lib.hid (fmt_no hcb')
    go_enter Tryd.func5, Tryd.ntmps5
    go_wp2_with fail
    refine (CellValid_c h hcap).mono ?_; rintro e w1 ⟨rfl, hb1⟩
    rw [hcb']
    go_wp2_with fail
    go_ret
    exact ⟨by rw [hr.out]; rfl, hb1⟩

def I63 (n : Int) : Prop := -9223372036854775807 ≤ n ∧ n ≤ 9223372036854775807

theorem l9Dec_i (n : Int) (w : World) (h : I63 n) : Calls Tryd.prog 19 #[.int .i64 n] w fun e w' => e = .returned (.string (decT n)) ∧ Below w.heap.size w w' := l9DecI_c n w h.1 h.2

/-- The text of a cell's first stations. -/
def oT (l : List Stn) (k : Nat) : ByteArray := joinT 59 ((l.map stT).take k)
theorem oT_zero (l : List Stn) : oT l 0 = ⟨#[]⟩ := rfl
theorem join_snoc (x : Byts) (s : Byts) : ∀ {ps : List Byts}, ps ≠ [] → Lib.join (ps ++ [x]) s = Lib.join ps s ++ s ++ x
  | [], h => absurd rfl h
  | [p], _ => by rw [List.singleton_append, join_two, Lib.join_one, Lib.join_one]
  | p :: q :: r, _ => by
    rw [List.cons_append, List.cons_append, join_two, ← List.cons_append, join_snoc x s (by simp), join_two]; simp only [List.append_assoc]
theorem oT_one {l : List Stn} {k : Nat} (h : k < l.length) (h0 : k = 0) : oT l k ++ stT l[k] = oT l (k + 1) := by
  subst h0
  apply bts_inj
  rw [bts_app]
  unfold oT joinT
  rw [bts_txt, bts_txt, List.take_succ_eq_append_getElem (by simpa using h)]
  simp [Lib.join_one, Lib.join_nil]
theorem oT_succ {l : List Stn} {k : Nat} (h : k < l.length) (h0 : 0 < k) : oT l k ++ ⟨#[59]⟩ ++ stT l[k] = oT l (k + 1) := by
  apply bts_inj
  rw [bts_app, bts_app]
  unfold oT joinT
  rw [bts_txt, bts_txt, List.take_succ_eq_append_getElem (by simpa using h), List.map_append, List.map_singleton, join_snoc _ _ (by
    intro e
    have := congrArg List.length e
    rw [List.length_map, List.length_take, List.length_map, List.length_nil] at this
    omega), List.getElem_map]
  rfl
theorem oT_all {l : List Stn} {k : Nat} (h : l.length ≤ k) : oT l k = joinT 59 (l.map stT) := by unfold oT; rw [List.take_of_length_le (by simpa using h)]
theorem oT_size {l : List Stn} (h : ∀ s ∈ l, stOk s) (k : Nat) (hk : k ≤ 8) : (oT l k).size ≤ 488 := by
  unfold oT joinT
  rw [txt_size]
  have := join_len (M := 60) (s := [59]) rfl (ps := ((l.map stT).take k).map bts) (fun p hp => by
    obtain ⟨x, hx, rfl⟩ := List.mem_map.1 hp
    obtain ⟨y, hy, rfl⟩ := List.mem_map.1 (List.mem_of_mem_take hx)
    exact stT_size (h y hy))
  have h2 : (((l.map stT).take k).map bts).length ≤ 8 := by rw [List.length_map, List.length_take]; omega
  have h3 := Nat.mul_le_mul_right 61 h2
  omega
theorem stT_more (X : ByteArray) (s : Stn) : X ++ s.nm ++ ⟨#[58]⟩ ++ dashT s.ph ++ ⟨#[58]⟩ ++ decT s.g ++ ⟨#[58]⟩ ++ decT s.l = X ++ stT s := by
  rw [← stT_is]
  apply bts_inj
  simp only [bts_app, List.append_assoc]

set_option maxRecDepth 100000 in
set_option maxHeartbeats 3200000 in
theorem sFormatCell_c {ao : Option Addr} {n c : Nat} {l : List Stn} {w : World} (h : RdS w ao n l) (hm2 : ∀ i (h : i < l.length), (l[i]'h).nm.size ≤ 1099511627776 ∧ (l[i]'h).ph.size ≤ 1099511627776) :
    Calls Tryd.prog 6 #[.slice ao n c] w fun e w' => e = .returned (.string (fmtT l)) ∧ Below w.heap.size w w' := by
  have hs := h.2.1
  have HN := Lib.hid h.1
  by_cases hcb : cellB l = true
  · have HC := Lib.hid hcb
    have HFY := Lib.hid (fmt_yes hcb)
    have hn8 : n ≤ 8 := by have := (cellB_iff.1 hcb).1; have := HN.out; omega
    clear hcb
    go_enter Tryd.func6, Tryd.ntmps6
    go_wp2_with fail
    refine (sCellValid_c h hm2).mono ?_; rintro e w1 ⟨rfl, hb1⟩
    rw [HC.out]
    have h1 := h.below hb1
    clear h hm2
    have HO0 := Lib.hid (oT_zero l).symm
    go_wp2_with fail
    go_loopw [3, 4] (fun o i wr => ∃ k : Nat, k ≤ n ∧ i = .int .i64 k ∧ o = .string (oT l k) ∧ Below w1.heap.size w1 wr) (fun _ i _ => n - (intOf i).toNat)
    case atStart => exact ⟨0, Nat.zero_le _, rfl, rfl, Below.refl _ _⟩
    case round =>
      obtain ⟨k, hk, rfl, rfl, hb⟩ := hrel
      obtain ⟨wo, hwo⟩ : ∃ wo : World, wo = wr := ⟨_, rfl⟩
      subst hwo
      have hS := h1.below hb
      by_cases hlt : k < n
      · obtain ⟨bk, off, rfl, hl, s0, s1, s2, s3⟩ := hS.at hlt
        have hst := cellB_st HC.out hl
        obtain ⟨p1, p2, p3, p4⟩ := stB_parts hst
        have hnz := name_sz p1
        have hdz : (dashT l[k].ph).size ≤ 7 := by have := dash_sz l[k].ph; have := pathB_size p2; omega
        have hz1 := decT_size (n := l[k].g) (by omega) (by omega)
        have hz2 := decT_size (n := l[k].l) (by omega) (by omega)
        have hoz := oT_size (cellB_iff.1 HC.out).2.1 k (by omega)
        have hI1 : I63 l[k].g := ⟨by omega, by omega⟩
        have hI2 : I63 l[k].l := ⟨by omega, by omega⟩
        have hcase : (¬ (0 : Int) < (k : Int) ∧ ∃ X, X = oT l k ∧ X ++ stT l[k] = oT l (k + 1)) ∨ ((0 : Int) < (k : Int) ∧ oT l k ++ ⟨#[59]⟩ ++ stT l[k] = oT l (k + 1)) := by
          by_cases e : k = 0
          · exact .inl ⟨by omega, _, rfl, oT_one hl e⟩
          · exact .inr ⟨by omega, oT_succ hl (by omega)⟩
        have HCS := Lib.hid hcase
        clear hcase p1 p2 hst hS
        have HTM := Lib.hid (fun X => stT_more X l[k])
        generalize l[k] = st at *
        generalize hOk : oT l k = O at *
        have HOK := Lib.hid hOk
        clear hOk
        have C : wo.drew.cell? ⟨bk, off + k * 4, none⟩ = some (.string st.nm) ∧ wo.drew.cell? ⟨bk, off + k * 4 + 1, none⟩ = some (.string st.ph) ∧ wo.drew.cell? ⟨bk, off + k * 4 + 2, none⟩ = some (.int .i64 st.g) ∧ wo.drew.cell? ⟨bk, off + k * 4 + 3, none⟩ = some (.int .i64 st.l) := ⟨s0, s1, s2, s3⟩
        have hba := Below.drew (Below.refl wo.heap.size wo)
        rcases HCS.out with ⟨h0, hX⟩ | ⟨h0, hX⟩
        · obtain ⟨X, rfl, hX⟩ := hX
          have HXN := Lib.hid hX
          clear hX HOK
          have n1 : ¬ X.size + st.nm.size > 9223372036854775807 := by omega
          have n1' : ¬ 9223372036854775807 < X.size + st.nm.size := by omega
          have n2 : ¬ X.size + st.nm.size + 1 > 9223372036854775807 := by omega
          have n2' : ¬ 9223372036854775807 < X.size + st.nm.size + 1 := by omega
          have n2'' : ¬ 9223372036854775807 ≤ X.size + st.nm.size := by omega
          have n3 : ¬ X.size + st.nm.size + 1 + (dashT st.ph).size > 9223372036854775807 := by omega
          have n3' : ¬ 9223372036854775807 < X.size + st.nm.size + 1 + (dashT st.ph).size := by omega
          have n4 : ¬ X.size + st.nm.size + 1 + (dashT st.ph).size + 1 > 9223372036854775807 := by omega
          have n4' : ¬ 9223372036854775807 < X.size + st.nm.size + 1 + (dashT st.ph).size + 1 := by omega
          have n4'' : ¬ 9223372036854775807 ≤ X.size + st.nm.size + 1 + (dashT st.ph).size := by omega
          have n5 : ¬ X.size + st.nm.size + 1 + (dashT st.ph).size + 1 + (decT st.g).size > 9223372036854775807 := by omega
          have n5' : ¬ 9223372036854775807 < X.size + st.nm.size + 1 + (dashT st.ph).size + 1 + (decT st.g).size := by omega
          have n6 : ¬ X.size + st.nm.size + 1 + (dashT st.ph).size + 1 + (decT st.g).size + 1 > 9223372036854775807 := by omega
          have n6' : ¬ 9223372036854775807 < X.size + st.nm.size + 1 + (dashT st.ph).size + 1 + (decT st.g).size + 1 := by omega
          have n6'' : ¬ 9223372036854775807 ≤ X.size + st.nm.size + 1 + (dashT st.ph).size + 1 + (decT st.g).size := by omega
          have n7 : ¬ X.size + st.nm.size + 1 + (dashT st.ph).size + 1 + (decT st.g).size + 1 + (decT st.l).size > 9223372036854775807 := by omega
          have n7' : ¬ 9223372036854775807 < X.size + st.nm.size + 1 + (dashT st.ph).size + 1 + (decT st.g).size + 1 + (decT st.l).size := by omega
          go_wp2_with fail
          go_region_held3 (fun w' => w'.cell? ⟨bk, off + k * 4, none⟩ = some (.string st.nm) ∧ w'.cell? ⟨bk, off + k * 4 + 1, none⟩ = some (.string st.ph) ∧ w'.cell? ⟨bk, off + k * 4 + 2, none⟩ = some (.int .i64 st.g) ∧ w'.cell? ⟨bk, off + k * 4 + 3, none⟩ = some (.int .i64 st.l)) (first | with_reducible exact C) (first | (go_at_call 18; refine (l8Dash_c _ _).mono ?_; rintro e w' ⟨rfl, rfl⟩) | (go_at_call 19; refine (l9Dec_i _ _ (by first | exact hI1 | exact hI2)).mono ?_; rintro e w5 ⟨rfl, hb5⟩; have hba := hba.trans (hb5.mono hba.size); have C : w5.cell? ⟨bk, off + k * 4, none⟩ = some (.string st.nm) ∧ w5.cell? ⟨bk, off + k * 4 + 1, none⟩ = some (.string st.ph) ∧ w5.cell? ⟨bk, off + k * 4 + 2, none⟩ = some (.int .i64 st.g) ∧ w5.cell? ⟨bk, off + k * 4 + 3, none⟩ = some (.int .i64 st.l) := ⟨(hb5.cell (lt_of_cell C.1)).trans C.1, (hb5.cell (lt_of_cell C.2.1)).trans C.2.1, (hb5.cell (lt_of_cell C.2.2.1)).trans C.2.2.1, (hb5.cell (lt_of_cell C.2.2.2)).trans C.2.2.2⟩))
          all_goals
            have hbw := hb.trans (hba.mono hb.size)
            rw [HTM.out, HXN.out]
            clear hba C
            go_wp2_with fail
            go_roundw
            case rel => exact ⟨k + 1, by omega, by go_num, rfl, hbw⟩
            case measure => simp [intOf]; omega
        · obtain ⟨X, hX0⟩ : ∃ X, X = O ++ (⟨#[59]⟩ : ByteArray) := ⟨_, rfl⟩
          rw [← hX0] at hX
          have hXz : X.size ≤ 489 := by rw [hX0, ByteArray.size_append]; have : (⟨#[59]⟩ : ByteArray).size = 1 := rfl; omega
          have HXN := Lib.hid hX
          have HX0 := Lib.hid hX0
          clear hX hX0 HOK
          go_wp2_with fail
          rw [← HX0.out]
          have n1 : ¬ X.size + st.nm.size > 9223372036854775807 := by omega
          have n1' : ¬ 9223372036854775807 < X.size + st.nm.size := by omega
          have n2 : ¬ X.size + st.nm.size + 1 > 9223372036854775807 := by omega
          have n2' : ¬ 9223372036854775807 < X.size + st.nm.size + 1 := by omega
          have n2'' : ¬ 9223372036854775807 ≤ X.size + st.nm.size := by omega
          have n3 : ¬ X.size + st.nm.size + 1 + (dashT st.ph).size > 9223372036854775807 := by omega
          have n3' : ¬ 9223372036854775807 < X.size + st.nm.size + 1 + (dashT st.ph).size := by omega
          have n4 : ¬ X.size + st.nm.size + 1 + (dashT st.ph).size + 1 > 9223372036854775807 := by omega
          have n4' : ¬ 9223372036854775807 < X.size + st.nm.size + 1 + (dashT st.ph).size + 1 := by omega
          have n4'' : ¬ 9223372036854775807 ≤ X.size + st.nm.size + 1 + (dashT st.ph).size := by omega
          have n5 : ¬ X.size + st.nm.size + 1 + (dashT st.ph).size + 1 + (decT st.g).size > 9223372036854775807 := by omega
          have n5' : ¬ 9223372036854775807 < X.size + st.nm.size + 1 + (dashT st.ph).size + 1 + (decT st.g).size := by omega
          have n6 : ¬ X.size + st.nm.size + 1 + (dashT st.ph).size + 1 + (decT st.g).size + 1 > 9223372036854775807 := by omega
          have n6' : ¬ 9223372036854775807 < X.size + st.nm.size + 1 + (dashT st.ph).size + 1 + (decT st.g).size + 1 := by omega
          have n6'' : ¬ 9223372036854775807 ≤ X.size + st.nm.size + 1 + (dashT st.ph).size + 1 + (decT st.g).size := by omega
          have n7 : ¬ X.size + st.nm.size + 1 + (dashT st.ph).size + 1 + (decT st.g).size + 1 + (decT st.l).size > 9223372036854775807 := by omega
          have n7' : ¬ 9223372036854775807 < X.size + st.nm.size + 1 + (dashT st.ph).size + 1 + (decT st.g).size + 1 + (decT st.l).size := by omega
          go_region_held3 (fun w' => w'.cell? ⟨bk, off + k * 4, none⟩ = some (.string st.nm) ∧ w'.cell? ⟨bk, off + k * 4 + 1, none⟩ = some (.string st.ph) ∧ w'.cell? ⟨bk, off + k * 4 + 2, none⟩ = some (.int .i64 st.g) ∧ w'.cell? ⟨bk, off + k * 4 + 3, none⟩ = some (.int .i64 st.l)) (first | with_reducible exact C) (first | (go_at_call 18; refine (l8Dash_c _ _).mono ?_; rintro e w' ⟨rfl, rfl⟩) | (go_at_call 19; refine (l9Dec_i _ _ (by first | exact hI1 | exact hI2)).mono ?_; rintro e w5 ⟨rfl, hb5⟩; have hba := hba.trans (hb5.mono hba.size); have C : w5.cell? ⟨bk, off + k * 4, none⟩ = some (.string st.nm) ∧ w5.cell? ⟨bk, off + k * 4 + 1, none⟩ = some (.string st.ph) ∧ w5.cell? ⟨bk, off + k * 4 + 2, none⟩ = some (.int .i64 st.g) ∧ w5.cell? ⟨bk, off + k * 4 + 3, none⟩ = some (.int .i64 st.l) := ⟨(hb5.cell (lt_of_cell C.1)).trans C.1, (hb5.cell (lt_of_cell C.2.1)).trans C.2.1, (hb5.cell (lt_of_cell C.2.2.1)).trans C.2.2.1, (hb5.cell (lt_of_cell C.2.2.2)).trans C.2.2.2⟩))
          all_goals
            have hbw := hb.trans (hba.mono hb.size)
            rw [HTM.out, HXN.out]
            clear hba C
            go_wp2_with fail
            go_roundw
            case rel => exact ⟨k + 1, by omega, by go_num, rfl, hbw⟩
            case measure => simp [intOf]; omega
      · obtain rfl : k = n := by omega
        have HA := Lib.hid (oT_all (l := l) (k := k) (by have := HN.out; omega))
        rw [HA.out]
        have hbE := hb1.trans (hb.mono hb1.size)
        go_wp2_with fail
        refine (l8Dash_c _ _).mono ?_; rintro e w' ⟨rfl, rfl⟩
        rw [← HFY.out]
        go_wp2_with fail
        go_ret
        exact ⟨rfl, hbE⟩
  · have hcb' : cellB l = false := by simpa using hcb
    have hr := Lib.hid (fmt_no hcb')
    go_enter Tryd.func6, Tryd.ntmps6
    go_wp2_with fail
    refine (sCellValid_c h hm2).mono ?_; rintro e w1 ⟨rfl, hb1⟩
    rw [hcb']
    go_wp2_with fail
    go_ret
    exact ⟨by rw [hr.out]; rfl, hb1⟩

end Go.Proofs.YtdedcablhahbnaaDoor
