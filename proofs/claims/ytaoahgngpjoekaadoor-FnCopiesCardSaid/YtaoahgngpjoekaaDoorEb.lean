/- CombineCopies of the program and of the reference. No condition beyond lengths. -/
import Derived.Test.YtaoahgngpjoekaaDoorEa
import Derived.Test.YtaoahgngpjoekaaDoorRg
namespace Go.Proofs.YtaoahgngpjoekaaDoor
open Go.RowKit

/-- Two copies' bytes that agree or of which one is lost; what stands in their place. -/
def okP (a b : Int) : Bool := b == 63 || b == a || a == 63
def mx (a b : Int) : Int := if (a == 63) = true then b else a
def fitB (O : List Int) (s : ByteArray) : Bool := copyB s && decide (s.size = O.length) && (List.zipWith okP O (codes s)).all id
def combF : List Int → List ByteArray → Option (List Int)
  | O, [] => some O
  | O, s :: l => if fitB O s = true then combF (List.zipWith mx O (codes s)) l else none
def combR (l : List ByteArray) : Option ByteArray := if 1 ≤ l.length ∧ l.length ≤ 16 then (combF (codes (l.getD 0 ByteArray.empty)) l).map text else none
theorem combR_no {l : List ByteArray} (h : l.length < 1 ∨ 16 < l.length) : combR l = none := by unfold combR; rw [if_neg (by omega)]
theorem combR_yes {l : List ByteArray} (h : 0 < l.length) (h2 : l.length ≤ 16) : combR l = (combF (codes l[0]) l).map text := by
  unfold combR; rw [if_pos (by omega)]; simp [List.getD, h]
def okK (O C : List Int) (k : Nat) : Bool := ((List.zipWith okP O C).take k).all id
theorem okK_zero (O C : List Int) : okK O C 0 = true := rfl
theorem okK_succ {O C : List Int} {k : Nat} (hO : k < O.length) (hC : k < C.length) (h : okK O C k = true) (h1 : okP O[k] C[k] = true) : okK O C (k + 1) = true := by
  unfold okK at *
  rw [List.take_succ_eq_append_getElem (by rw [List.length_zipWith]; omega), List.all_append, h, List.getElem_zipWith, h1]; rfl
theorem okK_all {O C : List Int} {k : Nat} (hk : O.length ≤ k) (h : okK O C k = true) : (List.zipWith okP O C).all id = true := by
  unfold okK at h
  rwa [List.take_of_length_le (by rw [List.length_zipWith]; omega)] at h
theorem okK_fail {O C : List Int} {k : Nat} (hO : k < O.length) (hC : k < C.length) (h1 : okP O[k] C[k] = false) : (List.zipWith okP O C).all id = false := by
  rw [List.all_eq_false]
  exact ⟨_, List.getElem_mem (show k < (List.zipWith okP O C).length by rw [List.length_zipWith]; omega), by rw [List.getElem_zipWith, h1]; simp⟩
theorem combF_no1 {O : List Int} {s : ByteArray} {l : List ByteArray} (h : copyB s = false) : combF O (s :: l) = none := by simp [combF, fitB, h]
theorem combF_no2 {O : List Int} {s : ByteArray} {l : List ByteArray} (h : ¬ s.size = O.length) : combF O (s :: l) = none := by simp [combF, fitB, h]
theorem combF_no3 {O : List Int} {s : ByteArray} {l : List ByteArray} (h : (List.zipWith okP O (codes s)).all id = false) : combF O (s :: l) = none := by
  unfold combF fitB; rw [h, Bool.and_false]; rfl
theorem combF_yes {O : List Int} {s : ByteArray} {l : List ByteArray} (h : copyB s = true) (h2 : s.size = O.length) (h3 : (List.zipWith okP O (codes s)).all id = true) : combF O (s :: l) = combF (List.zipWith mx O (codes s)) l := by
  rw [combF]; unfold fitB; rw [h, h3, decide_eq_true h2]; rfl
/-- The first j bytes are mixed. -/
def rowM (O C : List Int) (j : Nat) : List Int := (List.zipWith mx O C).take j ++ O.drop j
theorem rowM_zero (O C : List Int) : rowM O C 0 = O := by simp [rowM]
theorem rowM_all {O C : List Int} {j : Nat} (h : O.length = C.length) (hj : O.length ≤ j) : rowM O C j = List.zipWith mx O C := by
  unfold rowM
  rw [List.take_of_length_le (by rw [List.length_zipWith]; omega), List.drop_of_length_le hj, List.append_nil]
theorem rowM_length {O C : List Int} (h : O.length = C.length) (j : Nat) : (rowM O C j).length = O.length := by
  unfold rowM; rw [List.length_append, List.length_take, List.length_drop, List.length_zipWith]; omega
theorem rowM_get {O C : List Int} {j : Nat} (h : O.length = C.length) (hj : j < O.length) : (rowM O C j)[j]'(by rw [rowM_length h]; exact hj) = O[j] := by
  unfold rowM
  rw [List.getElem_append_right (by rw [List.length_take]; omega)]
  simp [List.length_take, List.length_zipWith, show min j (min O.length C.length) = j by omega]
theorem rowM_set {O C : List Int} {j : Nat} (h : O.length = C.length) (hj : j < O.length) : (rowM O C j).set j (mx O[j] (C[j]'(by omega))) = rowM O C (j + 1) := by
  have hk : j < (List.zipWith mx O C).length := by rw [List.length_zipWith]; omega
  have := take_set_gen (r := O) hk (by rw [List.length_zipWith]; omega)
  rw [List.getElem_zipWith] at this
  exact this
theorem rowM_keep {O C : List Int} {j : Nat} (h : O.length = C.length) (hj : j < O.length) (he : mx O[j] (C[j]'(by omega)) = O[j]) : rowM O C (j + 1) = rowM O C j := by
  have h1 := rowM_set h hj
  rw [he, ← rowM_get h hj, List.set_getElem_self] at h1
  exact h1.symm
theorem mx_q {a : Int} {b : Int} (h : (b == 63) = true) : mx a b = a := by
  unfold mx; split
  · rename_i h1; rw [beq_iff_eq.1 h, beq_iff_eq.1 h1]
  · rfl
theorem mx_same {a b : Int} (h : (b == a) = true) : mx a b = a := by
  unfold mx; split
  · exact beq_iff_eq.1 h
  · rfl
theorem mx_new {a b : Int} (h : (a == 63) = true) : mx a b = b := by unfold mx; rw [if_pos h]
theorem mx_old {a b : Int} (h : (a == 63) = false) : mx a b = a := by unfold mx; rw [if_neg (by rw [h]; decide)]
theorem okP_1 {a b : Int} (h : (b == 63) = true) : okP a b = true := by simp [okP, h]
theorem okP_2 {a b : Int} (h : (b == a) = true) : okP a b = true := by simp [okP, h]
theorem okP_3 {a b : Int} (h : (a == 63) = true) : okP a b = true := by simp [okP, h]
theorem okP_no {a b : Int} (h1 : (b == 63) = false) (h2 : (b == a) = false) (h3 : (a == 63) = false) : okP a b = false := by simp [okP, h1, h2, h3]

theorem rowM_drew {wr : World} {q W g j : Nat} {O C : List Int} (h : RowB wr W g (rowM O C j)) (hs : rowM O C (j + 1) = rowM O C j) : RowB (wr.drewN q) W g (rowM O C (j + 1)) := by
  rw [hs]; exact h.below ((Qw.drewN _ _).below _)
theorem rowM_setD {wr : World} {q W g j : Nat} {O C : List Int} {x : Int} (h : RowB wr W g (rowM O C j)) (hs : (rowM O C j).set j x = rowM O C (j + 1)) : RowB ((wr.drewN q).setCell ⟨g, j, none⟩ (.int .u8 x)) W g (rowM O C (j + 1)) := by
  rw [← hs]; exact RowF.set (h.below ((Qw.drewN _ _).below _)) x
theorem belowD {q : Nat} {w wr : World} (h : Below w.heap.size w wr) : Below w.heap.size w (wr.drewN q) := h.trans (((Qw.drewN wr q).below _).mono h.size)
theorem belowSetD {w wr : World} {q g j : Nat} {u : Value} (h : w.heap.size ≤ g) (hb : Below w.heap.size w wr) : Below w.heap.size w ((wr.drewN q).setCell ⟨g, j, none⟩ u) := (belowD hb).setCell h u

set_option maxRecDepth 100000 in
set_option maxHeartbeats 3200000 in
theorem CombineCopies_c {ao : Option Addr} {n c : Nat} {l : List ByteArray} {w : World} (h : RdT w ao n l) (hm : MaxOk w) (hs : ∀ s ∈ l, s.size ≤ 1048576) :
    Calls Tryd.prog 9 #[.slice ao n c] w (RetTB w (combR l)) := by
  have hn := h.1
  by_cases h1 : (n : Int) < 1
  · have hr := Lib.hid (combR_no (l := l) (.inl (by omega)))
    clear hn
    go_enter Tryd.func9, Tryd.ntmps9
    go_wp2_with fail
    go_ret2
    exact retTB_none hr.out (Below.refl _ _)
  by_cases h2 : (16 : Int) < (n : Int)
  · have hr := Lib.hid (combR_no (l := l) (.inr (by omega)))
    clear hn
    go_enter Tryd.func9, Tryd.ntmps9
    go_wp2_with fail
    go_ret2
    exact retTB_none hr.out (Below.refl _ _)
  have HR := Lib.hid (combR_yes (l := l) (by omega) (by omega))
  have HS := Lib.hid hs
  have HN := Lib.hid hn
  have hn16 : n ≤ 16 := by omega
  have hn0 : 0 < n := by omega
  obtain ⟨b0, o0, rfl, hl0, hc0⟩ := h.at hn0
  have HZ := HS.out _ (List.getElem_mem hl0)
  rw [Nat.add_zero] at hc0
  obtain ⟨z, hz⟩ : ∃ z, z = l[0] := ⟨_, rfl⟩
  rw [← hz] at HR hc0 HZ
  clear hs hn hz
  go_enter Tryd.func9, Tryd.ntmps9
  go_wp2_with (with_reducible refine wp_bytes 9 22 5 Tryd.underlying9 Tryd.underlying22 Tryd.underlying5 _ rfl (.tmp 18) rfl z rfl ?_; intro w1 cc hrow hb1 hsz1 hcc)
  clear hsz1 hc0
  go_loopw [22] (fun i wr => ∃ (k : Nat) (O : List Int), k ≤ n ∧ i = .int .i64 k ∧ Hid (combF (codes z) l = combF O (l.drop k) ∧ O.length = z.size) ∧ RowB wr w.heap.size w.heap.size O ∧ Below w.heap.size w wr) (fun i _ => n - (intOf i).toNat)
  case atStart => exact ⟨0, codes z, Nat.zero_le _, rfl, Lib.hid ⟨by rw [List.drop_zero], codes_length z⟩, hrow, hb1⟩
  case round =>
    clear hrow hb1
    obtain ⟨k, O, hk, rfl, HF, hrow, hb⟩ := hrel
    by_cases hlt : k < n
    · obtain ⟨b1, o1, he, hl, hc⟩ := (h.below hb).at hlt
      cases he
      have HD := Lib.hid (List.drop_eq_getElem_cons hl)
      have HSk := HS.out _ (List.getElem_mem hl)
      obtain ⟨s, hsd⟩ : ∃ s, s = l[k] := ⟨_, rfl⟩
      rw [← hsd] at HD hc HSk
      have HF2 := Lib.hid (show combF (codes z) l = combF O (s :: l.drop (k + 1)) by rw [HF.out.1, HD.out])
      have hmk := hm.below hb
      clear hsd HD
      by_cases hcp : copyB s = true
      · by_cases hsz : s.size = O.length
        · have hszz : s.size = z.size := by rw [hsz, HF.out.2]
          have hOz : O.length = z.size := HF.out.2
          have hOC : O.length = (codes s).length := by rw [codes_length, hsz]
          have HOK := Lib.hid (fun h3 => combF_yes (O := O) (l := l.drop (k + 1)) hcp hsz h3)
          have HNO := Lib.hid (fun h3 => combF_no3 (O := O) (s := s) (l := l.drop (k + 1)) h3)
          have HCL := Lib.hid hOC
          have HOZ := Lib.hid hOz
          clear hsz hOz hOC HF
          have hne : ((s.size : Int) != (z.size : Int)) = false := by simp [hszz]
          go_wp2_with fail
          refine (copyValid_c s _ hmk (by omega)).mono ?_; rintro e w3 ⟨rfl, hb3⟩
          have hrow3 := hrow.below hb3
          have hbA := hb.trans (hb3.mono hb.size)
          clear hrow hb hb3 hc hmk
          rw [hcp]
          clear hcp
          go_wp2_with fail
          go_loopw [38] (fun i wr => ∃ j : Nat, j ≤ z.size ∧ i = .int .i64 j ∧ Hid (okK O (codes s) j = true) ∧ RowB wr w.heap.size w.heap.size (rowM O (codes s) j) ∧ Below w.heap.size w wr) (fun i _ => z.size - (intOf i).toNat)
          case atStart => exact ⟨0, Nat.zero_le _, rfl, Lib.hid (okK_zero _ _), by rw [rowM_zero]; exact hrow3, hbA⟩
          case round =>
            clear hrow3 hbA
            obtain ⟨j, hj, rfl, HK, hrow, hb⟩ := hrel
            by_cases hjl : j < z.size
            · have hjs : j < s.size := by omega
              have hjO : j < O.length := by rw [HOZ.out]; exact hjl
              have hjM : j < (rowM O (codes s) j).length := by rw [rowM_length HCL.out]; exact hjO
              have hjC : j < (codes s).length := by rw [codes_length]; exact hjs
              have HCG := Lib.hid (codes_get s hjs)
              have hcl := hrow.cell hjM
              have hfr := hrow.free hjM
              rw [rowM_get HCL.out hjO] at hcl
              have HKE := Lib.hid (fun he => rowM_keep HCL.out hjO he)
              have HST := Lib.hid (rowM_set HCL.out hjO)
              have HSU := Lib.hid (fun h1 => okK_succ hjO hjC HK.out h1)
              have HFA := Lib.hid (fun h1 => okK_fail hjO hjC h1)
              have hrow2 := hrow.set (i := j) (s[j].toNat : Int)
              have hb2 := hrow.belowSet hb j (.int .u8 (s[j].toNat : Int))
              rw [HCG.out] at HKE HST HSU HFA
              by_cases g1 : ((s[j].toNat : Int) == 63) = true
              · have HA := Lib.hid (HSU.out (okP_1 g1))
                have HB := Lib.hid (HKE.out (mx_q g1))
                clear hrow2 hb2 HST HSU HFA HKE
                go_wp2_with fail
                go_quiet (fail)
                go_wp2_with fail
                go_roundw
                case rel => exact ⟨j + 1, by omega, by go_num, Lib.hid HA.out, rowM_drew hrow HB.out, belowD hb⟩
                case measure => simp [intOf]; omega
              · have g1' : ((s[j].toNat : Int) == 63) = false := by simpa using g1
                clear g1
                by_cases g2 : ((s[j].toNat : Int) == O[j]) = true
                · have HA := Lib.hid (HSU.out (okP_2 g2))
                  have HB := Lib.hid (HKE.out (mx_same g2))
                  clear hrow2 hb2 HST HSU HFA HKE
                  go_wp2_with fail
                  go_quiet (fail)
                  go_wp2_with fail
                  go_roundw
                  case rel => exact ⟨j + 1, by omega, by go_num, Lib.hid HA.out, rowM_drew hrow HB.out, belowD hb⟩
                  case measure => simp [intOf]; omega
                · have g2' : ((s[j].toNat : Int) == O[j]) = false := by simpa using g2
                  clear g2
                  by_cases g3 : (O[j] == 63) = true
                  · have HA := Lib.hid (HSU.out (okP_3 g3))
                    rw [mx_new g3] at HST
                    clear hrow2 hb2 HSU HFA HKE
                    go_wp2_with fail
                    go_quiet (fail)
                    go_wp2_with fail
                    go_roundw
                    case rel => exact ⟨j + 1, by omega, by go_num, Lib.hid HA.out, rowM_setD hrow HST.out, belowSetD (Nat.le_refl _) hb⟩
                    case measure => simp [intOf]; omega
                  · have g3' : (O[j] == 63) = false := by simpa using g3
                    have HX := Lib.hid (HNO.out (HFA.out (okP_no g1' g2' g3')))
                    clear g3 hrow2 hb2 HST HSU HFA HKE
                    go_wp2_with fail
                    go_quiet (fail)
                    go_wp2_with fail
                    go_ret2
                    exact retTB_none (by rw [HR.out, HF2.out, HX.out]; rfl) (belowD hb)
            · obtain rfl : j = z.size := by omega
              have HA := Lib.hid (HOK.out (okK_all (by rw [HOZ.out]; exact Nat.le_refl _) HK.out))
              rw [rowM_all HCL.out (by rw [HOZ.out]; exact Nat.le_refl _)] at hrow
              go_wp2_with fail
              go_roundw
              case rel => exact ⟨k + 1, _, by omega, by go_num, Lib.hid ⟨by rw [HF2.out, HA.out], by rw [List.length_zipWith, ← HCL.out, HOZ.out]; omega⟩, hrow, hb⟩
              case measure => simp [intOf]; omega
        · have HX := Lib.hid (combF_no2 (l := l.drop (k + 1)) hsz)
          have hne : ((s.size : Int) != (z.size : Int)) = true := by rw [← HF.out.2]; simp; omega
          clear hsz
          go_wp2_with fail
          refine (copyValid_c s _ hmk (by omega)).mono ?_; rintro e w3 ⟨rfl, hb3⟩
          have hbA := hb.trans (hb3.mono hb.size)
          clear hrow hb hb3 hc hmk
          rw [hcp]
          clear hcp
          go_wp2_with fail
          go_ret2
          exact retTB_none (by rw [HR.out, HF2.out, HX.out]; rfl) hbA
      · have hcp' : copyB s = false := by simpa using hcp
        have HX := Lib.hid (combF_no1 (O := O) (l := l.drop (k + 1)) hcp')
        clear hcp
        go_wp2_with fail
        refine (copyValid_c s _ hmk (by omega)).mono ?_; rintro e w3 ⟨rfl, hb3⟩
        have hbA := hb.trans (hb3.mono hb.size)
        clear hrow hb hb3 hc hmk
        rw [hcp']
        clear hcp'
        go_wp2_with fail
        go_ret2
        exact retTB_none (by rw [HR.out, HF2.out, HX.out]; rfl) hbA
    · obtain rfl : k = n := by omega
      have hrd := hrow.rd (n := z.size) HF.out.2.symm (by omega)
      have HX := Lib.hid (show combF (codes z) l = some O by rw [HF.out.1, List.drop_of_length_le (by rw [← HN.out]; exact Nat.le_refl _)]; rfl)
      clear hrow
      go_wp2_with (with_reducible refine wp_text 22 5 9 Tryd.underlying22 Tryd.underlying5 Tryd.underlying9 _ rfl (.tmp 70) rfl rfl hrd ?_)
      go_ret2
      exact retTB_some (by rw [HR.out, HX.out]; rfl) hb

set_option maxRecDepth 100000 in
set_option maxHeartbeats 3200000 in
theorem sCombineCopies_c {ao : Option Addr} {n c : Nat} {l : List ByteArray} {w : World} (h : RdT w ao n l) (hs : ∀ s ∈ l, s.size ≤ 1048576) :
    Calls Tryd.prog 20 #[.slice ao n c] w (RetTB w (combR l)) := by
  have hn := h.1
  by_cases h12 : inB (n : Int) 1 16 = true
  case neg =>
    have h12' : inB (n : Int) 1 16 = false := by simpa using h12
    have hr := Lib.hid (combR_no (l := l) (by
      rcases Nat.lt_or_ge n 1 with h1 | h1
      · exact .inl (by omega)
      · exact .inr (by rw [← hn]; rcases Nat.lt_or_ge 16 n with h2 | h2; exact h2; exact absurd (inB_true (show (1 : Int) ≤ (n : Int) by omega) (show (n : Int) ≤ 16 by omega)) h12)))
    clear hn h12
    go_enter Tryd.func20, Tryd.ntmps20
    go_wp2_with fail
    refine (l1In_c _ _ _ _).mono ?_; rintro e w' ⟨rfl, rfl⟩
    rw [h12']
    go_wp2_with fail
    go_ret2
    exact retTB_none hr.out (Below.refl _ _)
  case pos =>
  have h12b := inB_iff.1 h12
  have HR := Lib.hid (combR_yes (l := l) (by omega) (by omega))
  have HS := Lib.hid hs
  have HN := Lib.hid hn
  have hn16 : n ≤ 16 := by omega
  have hn0 : 0 < n := by omega
  have hn1 : (0 : Int) < (n : Int) := by omega
  have hn2 : ¬ n = 0 := by omega
  obtain ⟨b0, o0, rfl, hl0, hc0⟩ := h.at hn0
  have HZ := HS.out _ (List.getElem_mem hl0)
  rw [Nat.add_zero] at hc0
  obtain ⟨z, hz⟩ : ∃ z, z = l[0] := ⟨_, rfl⟩
  rw [← hz] at HR hc0 HZ
  clear hs hn hz
  go_enter Tryd.func20, Tryd.ntmps20
  go_wp2_with fail
  refine (l1In_c _ _ _ _).mono ?_; rintro e w' ⟨rfl, rfl⟩
  rw [h12]
  clear h12
  go_wp2_with (with_reducible refine wp_bytes 9 22 5 Tryd.underlying9 Tryd.underlying22 Tryd.underlying5 _ rfl (.tmp 13) rfl z rfl ?_; intro w1 cc hrow hb1 hsz1 hcc)
  clear hsz1
  go_loopw [5] (fun i wr => ∃ (k : Nat) (O : List Int), k ≤ n ∧ i = .int .i64 k ∧ Hid (combF (codes z) l = combF O (l.drop k) ∧ O.length = z.size) ∧ RowB wr w.heap.size w.heap.size O ∧ Below w.heap.size w wr) (fun i _ => n - (intOf i).toNat)
  case atStart => exact ⟨0, codes z, Nat.zero_le _, rfl, Lib.hid ⟨by rw [List.drop_zero], codes_length z⟩, hrow, hb1⟩
  case round =>
    clear hrow hb1
    obtain ⟨k, O, hk, rfl, HF, hrow, hb⟩ := hrel
    obtain ⟨wo, hwo⟩ : ∃ wo : World, wo = wr := ⟨_, rfl⟩
    subst hwo
    by_cases hlt : k < n
    · obtain ⟨b1, o1, he, hl, hc⟩ := (h.below hb).at hlt
      cases he
      have hcz : wo.cell? ({ block := b0, off := o0 } : Addr) = some (.string z) := by rw [hb.cell (lt_of_cell hc0)]; exact hc0
      have HD := Lib.hid (List.drop_eq_getElem_cons hl)
      have HSk := HS.out _ (List.getElem_mem hl)
      obtain ⟨s, hsd⟩ : ∃ s, s = l[k] := ⟨_, rfl⟩
      have HSD := Lib.hid hsd
      rw [← hsd] at HD hc HSk
      have HF2 := Lib.hid (show combF (codes z) l = combF O (s :: l.drop (k + 1)) by rw [HF.out.1, HD.out])
      clear hsd HD
      by_cases hcp : copyB s = true
      · by_cases hsz : s.size = O.length
        · have hszz : s.size = z.size := by rw [hsz, HF.out.2]
          have hOz : O.length = z.size := HF.out.2
          have hOC : O.length = (codes s).length := by rw [codes_length, hsz]
          have HOK := Lib.hid (fun h3 => combF_yes (O := O) (l := l.drop (k + 1)) hcp hsz h3)
          have HNO := Lib.hid (fun h3 => combF_no3 (O := O) (s := s) (l := l.drop (k + 1)) h3)
          have HCL := Lib.hid hOC
          have HOZ := Lib.hid hOz
          clear hsz hOz hOC HF
          have hne : ((s.size : Int) != (z.size : Int)) = false := by simp [hszz]
          go_wp2_with fail
          go_quiet ((first | (go_at_call 39; exact quiet_eq (l7Copy_c s _ (by omega)))))
          go_wp2_with fail
          go_loopw [6] (fun i wr => ∃ j : Nat, j ≤ z.size ∧ i = .int .i64 j ∧ Hid (okK O (codes s) j = true) ∧ RowB wr w.heap.size w.heap.size (rowM O (codes s) j) ∧ Below w.heap.size w wr) (fun i _ => z.size - (intOf i).toNat)
          case atStart => exact ⟨0, Nat.zero_le _, rfl, Lib.hid (okK_zero _ _), by rw [rowM_zero]; exact hrow.below ((Qw.drewN _ _).below _), belowD hb⟩
          case round =>
            clear hrow hb hc hcz
            obtain ⟨j, hj, rfl, HK, hrow, hb⟩ := hrel
            obtain ⟨wi, hwi⟩ : ∃ wi : World, wi = wr := ⟨_, rfl⟩
            subst hwi
            by_cases hjl : j < z.size
            · obtain ⟨b1, o1, he, hl, hc⟩ := (h.below hb).at hlt
              cases he
              rw [← HSD.out] at hc
              have hjs : j < s.size := by omega
              have hjO : j < O.length := by rw [HOZ.out]; exact hjl
              have hjM : j < (rowM O (codes s) j).length := by rw [rowM_length HCL.out]; exact hjO
              have hjC : j < (codes s).length := by rw [codes_length]; exact hjs
              have HCG := Lib.hid (codes_get s hjs)
              have hcl := hrow.cell hjM
              have hfr := hrow.free hjM
              rw [rowM_get HCL.out hjO] at hcl
              have HKE := Lib.hid (fun he => rowM_keep HCL.out hjO he)
              have HST := Lib.hid (rowM_set HCL.out hjO)
              have HSU := Lib.hid (fun h1 => okK_succ hjO hjC HK.out h1)
              have HFA := Lib.hid (fun h1 => okK_fail hjO hjC h1)
              have hrow2 := hrow.set (i := j) (s[j].toNat : Int)
              have hb2 := hrow.belowSet hb j (.int .u8 (s[j].toNat : Int))
              rw [HCG.out] at HKE HST HSU HFA
              by_cases g3 : (O[j] == 63) = true
              · have HA := Lib.hid (HSU.out (okP_3 g3))
                rw [mx_new g3] at HST
                rw [HST.out] at hrow2
                clear HSU HFA HKE
                go_wp2_with fail
                go_roundw
                case rel => exact ⟨j + 1, by omega, by go_num, Lib.hid HA.out, hrow2, hb2⟩
                case measure => simp [intOf]; omega
              · have g3' : (O[j] == 63) = false := by simpa using g3
                clear g3 hrow2 hb2 HST
                by_cases g1 : ((s[j].toNat : Int) == 63) = true
                · have HA := Lib.hid (HSU.out (okP_1 g1))
                  have HB := Lib.hid (HKE.out (mx_q g1))
                  have g1b : ((s[j].toNat : Int) != 63) = false := by simp [bne, g1]
                  clear HSU HFA HKE g1
                  go_wp2_with fail
                  go_quiet (fail)
                  go_wp2_with fail
                  go_roundw
                  case rel => exact ⟨j + 1, by omega, by go_num, Lib.hid HA.out, rowM_drew hrow HB.out, belowD hb⟩
                  case measure => simp [intOf]; omega
                · have g1' : ((s[j].toNat : Int) == 63) = false := by simpa using g1
                  have g1b : ((s[j].toNat : Int) != 63) = true := by simp [bne, g1']
                  clear g1
                  by_cases g2 : ((s[j].toNat : Int) == O[j]) = true
                  · have HA := Lib.hid (HSU.out (okP_2 g2))
                    have HB := Lib.hid (HKE.out (mx_same g2))
                    have g2b : ((s[j].toNat : Int) != O[j]) = false := by simp [bne, g2]
                    clear HSU HFA HKE g1' g2
                    go_wp2_with fail
                    go_quiet (fail)
                    go_wp2_with fail
                    go_roundw
                    case rel => exact ⟨j + 1, by omega, by go_num, Lib.hid HA.out, rowM_drew hrow HB.out, belowD hb⟩
                    case measure => simp [intOf]; omega
                  · have g2' : ((s[j].toNat : Int) == O[j]) = false := by simpa using g2
                    have g2b : ((s[j].toNat : Int) != O[j]) = true := by simp only [bne, g2']; rfl
                    have HX := Lib.hid (HNO.out (HFA.out (okP_no g1' g2' g3')))
                    clear HSU HFA HKE g1' g2 g2'
                    go_wp2_with fail
                    go_quiet (fail)
                    go_wp2_with fail
                    go_ret2
                    exact retTB_none (by rw [HR.out, HF2.out, HX.out]; rfl) (belowD hb)
            · obtain rfl : j = z.size := by omega
              have HA := Lib.hid (HOK.out (okK_all (by rw [HOZ.out]; exact Nat.le_refl _) HK.out))
              rw [rowM_all HCL.out (by rw [HOZ.out]; exact Nat.le_refl _)] at hrow
              go_wp2_with fail
              go_roundw
              case rel => exact ⟨k + 1, _, by omega, by go_num, Lib.hid ⟨by rw [HF2.out, HA.out], by rw [List.length_zipWith, ← HCL.out, HOZ.out]; omega⟩, hrow, hb⟩
              case measure => simp [intOf]; omega
        · have HX := Lib.hid (combF_no2 (l := l.drop (k + 1)) hsz)
          have hne : ((s.size : Int) != (z.size : Int)) = true := by rw [← HF.out.2]; simp; omega
          clear hsz
          go_wp2_with fail
          go_quiet ((first | (go_at_call 39; exact quiet_eq (l7Copy_c s _ (by omega)))))
          go_wp2_with fail
          go_ret2
          exact retTB_none (by rw [HR.out, HF2.out, HX.out]; rfl) (belowD hb)
      · have hcp' : copyB s = false := by simpa using hcp
        have HX := Lib.hid (combF_no1 (O := O) (l := l.drop (k + 1)) hcp')
        clear hcp
        go_wp2_with fail
        go_quiet ((first | (go_at_call 39; exact quiet_eq (l7Copy_c s _ (by omega)))))
        go_wp2_with fail
        go_ret2
        exact retTB_none (by rw [HR.out, HF2.out, HX.out]; rfl) (belowD hb)
    · obtain rfl : k = n := by omega
      have hrd := hrow.rd (n := z.size) HF.out.2.symm (by omega)
      have HX := Lib.hid (show combF (codes z) l = some O by rw [HF.out.1, List.drop_of_length_le (by rw [← HN.out]; exact Nat.le_refl _)]; rfl)
      clear hrow
      go_wp2_with (with_reducible refine wp_text 22 5 9 Tryd.underlying22 Tryd.underlying5 Tryd.underlying9 _ rfl (.tmp 79) rfl rfl hrd ?_)
      go_ret2
      exact retTB_some (by rw [HR.out, HX.out]; rfl) hb

end Go.Proofs.YtaoahgngpjoekaaDoor
