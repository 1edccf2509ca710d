/- AdmitStation of the program: the ways. No condition beyond lengths. -/
import Derived.Test.YtklbdkbaldkkpaaAs
namespace Go.Proofs.Ytklbdkbaldkkpaa
open Go.RowKit

set_option maxRecDepth 100000 in
set_option maxHeartbeats 1600000 in
theorem admit_y {ao : Option Addr} {n c : Nat} {l : List Stn} {w : World} (nm : ByteArray) (d loss : Int) (h : RdS w ao n l) (hc : n ≤ c) (h1 : cellB l = true) (h2 : n < 8) (h3 : nameB nm = true) (h4 : idxS l nm = -1) (h5 : inB loss 1 20 = true) :
    Calls Try.prog 35 #[.slice ao n c, .string nm, .int .i64 d, .int .i64 loss] w (RetSB w (admR l nm d loss)) := by
  have hs := h.2.1
  have h8 := cellB_8 h1
  have hn := h.1
  have hr := Lib.hid (admR_y (d := d) h1 (by omega) h3 h4 h5)
  have H4 := Lib.hid h4; clear h4
  have HP := Lib.hid (paths_ok h1)
  have HN := Lib.hid hn; clear hn
  go_enter Try.func35, Try.ntmps35
  go_wp2_with fail
  refine (CellValid_c h hc).mono ?_; rintro e w1 ⟨rfl, hb1⟩
  rw [h1]
  clear h1
  go_wp2_with fail
  refine (nameValid_c _ _).mono ?_; rintro e w' ⟨rfl, rfl⟩
  rw [h3]
  clear h3
  go_wp2_with fail
  refine (stationIndex_c nm (h.below hb1)).mono ?_; rintro e w2 ⟨rfl, hb2⟩
  rw [H4.out]
  go_wp2_with fail
  refine (lossValid_c _ _).mono ?_; rintro e w' ⟨rfl, rfl⟩
  rw [h5]
  clear h5
  have hbA := hb1.trans (hb2.mono hb1.size)
  have hA := h.below hbA
  clear hb1 hb2 h
  go_wp2_with (at_make; refine wp_makeF 59 9 16 ByteArray.empty Try.underlying59 info_str rfl (by decide) w2 rfl _ _ rfl .i64 .i64 n rfl rfl (by omega) ?_; intro w3 hownF hbF)
  have hL : (l.map Stn.ph).length = n := by rw [List.length_map, ← HN.out]
  have HL := Lib.hid hL
  have hF := FillF.start hownF hL (by simp)
  clear hownF hL
  have hz2 := hbA.size
  go_loopw [45] (fun i wr => ∃ k : Nat, k ≤ n ∧ i = .int .i64 k ∧ FillT wr w2.heap.size w2.heap.size n (l.map Stn.ph) (List.replicate n ByteArray.empty) k ∧ Below w2.heap.size w2 wr) (fun i _ => n - (intOf i).toNat)
  case atStart => exact ⟨0, Nat.zero_le _, rfl, hF, hbF⟩
  case round =>
    clear hF hbF
    obtain ⟨k, hk, rfl, hF, hb⟩ := hrel
    obtain ⟨wo, hwo⟩ : ∃ wo : World, wo = wr := ⟨_, rfl⟩
    subst hwo
    have hz := hb.size
    have h2 := hA.below hb
    by_cases hlt : k < n
    · obtain ⟨bk, off, rfl, hl, hc0, hc1, hc2, hc3⟩ := h2.at hlt
      have hB0 : Below wo.heap.size wo (wo.alloc (.cells #[.string l[k].nm, .string l[k].ph, .int .i64 l[k].g, .int .i64 l[k].l] 37)) := (Below.refl _ _).alloc (Nat.le_refl _) _
      have hBx := Box.new wo #[.string l[k].nm, .string l[k].ph, .int .i64 l[k].g, .int .i64 l[k].l] 37
      have d1 := hBx.cell (i := 1) rfl
      have hF1 := hF.alter hB0
      obtain ⟨z, hcz⟩ := hF1.cell hlt
      have hf := hF1.free k
      have hst := hF1.step hlt (y := .string l[k].ph) (fun hl => by simp)
      have hbn := hF1.below (hb.alloc hz _) (.string l[k].ph)
      clear hF hF1 hb hA h2
      go_wp2_with fail
      go_roundw
      case rel => exact ⟨k + 1, by omega, by go_num, hst, hbn⟩
      case measure => simp [intOf]; omega
    · obtain rfl : k = n := by omega
      obtain ⟨a1, n1, c1, e1, ho⟩ := (hF.done (Nat.le_refl _)).own (by rw [HL.out]; omega)
      cases e1
      have hU := ho.rd
      have hB2 := hbA.trans (hb.mono hz2)
      have hzB := hB2.size
      clear hF hb hA ho hlt
      go_wp2_with fail
      refine (AllocateTree_c d hU HP.out (by omega)).mono ?_; rintro e w4 hret
      cases hal : allocR (l.map Stn.ph) d with
      | none =>
        rw [hal] at hret
        obtain ⟨rfl, hb4⟩ := hret
        have hr2 := Lib.hid (show admR l nm d loss = none by rw [hr.out, hal]; rfl)
        have HAL := Lib.hid hal; clear hal
        go_wp2_with fail
        go_ret2
        exact retSB_nil hr2.out (hB2.trans (hb4.mono hzB))
      | some p =>
        rw [hal] at hret
        obtain ⟨he4, hb4⟩ := hret
        obtain rfl : e = .returned (.tuple #[.string p, .bool true]) := he4
        have hr2 := Lib.hid (show admR l nm d loss = some (l ++ [⟨nm, p, 1, loss⟩]) by rw [hr.out, hal]; rfl)
        have HAL := Lib.hid hal; clear hal
        have hB4 := hB2.trans (hb4.mono hzB)
        have hz4 := hB4.size
        have h4 := h2.below hb4
        clear h2 hU hb4 hB2
        have hlen := HN.out
        have HLN := Lib.hid hlen; clear hlen
        go_wp2_with (first | (at_make; go_loud (refine wp_makeNS _ rfl (.tmp 65) (.tmp 68) rfl .i64 .i64 k _ rfl rfl rfl (by omega) ?_); intro w5 hownA hb5; have hB5 := hB4.trans (hb5.mono hz4); have hz5 := hB5.size; have hownB := ownsRow_mono hownA hz4; have h5 := h4.below hb5) | (with_reducible refine wp_copyS (w0 := w) _ rfl (.tmp 70) (.tmp 71) rfl w.heap.size w4.heap.size k (k + 1) c (List.replicate k zstn) l ao rfl rfl (by exact hownB) h5 hB5 ?_; intro w6 hown6 hb6; have hz6 := hb6.size) | (at_builtin; go_loud (refine wp_appSS _ rfl (.tmp 73) (.tmp 78) rfl w.heap.size _ l [⟨nm, p, 1, loss⟩] _ 1 1 rfl (by exact World.ownsRow.alloc hown6 _) rfl (rdS_new w6 ⟨nm, p, 1, loss⟩ _) (by intro e; cases e) (by have := HLN.out; omega) (by simp; omega) ?_); intro v7 w7 hown7 _ hb7; have hB7 := (hb6.alloc hz6 _).trans hb7))
        go_ret2
        exact retSB_mk hown7 (by rw [List.length_append]; have := HLN.out; simp; omega) (by rw [hr2.out]; rfl) (by rw [hr2.out]; rfl) hB7

end Go.Proofs.Ytklbdkbaldkkpaa
