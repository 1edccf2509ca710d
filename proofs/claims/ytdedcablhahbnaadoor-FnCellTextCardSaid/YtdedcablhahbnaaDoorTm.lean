/- A cell parsed from its text by the reference (ParseCell). Conditions: lengths. NOT BUILT YET. -/
import Derived.Test.YtdedcablhahbnaaDoorTl
namespace Go.Proofs.YtdedcablhahbnaaDoor
open Go.RowKit

theorem OwnF.box {α : Type} {f : α → Value} {t : TypeId} {w : World} {lo n c : Nat} {ao : Option Addr} {l : List α} (h : OwnF f t w lo ao n c l) (hn : 0 < n) : ∃ g cur, ao = some ⟨g, 0, none⟩ ∧ lo ≤ g ∧ Box w g cur t ∧ ∀ i (hi : i < l.length), cur[i]? = some (f l[i]) := by
  have hr := h.rd
  rcases h.2.2.2 with ⟨h1, h2⟩ | ⟨g, cap, cur, hv, hg, hb, hcap, hmx, hsz, hx⟩
  · omega
  · cases hv
    refine ⟨g, cur, rfl, hg, hb, fun i hi => ?_⟩
    have hi2 : i < n := by rw [h.1]; exact hi
    have h3 : (cur.toList.take (n * 1))[i]? = some (f l[i]) := by rw [hx]; simp [hi]
    rw [List.getElem?_take, if_pos (by omega), Array.getElem?_toList] at h3
    exact h3
theorem rawS_len {p : ByteArray} (h : (cutT 58 p).length ≠ 4) : rawS p = none := by
  unfold rawS
  split
  · next hc => rw [hc] at h; exact absurd rfl h
  · rfl
theorem rawS_four {p f0 f1 f2 f3 : ByteArray} (h : cutT 58 p = [f0, f1, f2, f3]) : rawS p = some ⟨f0, noneT f1, (numT f2).getD 0, (numT f3).getD 0⟩ := by
  unfold rawS; rw [h]
theorem none_sz (s : ByteArray) : (noneT s).size ≤ s.size := by
  unfold noneT; split
  · exact Nat.zero_le _
  · exact Nat.le_refl _
theorem rawS_size {p : ByteArray} {s : Stn} (h : rawS p = some s) : s.nm.size ≤ p.size ∧ s.ph.size ≤ p.size := by
  unfold rawS at h
  split at h
  · next f0 f1 f2 f3 hc =>
    obtain rfl := Option.some.inj h
    have hz := cutT_szs (c := 58) (s := p) (Nat.le_refl _)
    rw [hc] at hz
    exact ⟨hz f0 (by simp), Nat.le_trans (none_sz f1) (hz f1 (by simp))⟩
  · cases h
theorem snoc_raw {S : List Stn} {x : Stn} {P : List ByteArray} {k : Nat} (hl : S.length = k) (hk : k < P.length) (h : ∀ i (h : i < P.length) (h' : i < S.length), rawS P[i] = some S[i]) (hx : rawS P[k] = some x) : ∀ i (h : i < P.length) (h' : i < (S ++ [x]).length), rawS P[i] = some (S ++ [x])[i] := by
  intro i h1 h2
  rw [List.length_append, List.length_singleton] at h2
  by_cases e : i < S.length
  · rw [List.getElem_append_left e]; exact h i h1 e
  · obtain rfl : i = k := by omega
    rw [List.getElem_append_right (by omega)]
    simp only [hl, Nat.sub_self, List.getElem_cons_zero]
    exact hx
theorem take9_get {P : List ByteArray} {k : Nat} (hk : k < P.length) (h8 : k ≤ 8) : ∃ h : k < (P.take 9).length, (P.take 9)[k] = P[k] := ⟨by rw [List.length_take]; omega, by rw [List.getElem_take]⟩
theorem spT_dash {t : ByteArray} (hd : bts t = [45]) : spT t = some [] := by unfold spT; rw [if_pos hd]
theorem spT_bad {t : ByteArray} (hd : bts t ≠ [45]) {k : Nat} (h : k < ((cutT 59 t).take 9).length) (hf : rawS ((cutT 59 t).take 9)[k] = none) : spT t = none := by
  unfold spT; rw [if_neg hd, allO_none h hf]
theorem spT_all {t : ByteArray} (hd : bts t ≠ [45]) {S : List Stn} (hl : S.length = ((cutT 59 t).take 9).length) (hf : ∀ i (h : i < ((cutT 59 t).take 9).length) (h' : i < S.length), rawS ((cutT 59 t).take 9)[i] = some S[i]) : spT t = if bts (fmtT S) = bts t then some S else none := by
  unfold spT; rw [if_neg hd, allO_mk hl hf]

set_option maxRecDepth 100000 in
set_option maxHeartbeats 3200000 in
theorem sParseCell_c (t : ByteArray) (w : World) (hs : t.size ≤ 1000000000) : Calls Tryd.prog 11 #[.string t] w (RetSB w (spT t)) := by
  have hb0 : Below w.heap.size w (w.alloc (.cells #[] 37)) := (Below.refl _ _).alloc (Nat.le_refl _) _
  have ho0 : OwnVS (w.alloc (.cells #[] 37)) w.heap.size (.slice (some ⟨w.heap.size, 0, none⟩) 0 0) [] := OwnVS.made0 w (Nat.le_refl _)
  by_cases hd : bts t = [45]
  · have hr := Lib.hid (spT_dash hd)
    have t1 := tl_eq hd
    clear hd
    go_enter Tryd.func11, Tryd.ntmps11
    go_wp2_with fail
    go_ret2
    exact retSB_mk ho0 (by simp) (by rw [hr.out]; rfl) (by rw [hr.out]; rfl) hb0
  · have t1 := tl_ne hd
    have HBAD := Lib.hid (fun k (h : k < ((cutT 59 t).take 9).length) (hf : rawS ((cutT 59 t).take 9)[k] = none) => spT_bad hd h hf)
    have HALL := Lib.hid (fun S hl hf => spT_all (t := t) hd (S := S) hl hf)
    have HCU := Lib.hid (fun c => l9Cut_c t 59 59 rfl c hs)
    have hsz := cutT_szs (c := 59) hs
    have hc9 : (cutT 59 t).length ≤ 1000000001 := by have := cutT_count (c := 59) (s := t); omega
    have hc1 : 0 < (cutT 59 t).length := by rw [cutT_len]; omega
    generalize cutT 59 t = P at *
    have HSZ := Lib.hid hsz
    clear hd hsz
    go_enter Tryd.func11, Tryd.ntmps11
    go_wp2_with fail
    refine (HCU.out _).mono ?_; rintro e w1 ⟨ap, np, cp, rfl, hoP, hbS⟩
    have HNP := Lib.hid hoP.1
    obtain ⟨g, cur, rfl, hg0, hBX, hcur⟩ := hoP.box (by rw [HNP.out]; exact hc1)
    have HCUR := Lib.hid hcur
    have hb1 := hb0.trans (hbS.mono hb0.size)
    have ho1 : OwnVS w1 w.heap.size (.slice (some ⟨w.heap.size, 0, none⟩) 0 0) [] := ownsRow_below ho0 hbS fun k hk => (ho0.lt k hk).2
    have hn9 : np ≤ 1000000001 := by rw [HNP.out]; exact hc9
    clear hbS ho0 hb0 hoP hcur
    go_wp2_with fail
    go_loopw [4, 6] (fun v i wr => ∃ (k : Nat) (S : List Stn), k ≤ np ∧ k ≤ 9 ∧ i = .int .i64 k ∧ Hid (S.length = k) ∧ Hid (∀ i (h : i < (P.take 9).length) (h' : i < S.length), rawS (P.take 9)[i] = some S[i]) ∧ OwnVS wr w.heap.size v S ∧ Box wr g cur 9 ∧ Below w.heap.size w wr) (fun _ i _ => np - (intOf i).toNat)
    case atStart => exact ⟨0, [], Nat.zero_le _, Nat.zero_le _, rfl, Lib.hid rfl, Lib.hid (fun i _ h => absurd h (by simp)), ho1, hBX, hb1⟩
    case round =>
      clear ho1 hBX hb1
      obtain ⟨k, S, hk, hk9, rfl, HL, HF, ho, hBX, hb⟩ := hrel
      have hz := hb.size
      by_cases hlt : k < np
      · by_cases h8 : k ≤ 8
        · have h8i : (k : Int) ≤ 8 := by omega
          have hkP : k < P.length := by rw [← HNP.out]; exact hlt
          have hc := hBX.cell (HCUR.out k hkP)
          have hpz := HSZ.out _ (List.getElem_mem hkP)
          obtain ⟨h9, e9⟩ := take9_get hkP h8
          have HBK := Lib.hid (HBAD.out k h9)
          have HSN := Lib.hid (fun x => snoc_raw (x := x) HL.out h9 HF.out)
          rw [e9] at HBK HSN
          have HCP := Lib.hid (fun c => l9Cut_c P[k] 58 58 rfl c hpz)
          have HR4 := Lib.hid (fun f0 f1 f2 f3 => rawS_four (p := P[k]) (f0 := f0) (f1 := f1) (f2 := f2) (f3 := f3))
          have HRL := Lib.hid (rawS_len (p := P[k]))
          have hfz := cutT_szs (c := 58) hpz
          have hfc : (cutT 58 P[k]).length ≤ 1000000001 := by have := cutT_count (c := 58) (s := P[k]); omega
          clear h9 e9
          go_wp2_with fail
          refine (HCP.out _).mono ?_; rintro e w2 ⟨af, nf, cf, rfl, hoF, hb2⟩
          have HNF := Lib.hid hoF.1
          have hnf9 : nf ≤ 1000000001 := by rw [HNF.out]; exact hfc
          have hBX2 := hBX.below hb2 hBX.lt
          have hb3 := hb.trans (hb2.mono hb.size)
          have hz3 := hb3.size
          have ho2 : OwnVS w2 w.heap.size _ S := ownsRow_below ho hb2 fun k hk => (ho.lt k hk).2
          clear hBX ho hb hb2 hc
          by_cases h4 : nf = 4
          · obtain ⟨f0, f1, f2, f3, hf⟩ := four_of (show (cutT 58 P[k]).length = 4 by rw [← HNF.out]; exact h4)
            have hn4 : ((nf : Int) != 4) = false := by rw [h4]; rfl
            have HX := Lib.hid (HR4.out f0 f1 f2 f3 hf)
            rw [hf] at hoF hfz
            obtain ⟨fb, fc, rfl, hfb, hBF, hfcur⟩ := hoF.box (by omega)
            have d0 := hBF.cell (hfcur 0 (by simp))
            have d1 := hBF.cell (hfcur 1 (by simp))
            have d2 := hBF.cell (hfcur 2 (by simp))
            have d3 := hBF.cell (hfcur 3 (by simp))
            simp only [List.getElem_cons_zero, List.getElem_cons_succ] at d0 d1 d2 d3
            have z2 := hfz f2 (by simp)
            have z3 := hfz f3 (by simp)
            have HFC := Lib.hid hfcur
            have hnf1 : 3 < nf := by omega
            have hnf0 : 0 < nf := by omega
            have hnf2 : 1 < nf := by omega
            have hnf3 : (1 : Int) < (nf : Int) := by omega
            have hnf4 : (0 : Int) < (nf : Int) := by omega
            have hnf5 : ¬ nf = 0 := by omega
            clear hf h4 hoF hfz hfcur
            go_wp2_with fail
            refine (l9Num_c f2 _ (by omega)).mono ?_; rintro e w' ⟨rfl, rfl⟩
            go_wp2_with fail
            refine (l9Num_c f3 _ (by omega)).mono ?_; rintro e w' ⟨rfl, rfl⟩
            generalize (numT f2).getD 0 = gn at *
            generalize (numT f2).isSome = gb at *
            generalize (numT f3).getD 0 = ln at *
            generalize (numT f3).isSome = lb at *
            have HS2 := Lib.hid (HSN.out ⟨f0, noneT f1, gn, ln⟩ HX.out)
            have C0 : w2.drew.cell? ⟨fb, 0, none⟩ = some (.string f0) ∧ w2.drew.cell? ⟨fb, 1, none⟩ = some (.string f1) := ⟨d0, d1⟩
            have hWO : Below w2.heap.size w2 (w2.alloc (.cells #[.string f0, .string (noneT f1), .int .i64 gn, .int .i64 ln] 37)) := (Below.refl _ _).alloc (Nat.le_refl _) _
            have hBFA : Box (w2.alloc (.cells #[.string f0, .string (noneT f1), .int .i64 gn, .int .i64 ln] 37)).drew fb fc 9 := hBF.alloc (.cells #[.string f0, .string (noneT f1), .int .i64 gn, .int .i64 ln] 37)
            have CA : (w2.alloc (.cells #[.string f0, .string (noneT f1), .int .i64 gn, .int .i64 ln] 37)).drew.cell? ⟨fb, 0, none⟩ = some (.string f0) ∧ (w2.alloc (.cells #[.string f0, .string (noneT f1), .int .i64 gn, .int .i64 ln] 37)).drew.cell? ⟨fb, 1, none⟩ = some (.string f1) := ⟨(hWO.cell (lt_of_cell d0)).trans d0, (hWO.cell (lt_of_cell d1)).trans d1⟩
            have hownA : OwnVS (w2.alloc (.cells #[.string f0, .string (noneT f1), .int .i64 gn, .int .i64 ln] 37)).drew w.heap.size _ S := World.ownsRow.alloc ho2 (.cells #[.string f0, .string (noneT f1), .int .i64 gn, .int .i64 ln] 37)
            have hrx : RdS (w2.alloc (.cells #[.string f0, .string (noneT f1), .int .i64 gn, .int .i64 ln] 37)).drew (some ⟨w2.heap.size, 0, none⟩) 1 [⟨f0, noneT f1, gn, ln⟩] := rdS_new w2 ⟨f0, noneT f1, gn, ln⟩ 37
            have hzA : w.heap.size ≤ (w2.alloc (.cells #[.string f0, .string (noneT f1), .int .i64 gn, .int .i64 ln] 37)).drew.heap.size := Nat.le_trans hz3 hWO.size
            have hBXA : Box (w2.alloc (.cells #[.string f0, .string (noneT f1), .int .i64 gn, .int .i64 ln] 37)).drew g cur 9 := hBX2.alloc (.cells #[.string f0, .string (noneT f1), .int .i64 gn, .int .i64 ln] 37)
            have hbA : Below w.heap.size w (w2.alloc (.cells #[.string f0, .string (noneT f1), .int .i64 gn, .int .i64 ln] 37)).drew := hb3.trans ((Below.drew hWO).mono hz3)
            have hSl : S.length ≤ 9 := by have := HL.out; omega
            go_wp2_with fail
            go_region_held3 (fun w' => w'.cell? ⟨fb, 0, none⟩ = some (.string f0) ∧ w'.cell? ⟨fb, 1, none⟩ = some (.string f1)) (first | with_reducible exact C0 | with_reducible exact CA | with_reducible exact C3) (first | (go_at_call 30; refine (l8None_c _ _).mono ?_; rintro e w' ⟨rfl, rfl⟩) | (refine step_appSS (w2.alloc (.cells #[.string f0, .string (noneT f1), .int .i64 gn, .int .i64 ln] 37)).drew rfl (.tmp 51) (.tmp 62) rfl w.heap.size _ S [⟨f0, noneT f1, gn, ln⟩] _ 1 1 rfl (by exact hownA) rfl (by exact hrx) (by intro e; cases e) (by omega) (by exact hzA) ?_; intro v' w5 ho5 hg5 hb6; have hBF5 := hBFA.grown hg5 (own_off hownA hBFA (by decide)); have hBX5 := hBXA.grown hg5 (own_off hownA hBXA (by decide)); have C3 : w5.cell? ⟨fb, 0, none⟩ = some (.string f0) ∧ w5.cell? ⟨fb, 1, none⟩ = some (.string f1) := ⟨hBF5.cell (HFC.out 0 (by simp)), hBF5.cell (HFC.out 1 (by simp))⟩))
            all_goals
              have hb7 := hbA.trans hb6
              have HLS := Lib.hid (show (S ++ [(⟨f0, noneT f1, gn, ln⟩ : Stn)]).length = k + 1 by rw [List.length_append, HL.out]; rfl)
              go_wp2_with fail
              go_roundw
              case rel => exact ⟨k + 1, S ++ [⟨f0, noneT f1, gn, ln⟩], by omega, by omega, by go_num, HLS, HS2, ho5, hBX5, hb7⟩
              case measure => simp [intOf]; omega
          · have hn4 : ((nf : Int) != 4) = true := by rw [bne_iff_ne]; omega
            have hr := Lib.hid (HBK.out (HRL.out (by rw [← HNF.out]; exact h4)))
            clear h4
            go_wp2_with fail
            go_ret2
            exact retSB_mk (OwnVS.mono (OwnVS.made0 w2 (Nat.le_refl _)) hb3.size) (by simp) (by rw [hr.out]; rfl) (by rw [hr.out]; rfl) (hb3.alloc hb3.size _)
        · have h8i : ¬ (k : Int) ≤ 8 := by omega
          have hbs := ho.own (by have := HL.out; omega)
          obtain ⟨a2, n2, c2, hv, ho2⟩ := hbs
          subst hv
          have HA := Lib.hid (HALL.out S (by rw [HL.out, List.length_take, ← HNP.out]; omega) HF.out)
          have hm2 : ∀ i (h : i < S.length), (S[i]'h).nm.size ≤ 1099511627776 ∧ (S[i]'h).ph.size ≤ 1099511627776 := fun i h => by
            have hip : i < (P.take 9).length := by rw [List.length_take, ← HNP.out]; have := HL.out; omega
            have h1 := rawS_size (HF.out i hip h)
            have h2 := HSZ.out _ (List.mem_of_mem_take (List.getElem_mem hip))
            omega
          go_wp2_with fail
          refine (sFormatCell_c ho2.rd hm2).mono ?_; rintro e w3 ⟨rfl, hb3⟩
          have ho3 := ho2.below hb3
          have hb4 := hb.trans (hb3.mono hb.size)
          by_cases he : bts (fmtT S) = bts t
          · have hr := Lib.hid (HA.out.trans (if_pos he))
            have hne : ((fmtT S).toList != t.toList) = false := by rw [tl_bts, tl_bts, he]; simp
            have heq : ((fmtT S).toList == t.toList) = true := by rw [tl_bts, tl_bts, he]; simp
            clear he
            go_wp2_with fail
            go_ret2
            exact retSB_some' hr.out ho3 hb4
          · have hr := Lib.hid (HA.out.trans (if_neg he))
            have hne : ((fmtT S).toList != t.toList) = true := by rw [tl_bts, tl_bts, bne_iff_ne]; exact he
            have heq : ((fmtT S).toList == t.toList) = false := by rw [tl_bts, tl_bts, beq_eq_false_iff_ne]; exact he
            clear he
            go_wp2_with fail
            go_ret2
            exact retSB_mk (OwnVS.mono (OwnVS.made0 w3 (Nat.le_refl _)) hb4.size) (by simp) (by rw [hr.out]; rfl) (by rw [hr.out]; rfl) (hb4.alloc hb4.size _)
      · obtain rfl : k = np := by omega
        have hbs := ho.own (by have := HL.out; omega)
        obtain ⟨a2, n2, c2, hv, ho2⟩ := hbs
        subst hv
        have HA := Lib.hid (HALL.out S (by rw [HL.out, List.length_take, ← HNP.out]; omega) HF.out)
        have hm2 : ∀ i (h : i < S.length), (S[i]'h).nm.size ≤ 1099511627776 ∧ (S[i]'h).ph.size ≤ 1099511627776 := fun i h => by
          have hip : i < (P.take 9).length := by rw [List.length_take, ← HNP.out]; have := HL.out; omega
          have h1 := rawS_size (HF.out i hip h)
          have h2 := HSZ.out _ (List.mem_of_mem_take (List.getElem_mem hip))
          omega
        go_wp2_with fail
        refine (sFormatCell_c ho2.rd hm2).mono ?_; rintro e w3 ⟨rfl, hb3⟩
        have ho3 := ho2.below hb3
        have hb4 := hb.trans (hb3.mono hb.size)
        by_cases he : bts (fmtT S) = bts t
        · have hr := Lib.hid (HA.out.trans (if_pos he))
          have hne : ((fmtT S).toList != t.toList) = false := by rw [tl_bts, tl_bts, he]; simp
          have heq : ((fmtT S).toList == t.toList) = true := by rw [tl_bts, tl_bts, he]; simp
          clear he
          go_wp2_with fail
          go_ret2
          exact retSB_some' hr.out ho3 hb4
        · have hr := Lib.hid (HA.out.trans (if_neg he))
          have hne : ((fmtT S).toList != t.toList) = true := by rw [tl_bts, tl_bts, bne_iff_ne]; exact he
          have heq : ((fmtT S).toList == t.toList) = false := by rw [tl_bts, tl_bts, beq_eq_false_iff_ne]; exact he
          clear he
          go_wp2_with fail
          go_ret2
          exact retSB_mk (OwnVS.mono (OwnVS.made0 w3 (Nat.le_refl _)) hb4.size) (by simp) (by rw [hr.out]; rfl) (by rw [hr.out]; rfl) (hb4.alloc hb4.size _)

end Go.Proofs.YtdedcablhahbnaaDoor
