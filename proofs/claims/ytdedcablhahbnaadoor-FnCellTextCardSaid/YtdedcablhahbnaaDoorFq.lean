/- AllocateTree of the program and of the reference over valid paths. No condition beyond that. -/
import Derived.Test.YtdedcablhahbnaaDoorTb
import Derived.Test.YtdedcablhahbnaaDoorFp
namespace Go.Proofs.YtdedcablhahbnaaDoor
open Go.RowKit

/-- The path that is given out: the first that is free. -/
def allocR (u : List ByteArray) (d : Int) : Option ByteArray := if inB d 0 6 = true then (freeL u d.toNat (2 ^ d.toNat)).head? else none
theorem allocR_no {u : List ByteArray} {d : Int} (h : inB d 0 6 = false) : allocR u d = none := by unfold allocR; rw [h]; rfl
theorem allocR_yes {u : List ByteArray} {d : Nat} (h : d ≤ 6) : allocR u d = (freeL u d (2 ^ d)).head? := by
  unfold allocR; rw [inB_true (by omega) (by omega), if_pos rfl]; simp



set_option maxHeartbeats 800000 in
theorem l3Used_c {ao : Option Addr} {n c : Nat} {u : List ByteArray} {w : World} (d : Int) (h : RdT w ao n u) (hp : ∀ q ∈ u, pathB q = true) (hlen : n ≤ 70) :
    Calls Tryd.prog 73 #[.slice ao n c, .int .i64 d] w fun e w' => e = .returned (.bool (inB d 0 6)) ∧ w = w' := by
  have HP := Lib.hid hp; clear hp
  go_enter Tryd.func73, Tryd.ntmps73
  go_wp2
  go_loop [5] (fun i => ∃ k : Nat, k ≤ n ∧ i = .int .i64 k) (fun i => n - (intOf i).toNat)
  case atStart => exact ⟨0, Nat.zero_le _, rfl⟩
  case round =>
    obtain ⟨k, hk, rfl⟩ := hrel
    by_cases hlt : k < n
    · obtain ⟨bk, off, rfl, hl, hc⟩ := h.at hlt
      have hz := pathB_size (HP.out _ (List.getElem_mem hl))
      go_wp2_with fail
      refine (l3Path_c _ _ (by omega)).mono ?_; rintro e w' ⟨rfl, rfl⟩
      rw [HP.out _ (List.getElem_mem hl)]
      go_wp2_with fail
      go_round
      case rel => exact ⟨k + 1, by omega, by go_num⟩
      case measure => simp [intOf]; omega
    · go_wp2_with fail
      refine (l1In_c _ _ _ _).mono ?_; rintro e w' ⟨rfl, rfl⟩
      by_cases hd : inB d 0 6 = true
      · rw [hd]
        have HD := Lib.hid hd; clear hd
        go_wp2_with fail
        go_ret
        exact ⟨ret_b ((decide_eq_true (by omega)).trans HD.out.symm), rfl⟩
      · have hd' : inB d 0 6 = false := by simpa using hd
        rw [hd']
        have HD := Lib.hid hd'; clear hd hd'
        go_wp2_with fail
        go_ret
        exact ⟨ret_b HD.out.symm, rfl⟩

theorem text_add (l r : List Int) : text l ++ text r = text (l ++ r) := by
  apply ByteArray.ext; simp [text]
theorem binL_take {n d k : Nat} (h : k < d) : (binL n d).take (k + 1) = (binL n d).take k ++ [((48 + bitN n d k : Nat) : Int)] := by
  have hl : k < (binL n d).length := by rw [binL_len]; exact h
  rw [List.take_succ_eq_append_getElem hl, binL_get hl]

set_option maxRecDepth 100000 in
set_option maxHeartbeats 1600000 in
theorem l3Free_c {ao : Option Addr} {n c : Nat} {u : List ByteArray} {w : World} (d : Nat) (h : RdT w ao n u) (hd : d ≤ 6) (hp : ∀ q ∈ u, pathB q = true) (hlen : n ≤ 70) :
    Calls Tryd.prog 74 #[.slice ao n c, .int .i64 d] w fun e w' => ∃ bo m cc, e = .returned (.slice bo m cc) ∧ OwnT w' w.heap.size bo m cc (freeL u d (2 ^ d)) ∧ Below w.heap.size w w' := by
  have HN := Lib.hid h.1
  have HP := Lib.hid hp; clear hp
  have hP : 2 ^ d ≤ 64 := pow6 hd
  have hpw : (2 : Int) ^ (d : Int).toNat = ((2 ^ d : Nat) : Int) := by rw [Int.toNat_natCast, Int.natCast_pow]; rfl
  have HK := Lib.hid (show ∀ k, k < 2 ^ d → k < 64 from fun k hk => by omega)
  generalize hPe : 2 ^ d = P at *
  have HPW := Lib.hid hpw
  have hs := h.2.1
  have hb0 : Below w.heap.size w (w.alloc (.cells #[] 9)) := (Below.refl _ _).alloc (Nat.le_refl _) _
  clear hpw hPe
  go_enter Tryd.func74, Tryd.ntmps74
  go_wp2
  go_loopw [5, 6] (fun v i wr => ∃ k : Nat, k ≤ P ∧ i = .int .i64 k ∧ OwnVT wr w.heap.size v (freeL u d k) ∧ Below w.heap.size w wr) (fun _ i _ => P - (intOf i).toNat)
  case atStart => exact ⟨0, Nat.zero_le _, rfl, OwnVF.made0 _ _ w (Nat.le_refl _), hb0⟩
  case round =>
    obtain ⟨k2, hk2, rfl, hown, hb⟩ := hrel
    obtain ⟨wo, hwo⟩ : ∃ wo : World, wo = wr := ⟨_, rfl⟩
    subst hwo
    have hz := hb.size
    go_wp2_with fail
    refine (l1Two_c (d : Int) _ (by omega)).mono ?_; rintro e w' ⟨rfl, rfl⟩
    rw [HPW.out]
    by_cases hlt2 : k2 < P
    · have hk64 : k2 < 64 := HK.out k2 hlt2
      go_wp2_with fail
      go_loopw [7, 8] (fun v i wr => ∃ (j : Nat) (t : Int), j ≤ d ∧ t = (d : Int) - 1 - (j : Int) ∧ v = .string (text ((binL k2 d).take j)) ∧ i = .int .i64 t ∧ Below wo.heap.size wo wr) (fun _ i _ => (intOf i + 1).toNat)
      case atStart => exact ⟨0, (d : Int) - 1, Nat.zero_le _, by omega, rfl, rfl, Below.refl _ _⟩
      case round =>
        obtain ⟨j, t, hj, ht, rfl, rfl, hbr⟩ := hrel
        have hzr := hbr.size
        by_cases hlt3 : j < d
        · obtain ⟨S, rfl⟩ := Int.eq_ofNat_of_zero_le (show 0 ≤ t by omega)
          have hS : S = d - 1 - j := by omega
          have hS6 : S ≤ 6 := by omega
          have HSd := Lib.hid ht
          have hQ1 : 2 ^ S ≤ 64 := pow6 hS6
          have hQ0 : 0 < 2 ^ S := Nat.pow_pos (by omega)
          have HQ := Lib.hid (show (2 : Int) ^ ((S : Int)).toNat = ((2 ^ S : Nat) : Int) by rw [Int.toNat_natCast, Int.natCast_pow]; rfl)
          have HB := Lib.hid (show bitN k2 d j = k2 / 2 ^ S % 2 by unfold bitN; rw [← hS])
          clear ht hS
          go_wp2_with fail
          refine (l1Two_c (S : Int) _ (by omega)).mono ?_; rintro e w' ⟨rfl, rfl⟩
          rw [HQ.out]
          clear HQ
          generalize 2 ^ S = Q at *
          obtain ⟨V, hV⟩ : ∃ V, V = k2 / Q := ⟨_, rfl⟩
          obtain ⟨B, hB⟩ : ∃ B, B = V % 2 := ⟨_, rfl⟩
          have hB9 : B ≤ 9 := by omega
          have hQne : ((Q : Int) == 0) = false := by simp; omega
          have e1 : (k2 : Int).tdiv (Q : Int) = (V : Int) := by rw [hV, Int.ofNat_tdiv]
          have e2 : (V : Int).tmod 2 = (B : Int) := by rw [hB]; rfl
          have e3 : (V : Int) % 2 = (B : Int) := by rw [hB]; rfl
          have e4 : (k2 : Int) / (Q : Int) = (V : Int) := by rw [hV]; rfl
          have HBB := Lib.hid (show bitN k2 d j = B by rw [HB.out, hB, hV])
          have hVk : V ≤ k2 := by rw [hV]; exact Nat.div_le_self _ _
          clear hV hB HB
          go_wp2_with fail
          clear e1 e2 e3 e4
          refine (l9Dec_c B _ hB9).mono ?_; rintro e w3 ⟨rfl, hb3⟩
          have hb4 := hbr.trans (hb3.mono hzr)
          have HX := Lib.hid (show text ((binL k2 d).take j) ++ text [((48 + B : Nat) : Int)] = text ((binL k2 d).take (j + 1)) by rw [text_add, binL_take hlt3, HBB.out])
          have hz1 : (text ((binL k2 d).take j)).size ≤ 6 := by rw [text_size, List.length_take]; omega
          have hz2 : (text [((48 + B : Nat) : Int)]).size = 1 := text_size _
          have HZ2 := Lib.hid hz2; clear hz2
          have hsum : ¬ (text ((binL k2 d).take j)).size + (text [((48 + B : Nat) : Int)]).size > 9223372036854775807 := by rw [HZ2.out]; omega
          clear hb3 hbr
          generalize text [((48 + B : Nat) : Int)] = X at *
          go_wp2_with fail
          rw [HX.out]
          go_roundw
          case rel => exact ⟨j + 1, (S : Int) - 1, by omega, by have := HSd.out; omega, rfl, by go_num, hb4⟩
          case measure => simp [intOf]
        · obtain rfl : j = d := by omega
          obtain rfl : t = -1 := by omega
          have HT := Lib.hid (show (binL k2 j).take j = binL k2 j from List.take_of_length_le (by rw [binL_len]; exact Nat.le_refl _))
          rw [HT.out]
          have hpz : (binT k2 j).size ≤ 6 := by rw [binT_size]; exact hd
          rw [show text (binL k2 j) = binT k2 j from rfl]
          have hown2 := hown.below hbr
          have hb2 := hb.trans (hbr.mono hz)
          have h2 := h.below hb2
          have HFN := Lib.hid (freeL_no (u := u) (d := j) (k := k2))
          have HFY := Lib.hid (freeL_yes (u := u) (d := j) (k := k2))
          have hFL := freeL_len u j k2
          have HTK := Lib.hid (fun x hl => @freeB_take u (binT k2 j) x hl)
          obtain ⟨w2, hw2⟩ : ∃ w2 : World, w2 = wr := ⟨_, rfl⟩
          subst hw2
          clear hown hb hbr ht HT
          generalize binT k2 j = p at *
          go_wp2_with fail
          go_loopw [9, 10] (fun f i wy => ∃ x : Nat, x ≤ n ∧ i = .int .i64 x ∧ f = .bool (freeB (u.take x) p) ∧ Qw w2 wy) (fun _ i _ => n - (intOf i).toNat)
          case atStart => exact ⟨0, Nat.zero_le _, rfl, rfl, Qw.refl _⟩
          case round =>
            obtain ⟨x, hx, rfl, rfl, hq⟩ := hrel
            obtain ⟨w5, hw5⟩ : ∃ w5 : World, w5 = wr := ⟨_, rfl⟩
            subst hw5
            by_cases hlx : x < n
            · obtain ⟨bk, off, rfl, hl, hc⟩ := (h2.qw hq).at hlx
              have hz3 := pathB_size (HP.out _ (List.getElem_mem hl))
              have HTX := Lib.hid (HTK.out x hl)
              by_cases hf : freeB (u.take x) p = true
              · rw [hf] at HTX ⊢
                clear hf
                go_wp2_with fail
                refine (l3Conflict_c _ _ _ (by omega) (by omega)).mono ?_; rintro e w6 ⟨rfl, hq6⟩
                by_cases hcf : confB p u[x] = true
                · rw [hcf] at HTX ⊢
                  clear hcf
                  go_wp2_with fail
                  go_roundw
                  case rel => exact ⟨x + 1, by omega, by go_num, by rw [HTX.out]; rfl, hq.trans hq6⟩
                  case measure => simp [intOf]; omega
                · have hcf' : confB p u[x] = false := by simpa using hcf
                  rw [hcf'] at HTX ⊢
                  clear hcf hcf'
                  go_wp2_with fail
                  go_roundw
                  case rel => exact ⟨x + 1, by omega, by go_num, by rw [HTX.out]; rfl, hq.trans hq6⟩
                  case measure => simp [intOf]; omega
              · have hf' : freeB (u.take x) p = false := by simpa using hf
                rw [hf'] at HTX ⊢
                clear hf hf'
                go_wp2_with fail
                go_roundw
                case rel => exact ⟨x + 1, by omega, by go_num, by rw [HTX.out]; rfl, hq⟩
                case measure => simp [intOf]; omega
            · obtain rfl : x = n := by omega
              have hown3 := hown2.below (hq.below _)
              have hb3 := hb2.trans ((hq.below w2.heap.size).mono hb2.size)
              have hz3 := hb3.size
              have hTA : u.take x = u := List.take_of_length_le (by have := HN.out; omega)
              rw [hTA]
              clear hTA hown2 hb2 hq
              by_cases hf : freeB u p = true
              · rw [hf]
                have HF := Lib.hid (HFY.out hf); clear hf
                go_wp2_with (at_builtin; refine wp_app1F 35 9 16 ByteArray.empty Tryd.underlying35 info_str rfl (by decide) (fun _ => rfl) w5 rfl _ _ rfl w.heap.size _ _ _ rfl (by exact hown3) rfl (by omega) hz3 ?_; intro v' w7 hown7 _ hb7)
                have hown8 : OwnVT w7 w.heap.size v' (freeL u j (k2 + 1)) := by rw [HF.out]; exact hown7
                have hb8 := hb3.trans hb7
                clear hown7 hown3 hb3 hb7
                go_wp2_with fail
                go_roundw
                case rel => exact ⟨k2 + 1, by omega, by go_num, hown8, hb8⟩
                case measure => simp [intOf]; omega
              · have hf' : freeB u p = false := by simpa using hf
                rw [hf']
                rw [← HFN.out hf'] at hown3
                clear hf hf'
                go_wp2_with fail
                go_roundw
                case rel => exact ⟨k2 + 1, by omega, by go_num, hown3, hb3⟩
                case measure => simp [intOf]; omega
    · obtain rfl : k2 = P := by omega
      obtain ⟨bo, m, cc, rfl, ho⟩ := hown.own (by have := freeL_len u d k2; omega)
      go_wp2_with fail
      go_ret
      exact ⟨bo, m, cc, rfl, ho, hb⟩

set_option maxHeartbeats 800000 in
theorem sAllocateTree_c {ao : Option Addr} {n c : Nat} {u : List ByteArray} {w : World} (d : Int) (h : RdT w ao n u) (hp : ∀ q ∈ u, pathB q = true) (hlen : n ≤ 70) :
    Calls Tryd.prog 60 #[.slice ao n c, .int .i64 d] w (RetTB w (allocR u d)) := by
  by_cases hd : inB d 0 6 = true
  · have hd' := inB_iff.1 hd
    obtain ⟨D, rfl⟩ := Int.eq_ofNat_of_zero_le hd'.1
    have hD : D ≤ 6 := by omega
    have HR := Lib.hid (allocR_yes (u := u) hD)
    clear hd'
    go_enter Tryd.func60, Tryd.ntmps60
    go_wp2_with fail
    refine (l3Used_c (D : Int) h hp hlen).mono ?_; rintro e w' ⟨rfl, rfl⟩
    rw [hd]
    clear hd
    go_wp2_with fail
    refine (l3Free_c D h hD hp hlen).mono ?_; rintro e w2 ⟨bo, m, cc, rfl, ho, hb⟩
    clear h hp
    generalize freeL u D (2 ^ D) = L at *
    cases L with
    | nil =>
      have hm := ho.rd.1
      have hm0 : m = 0 := by simpa using hm
      subst hm0
      clear hm
      go_wp2_with fail
      go_ret2
      exact retTB_none HR.out hb
    | cons x L =>
      have hm := ho.rd.1
      have hm0 : 0 < m := by rw [hm]; simp
      have hmne : ((m : Int) == 0) = false := by simp; omega
      obtain ⟨bk, off, rfl, hl, hc⟩ := ho.rd.at hm0
      rw [Nat.add_zero] at hc
      have hm1 : (0 : Int) < (m : Int) := by omega
      have HM := Lib.hid hm; clear hm
      go_wp2_with fail
      go_ret2
      exact retTB_some HR.out hb
  · have hd' : inB d 0 6 = false := by simpa using hd
    have HR := Lib.hid (allocR_no (u := u) hd')
    clear hd
    go_enter Tryd.func60, Tryd.ntmps60
    go_wp2_with fail
    refine (l3Used_c d h hp hlen).mono ?_; rintro e w' ⟨rfl, rfl⟩
    rw [hd']
    clear hd' h
    go_wp2_with fail
    go_ret2
    exact retTB_none HR.out (Below.refl _ _)

end Go.Proofs.YtdedcablhahbnaaDoor
