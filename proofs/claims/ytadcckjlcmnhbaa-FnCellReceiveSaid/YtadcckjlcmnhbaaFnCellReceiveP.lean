/- The law FnCellReceive holds for every input that the given row lets in: the program's answer is the reference's. No condition of its own. -/
import Derived.Test.YtadcckjlcmnhbaaRows
import Derived.WalkKit
import Derived.ProofKit
import Derived.OpenShut
import Derived.ShutString
import Derived.ChangeOld
import Derived.Below
import Derived.Lib.SmallJoins
import Derived.Test.YtadcckjlcmnhbaaPb
import Derived.Test.YtadcckjlcmnhbaaPc
import Derived.Test.YtadcckjlcmnhbaaZs
import Derived.Test.YtadcckjlcmnhbaaLw
namespace Go.Proofs.Ytadcckjlcmnhbaa.fnCellReceive
open Go.ChangeShapes Go.WideShapes Go.ChangeAt Go.RowKit
open Go.ChangeMaps (open_string shut_string)
set_option linter.unusedVariables false

theorem own : ownKnob Try.prog.godebug = none := by kernel_rfl
theorem laidOut : laidOutB Try.prog = true := by kernel_rfl

/-- A slice of integers that came in: nil, or a row of 'cap' cells that hold the numbers zs. -/
def IsRow (k : IntKind) (w : World) (a : Option Addr) (len cap : Nat) (zs : List Int) : Prop :=
  (a = none ∧ len = 0 ∧ cap = 0 ∧ zs = []) ∨
  ∃ x, a = some x ∧ len ≤ cap ∧ cap ≤ maxLen ∧ zs.length = cap ∧ (∀ i, i < zs.length → w.cell? (x.add i) = some (.int k (zs.getD i 0))) ∧ ∀ n ∈ zs, (Lit.int k n).wf = true

theorem TreeCode_t (p : ByteArray) (w : World) (hp : pathB p = true) : Calls Try.prog 11 #[.string p] w fun e w' => e = .returned (.tuple #[.string (treeT p), .bool true]) ∧ Below w.heap.size w w' := TreeCode_c p w hp
set_option maxHeartbeats 400000 in
theorem ssUser_c {ao : Option Addr} {n c : Nat} {l : List Int} {w : World} (s : ByteArray) (d m : Int) (h : Rd w ao n l) :
    Calls Try.prog 23 #[.slice ao n c, .string s, .int .i64 d, .int .i64 m] w fun e w' => e = .returned (.string ((rcvR l s d m).getD ByteArray.empty)) ∧ Below w.heap.size w w' := by
  go_enter Try.func23, Try.ntmps23
  go_wp2_with fail
  refine (ReceiveUser_c s d m h).mono ?_; rintro e w2 ⟨rfl, hb2⟩
  obtain ⟨x, hx⟩ : ∃ x, x = (rcvR l s d m).getD ByteArray.empty := ⟨_, rfl⟩
  rw [← hx]
  have HX := Lib.hid hx
  clear hx
  generalize (rcvR l s d m).isSome = b at *
  go_wp2_with fail
  go_ret
  exact ⟨by rw [← HX.out]; rfl, hb2⟩
/-- What all others send. -/
def oneD (v : ByteArray) (s : Stn) : ByteArray := if (s.nm.toList == v.toList) = true then ⟨#[]⟩ else ⟨#[48, 49, 49, 48]⟩
def othD (l : List Stn) (v : ByteArray) : List ByteArray := l.map (oneD v)
def pathAt (l : List Stn) (f k : Nat) : ByteArray := if f < k then (l.getD f zstn).ph else ⟨#[]⟩
theorem othD_take {l : List Stn} {v : ByteArray} {k : Nat} (h : k < l.length) : (othD l v).take (k + 1) = (othD l v).take k ++ [oneD v l[k]] := by
  unfold othD; rw [List.take_succ_eq_append_getElem (by simpa using h), List.getElem_map]
theorem oth_len (l : List Stn) (v : ByteArray) : (othD l v).length = l.length := by simp [othD]
theorem oth_get {l : List Stn} {v : ByteArray} {k : Nat} (h : k < l.length) : (othD l v)[k]'(by rw [oth_len]; exact h) = oneD v l[k] := by simp [othD]
theorem oneD_sz (v : ByteArray) (s : Stn) : (oneD v s).size ≤ 4 := by unfold oneD; split <;> decide
theorem oneD_bits (v : ByteArray) (s : Stn) : bitsB (oneD v s) = true := by unfold oneD; split <;> decide
theorem oth_csg {l : List Stn} (v : ByteArray) (h : cellB l = true) : ∃ L, csgR l (othD l v) = some L := by
  have hd := oth_len l v
  refine ⟨_, (csgR_yes h hd).trans (sndR_yes ?_)⟩
  unfold usersB
  rw [Bool.and_eq_true, decide_eq_true_eq, List.all_eq_true]
  refine ⟨by rw [usersOf_len hd]; exact (cellB_iff.1 h).1, fun u hu => ?_⟩
  obtain ⟨i, hi, rfl⟩ := List.getElem_of_mem hu
  have hil : i < l.length := by rw [usersOf_len hd] at hi; exact hi
  rw [usersOf_get hil (by omega), oth_get hil]
  have hst := cellB_st h hil
  have hp := stB_path hst
  have hg := gain_bd (stB_ranges hst)
  have hz := treeT_size (pathB_size hp)
  have ho := oneD_sz v l[i]
  refine usrOk_y ⟨treeT_seq hp, hg, rfl⟩ (oneD_bits _ _) ?_
  show (oneD v l[i]).size * (treeT l[i].ph).size ≤ 3000
  have := Nat.mul_le_mul ho hz
  omega
theorem crc_is {l : List Stn} {s : List Int} {v x : ByteArray} {m : Int} (h : crcR l s v m = some x) : cellB l = true ∧ (0 ≤ m ∧ m ≤ 600) ∧ ∃ f : Nat, ∃ hf : f < l.length, idxS l v = f ∧ l[f].nm.toList = v.toList ∧ rcvR s (treeT l[f].ph) 0 m = some x := by
  have hc : cellB l = true := by
    cases e : cellB l with
    | true => rfl
    | false => rw [crcR_no1 e] at h; cases h
  rcases idxS_cases l v with hi | ⟨f, hf, hi⟩
  · rw [crcR_no2 hi] at h; cases h
  · rw [crcR_yes hc hf hi] at h
    obtain ⟨_, hn⟩ := idxS_some hi
    refine ⟨hc, ?_, f, hf, hi, hn, h⟩
    unfold rcvR at h
    split at h
    · next hb => rw [Bool.and_eq_true] at hb; exact inB_iff.1 hb.2
    · cases h
theorem oth_silent {l : List Stn} {v : ByteArray} {L : List Int} {f : Nat} {m : Nat} (h : csgR l (othD l v) = some L) (hf : f < l.length) (hi : idxS l v = f) (hn : l[f].nm.toList = v.toList) (hm : m ≤ 600) : crcR l L v (m : Int) = some (zerosT m) := by
  obtain ⟨hc, hd, _, _, hs⟩ := csg_parts h
  have hv : v = l[f].nm := toList_inj hn.symm
  have hz : (othD l v)[f]'(by rw [oth_len]; exact hf) = ⟨#[]⟩ := by rw [oth_get hf]; unfold oneD; rw [if_pos (by simp [hn])]
  rw [hv] at h ⊢
  rw [crc_some hc hs hf hm, hear_none h hf (by rw [oth_len]; exact hf) (by rw [← hv, hz]; rfl) m]
  rfl
theorem idx_same {l : List Stn} {v : ByteArray} {f k : Nat} (h : cellB l = true) (hk : k < l.length) (hi : idxS l v = f) (he : (l[k].nm.toList == v.toList) = true) : k = f := by
  have hv : l[k].nm = v := toList_inj (by simpa using he)
  have := idx_own h hk
  rw [hv, hi] at this
  omega
theorem pathAt_next {l : List Stn} {f k : Nat} (h : k ≠ f) : pathAt l f (k + 1) = pathAt l f k := by
  unfold pathAt
  by_cases e : f < k
  · rw [if_pos e, if_pos (by omega)]
  · rw [if_neg e, if_neg (by omega)]
theorem pathAt_here {l : List Stn} {f : Nat} (h : f < l.length) {k : Nat} (hk : f < k) : pathAt l f k = l[f].ph := by
  unfold pathAt; rw [if_pos hk, getD_stn h]
set_option maxRecDepth 100000
set_option maxHeartbeats 4000000 in
theorem walk (a0 : Option Addr) (len0 cap0 : Nat) (z0 : List Int) (w : World) (w0 : IsRow .u8 w a0 len0 cap0 z0) :
    Calls Try.prog 5 #[.slice a0 len0 cap0] w fun e w' => e = .returned (.bool true) ∧ Below w.heap.size w w' := by
  by_cases hn : len0 ≤ 1048576
  · have hC := codeW_of_row w0 (by omega)
    clear w0
    go_enter Try.func5, Try.ntmps5
    go_wp2_with fail
    refine (DrawCellReceive_c hC).mono ?_; rintro e w1 ⟨a1, n1, c1, l, b1, m1, d1, s, v, m, rfl, ⟨hS, hcap, hc0, h4, ht⟩, hr, hm1, hv, hm0, hm6, hb1⟩
    have HT := Lib.hid ht
    have HN := Lib.hid hS.1
    have hn4 : n1 ≤ 4 := by have := HN.out; omega
    clear hC ht hc0
    cases hq : crcR l s v m with
    | none =>
      have HQ := Lib.hid hq; clear hq
      go_wp2_with fail
      refine (CellReceive_c v m hS hcap hr).mono ?_; rintro e w2 ⟨rfl, hb2⟩
      rw [HQ.out]
      simp only [Option.getD_none, Option.isSome_none]
      have hbB := hb1.trans (hb2.mono hb1.size)
      go_wp2_with fail
      refine (sCellReceive_c v m (hS.below hb2) (hr.below hb2) HT.out.big).mono ?_; rintro e w3 ⟨rfl, hb3⟩
      rw [HQ.out]
      simp only [Option.getD_none, Option.isSome_none]
      have hbC := hbB.trans (hb3.mono hbB.size)
      have hxx : (ByteArray.empty.toList != ByteArray.empty.toList) = false := by simp
      have hxy : (ByteArray.empty.toList == ByteArray.empty.toList) = true := by simp
      go_wp2_with fail
      go_ret
      exact ⟨rfl, hbC⟩
    | some x =>
      obtain ⟨hcb, ⟨hm2, hm3⟩, f, hf, hi, hnm, hrc⟩ := crc_is hq
      have HQ := Lib.hid hq
      have hxx : (x.toList != x.toList) = false := by simp
      have hxy : (x.toList == x.toList) = true := by simp
      have HCB := Lib.hid hcb
      have HI := Lib.hid hi
      have HNM := Lib.hid hnm
      have HRC := Lib.hid hrc
      obtain ⟨M, rfl⟩ := Int.eq_ofNat_of_zero_le hm2
      clear hq hcb hi hnm hrc hm0 hm2
      go_wp2_with fail
      refine (CellReceive_c v M hS hcap hr).mono ?_; rintro e w2 ⟨rfl, hb2⟩
      rw [HQ.out]
      simp only [Option.getD_some, Option.isSome_some]
      have hbB := hb1.trans (hb2.mono hb1.size)
      have hS2 := hS.below hb2
      have hr2 := hr.below hb2
      clear hS hr hb1 hb2
      go_wp2_with fail
      refine (sCellReceive_c v M hS2 hr2 HT.out.big).mono ?_; rintro e w3 ⟨rfl, hb3⟩
      rw [HQ.out]
      simp only [Option.getD_some, Option.isSome_some]
      have hbC := hbB.trans (hb3.mono hbB.size)
      have hS3 := hS2.below hb3
      have hr3 := hr2.below hb3
      clear hS2 hr2 hbB hb3
      by_cases hm9 : M ≤ 60
      · have hm9' : ¬ (60 : Int) < (M : Int) := by omega
        have hb4 : Below w3.heap.size w3 (w3.alloc (.cells #[] 9)) := (Below.refl _ _).alloc (Nat.le_refl _) _
        have ho4 : OwnVT (w3.alloc (.cells #[] 9)) w3.heap.size (.slice (some ⟨w3.heap.size, 0, none⟩) 0 0) [] := OwnVF.made0 _ _ w3 (Nat.le_refl _)
        have HP0 := Lib.hid (show pathAt l f 0 = ⟨#[]⟩ from rfl)
        go_wp2_with fail
        go_loopw [11, 12, 13] (fun d p i wr => ∃ k : Nat, k ≤ n1 ∧ i = .int .i64 k ∧ p = .string (pathAt l f k) ∧ OwnVT wr w3.heap.size d ((othD l v).take k) ∧ Below w3.heap.size w3 wr) (fun _ _ i _ => n1 - (intOf i).toNat)
        case atStart => exact ⟨0, Nat.zero_le _, rfl, rfl, ho4, hb4⟩
        case round =>
          clear ho4 hb4
          obtain ⟨k, hk, rfl, rfl, ho, hb⟩ := hrel
          have hz := hb.size
          by_cases hlt : k < n1
          · have hkl : k < l.length := by have := HN.out; omega
            have HTK := Lib.hid (othD_take (v := v) hkl)
            have HTL := Lib.hid (show ((othD l v).take k).length ≤ 4 by rw [List.length_take, oth_len]; omega)
            obtain ⟨bs, os, rfl, hl', s0, s1, s2, s3⟩ := (hS3.below hb).at hlt
            by_cases he : (l[k].nm.toList == v.toList) = true
            · have hkf := idx_same HCB.out hkl HI.out he
              have HO := Lib.hid (show oneD v l[k] = ⟨#[]⟩ by unfold oneD; rw [if_pos he])
              have HPN := Lib.hid (show pathAt l f (k + 1) = l[k].ph by subst hkf; exact pathAt_here hkl (by omega))
              clear hkf
              go_wp2_with (at_builtin; refine wp_app1F 24 9 16 ByteArray.empty Try.underlying24 info_str rfl (by decide) (fun _ => rfl) wr rfl _ _ rfl w3.heap.size _ ((othD l v).take k) _ rfl (by exact ho) rfl (by have := HTL.out; omega) hz ?_; intro v' w5 ho5 _ hb5)
              rw [← HO.out, ← HTK.out] at ho5
              go_roundw
              case rel => exact ⟨k + 1, by omega, by go_num, by rw [HPN.out], ho5, hb.trans hb5⟩
              case measure => simp [intOf]; omega
            · have he' : (l[k].nm.toList == v.toList) = false := by simpa using he
              have hkf : k ≠ f := fun e => by subst e; exact he (by have := HNM.out; simp [this])
              have HO := Lib.hid (show oneD v l[k] = ⟨#[48, 49, 49, 48]⟩ by unfold oneD; rw [if_neg he])
              have HPN := Lib.hid (pathAt_next (l := l) hkf)
              clear hkf he
              go_wp2_with (at_builtin; refine wp_app1F 24 9 16 ByteArray.empty Try.underlying24 info_str rfl (by decide) (fun _ => rfl) wr rfl _ _ rfl w3.heap.size _ ((othD l v).take k) _ rfl (by exact ho) rfl (by have := HTL.out; omega) hz ?_; intro v' w5 ho5 _ hb5)
              rw [← HO.out, ← HTK.out] at ho5
              go_roundw
              case rel => exact ⟨k + 1, by omega, by go_num, by rw [HPN.out], ho5, hb.trans hb5⟩
              case measure => simp [intOf]; omega
          · obtain rfl : k = n1 := by omega
            have HFT := Lib.hid (show (othD l v).take k = othD l v by rw [List.take_of_length_le]; rw [oth_len]; have := HN.out; omega)
            rw [HFT.out] at ho
            have HPF := Lib.hid (pathAt_here hf (k := k) (by have := HN.out; omega))
            rw [HPF.out]
            obtain ⟨a5, n5, c5, hv5, ho5⟩ := ho.own (by rw [oth_len]; omega)
            subst hv5
            have HPB := Lib.hid (stB_path (cellB_st HCB.out hf))
            obtain ⟨L, hL⟩ := oth_csg v HCB.out
            have HL := Lib.hid hL
            have HSI := Lib.hid (oth_silent hL hf HI.out HNM.out (m := M) (by omega))
            have hS5 := hS3.below hb
            have hr5 := hr3.below hb
            have hbD := hbC.trans (hb.mono hbC.size)
            have hrd := ho5.rd
            clear hL ho ho5 hb hbC hS3 hr3
            go_wp2_with fail
            refine (TreeCode_t l[f].ph _ HPB.out).mono ?_; rintro e w6 ⟨rfl, hb6⟩
            have hS6 := hS5.below hb6
            have hr6 := hr5.below hb6
            have hrd6 := hrd.below hb6
            have hbE := hbD.trans (hb6.mono hbD.size)
            clear hS5 hr5 hrd hb6 hbD
            go_wp2_with fail
            refine (CellSignal_c hS6 hcap hrd6).mono ?_; rintro e w7 h7
            obtain ⟨a7, n7, c7, rfl, ho7, hb7⟩ := retIntsB_is h7 HL.out
            have hS7 := hS6.below hb7
            have hr7 := hr6.below hb7
            have hrs := ho7.rd
            have hbF := hbE.trans (hb7.mono hbE.size)
            clear hS6 hr6 hrd6 hb7 hbE h7 ho7
            go_wp2_with fail
            refine (CellReceive_c v M hS7 hcap hrs).mono ?_; rintro e w8 ⟨rfl, hb8⟩
            rw [HSI.out]
            simp only [Option.getD_some, Option.isSome_some]
            have hr8 := hr7.below hb8
            have hbG := hbF.trans (hb8.mono hbF.size)
            have hzz : ((zerosT M).toList == (zerosT M).toList) = true := by simp
            clear hS7 hr7 hrs hb8 hbF
            go_wp2_with fail
            refine (ssZeros_c M _ (by omega)).mono ?_; rintro e w9 ⟨rfl, hb9⟩
            have hr9 := hr8.below hb9
            have hbH := hbG.trans (hb9.mono hbG.size)
            clear hr8 hb9 hbG
            go_wp2_with fail
            refine (ssUser_c (treeT l[f].ph) 0 M hr9).mono ?_; rintro e wa ⟨rfl, hba⟩
            rw [HRC.out]
            simp only [Option.getD_some]
            have hbI := hbH.trans (hba.mono hbH.size)
            go_wp2_with fail
            go_ret
            exact ⟨rfl, hbI⟩
      · have hm9' : (60 : Int) < (M : Int) := by omega
        go_wp2_with fail
        go_ret
        exact ⟨rfl, hbC⟩
  · have hn' : (1048576 : Int) < (len0 : Int) := by omega
    go_enter Try.func5, Try.ntmps5
    go_wp2_with fail
    go_ret
    exact ⟨rfl, Below.refl _ _⟩

set_option maxRecDepth 100000 in
theorem lifted (os : Os) (started : os.Started) (H : Type) (enc : TypeId × Value → H) :
    ReturnsInHanded {} Try.checked os 5 .any (Rows.fnCellReceiveSpec.pre6 enc Try.prog Try.f5 Rows.fnCellReceiveRow.domain false) (Rows.fnCellReceiveSpec.post enc Try.prog Try.f5 false true false false) := by
  refine returnsInHanded_of_change (C := Try.checked) own started (by kernel_rfl) Try.func5
    (ChangeSpec.witness6 (enc := enc) (C := Try.checked) false ⟨#[], #[.slice none 0 0], []⟩ 8 (by kernel_rfl) (by kernel_rfl) (by kernel_rfl) (by kernel_rfl)) ?_
  intro W base args ds gs before hval0 hW hcnd _
  have hval : ∀ (j : Nat) t v, Try.f5.params[j]? = some t → args[j]? = some v → Value.okWide Try.prog W .any base t v := hval0
  have hW' := hW
  obtain ⟨p, q, hA0, hV, rfl, hfz, hnd⟩ := hW
  have hA : DataW.TrodAll enc Try.prog W 0 (fun _ => true) true Try.f5.params.toList args.toList ds p := hA0
  rw [Try.params5] at hA hval
  obtain ⟨v0, vs0, d0, ds0, p0, q0, hargs, rfl, rfl, h0, r0⟩ := trodAll_cons hA
  obtain ⟨rfl, rfl, rfl⟩ := trodAll_nil r0
  obtain rfl : args = #[v0] := by cases args; simp_all
  obtain ⟨rfl, rfl⟩ := trodVars_none hV
  have k0 := h0
  have lt0 : ∀ x ∈ p0, x.block < W.heap.size := by obtain ⟨m, hm⟩ := k0; exact DataW.trod_lt m _ _ _ hm
  obtain ⟨a0, len0, cap0, rfl⟩ := okWide_slice Try.underlying22 (hval 0 22 v0 rfl rfl)
  obtain ⟨z0, w0⟩ : ∃ zs, IsRow .u8 W a0 len0 cap0 zs := by
    obtain ⟨fuel, hf⟩ := h0
    rcases open_ints Try.underlying22 Try.underlying5 (by kernel_rfl) hf with ⟨hcs, _⟩ | ⟨x, l, c, zs, hcs, _, hl, hm, hz, _, hcell, hwz⟩
    · simp [Value.cells] at hcs
      obtain ⟨rfl, rfl, rfl⟩ := hcs
      exact ⟨[], .inl ⟨rfl, rfl, rfl, rfl⟩⟩
    · simp [Value.cells] at hcs
      obtain ⟨rfl, rfl, rfl⟩ := hcs
      exact ⟨zs, .inr ⟨_, rfl, hl, hm, by simpa using hz, hcell, hwz⟩⟩
  clear hA0 hval0
  refine (walk a0 len0 cap0 z0 W w0).mono fun e W' ⟨he, bel⟩ => ?_
  subst he
  exact ⟨_, rfl, _, _, _, [], _, [], hW', trodAll_mk1 (shut_bool Try.underlying4 _), (trodAll_cons_mk (Below.trod laidOut (by kernel_rfl) (of_decide_eq_true (by kernel_rfl)) k0 bel lt0) trodAll_mk0), rfl, bel.frame _, fun h => by cases h⟩

theorem over : Rows.fnCellReceiveRow.holds Try.pinned (OpenSpec.ofChange Rows.fnCellReceiveSpec) :=
  OpenClaim.holds_of_wide 5 Try.f5 rfl rfl rfl rfl rfl rfl rfl ⟨rfl, rfl, rfl, rfl, rfl⟩ rfl rfl rfl rfl rfl (by kernel_rfl) Try.func5 (by kernel_rfl)
    (of_decide_eq_true (by kernel_rfl)) (by unfold Func.isWrapper; first | (rw [if_pos (by decide +kernel)]; kernel_rfl) | (rw [if_neg (by decide +kernel)]; exact ⟨rfl, rfl⟩))
    (fun os started H enc _ => lifted os started H enc)

theorem proved : Rows.FnCellReceiveSaid := over
#print axioms proved
end Go.Proofs.Ytadcckjlcmnhbaa.fnCellReceive
