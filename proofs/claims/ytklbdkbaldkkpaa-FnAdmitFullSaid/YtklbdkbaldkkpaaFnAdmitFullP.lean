/- The law FnAdmitFull holds for every input that the given row lets in: the program's answer is the reference's. No condition of its own. -/
import Derived.Test.YtklbdkbaldkkpaaRows
import Derived.WalkKit
import Derived.ProofKit
import Derived.OpenShut
import Derived.ShutString
import Derived.ChangeOld
import Derived.Below
import Derived.Lib.SmallJoins
import Derived.Test.YtklbdkbaldkkpaaLt
namespace Go.Proofs.Ytklbdkbaldkkpaa.fnAdmitFull
open Go.ChangeShapes Go.WideShapes Go.ChangeAt Go.RowKit
open Go.ChangeMaps (open_string shut_string)
set_option linter.unusedVariables false

theorem own : ownKnob Try.prog.godebug = none := by kernel_rfl
theorem laidOut : laidOutB Try.prog = true := by kernel_rfl

/-- A slice of integers that came in: nil, or a row of 'cap' cells that hold the numbers zs. -/
def IsRow (k : IntKind) (w : World) (a : Option Addr) (len cap : Nat) (zs : List Int) : Prop :=
  (a = none ∧ len = 0 ∧ cap = 0 ∧ zs = []) ∨
  ∃ x, a = some x ∧ len ≤ cap ∧ cap ≤ maxLen ∧ zs.length = cap ∧ (∀ i, i < zs.length → w.cell? (x.add i) = some (.int k (zs.getD i 0))) ∧ ∀ n ∈ zs, (Lit.int k n).wf = true

theorem full_ok {l : List Stn} {nm : ByteArray} {d loss : Int} : (admR l nm d loss).isSome = (admOk l nm loss && decide (0 < freeN (l.map Stn.ph) d)) := by
  unfold admR
  by_cases h : admOk l nm loss = true
  · rw [if_pos h, h, Bool.true_and, ← allocR_pos]
    cases allocR (l.map Stn.ph) d <;> rfl
  · rw [if_neg h]
    have : admOk l nm loss = false := by simpa using h
    rw [this]; rfl
theorem cell_alone (nm : ByteArray) : cellB [⟨nm, ⟨#[48]⟩, 0, 1⟩] = nameB nm := by
  rw [Bool.eq_iff_iff, cellB_iff]
  constructor
  · rintro ⟨_, h, _⟩
    exact (stOk_parts (h _ List.mem_cons_self)).1
  · intro h
    refine ⟨by simp, fun s hs => ?_, List.pairwise_singleton _ _⟩
    rw [List.mem_singleton] at hs; subst hs
    exact stOk_mk h (show pathB (⟨#[48]⟩ : ByteArray) = true by decide) (show (0 : Int) ≤ 0 ∧ (0 : Int) ≤ 1000 by decide) (show (1 : Int) ≤ 1 ∧ (1 : Int) ≤ 20 by decide)
set_option maxRecDepth 100000
set_option maxHeartbeats 4000000 in
theorem walk (a0 : Option Addr) (len0 cap0 : Nat) (z0 : List Int) (w : World) (w0 : IsRow .u8 w a0 len0 cap0 z0) :
    Calls Try.prog 8 #[.slice a0 len0 cap0] w fun e w' => e = .returned (.bool true) ∧ Below w.heap.size w w' := by
  by_cases hn : len0 ≤ 1048576
  · have hC := codeW_of_row w0 (by omega)
    clear w0
    go_enter Try.func8, Try.ntmps8
    go_wp2_with fail
    refine (DrawAdmitStation_c hC).mono ?_; rintro e w1 ⟨ao, n, c, l, nm, d, loss, rfl, hL1, hnm, hd, hk, hb1⟩
    clear hC
    obtain ⟨ok, HOK⟩ : ∃ ok, Hid ((admR l nm d loss).isSome = ok) := ⟨_, Lib.hid rfl⟩
    go_wp2_with fail
    refine (AdmitStation_c nm d loss hL1.1 hL1.2.1).mono ?_; rintro e w2 ⟨a2, n2, c2, rfl, _, hb2⟩
    rw [HOK.out]
    have hL2 := hL1.below hb2
    have hB2 := hb1.trans (hb2.mono hb1.size)
    clear hL1 hb1 hb2
    go_wp2_with fail
    refine (sAdmitStation_c nm d loss hL2.1 hL2.2.2.1 (by omega) hL2.2.2.2.2.big).mono ?_; rintro e w3 ⟨a3, n3, c3, rfl, _, hb3⟩
    rw [HOK.out]
    have hL3 := hL2.below hb3
    have hB3 := hB2.trans (hb3.mono hB2.size)
    have hoo : (ok != ok) = false := by simp
    have hoo2 : (ok == ok) = true := by simp
    clear hL2 hb3 hB2
    go_wp2_with fail
    refine (CellValid_c hL3.1 hL3.2.1).mono ?_; rintro e w4 ⟨rfl, hb4⟩
    have hL4 := hL3.below hb4
    have hB4 := hB3.trans (hb4.mono hB3.size)
    clear hL3 hb4 hB3
    by_cases hcell : cellB l = true
    · rw [hcell]
      have HC := Lib.hid hcell
      have HP := Lib.hid (paths_ok hcell)
      clear hcell
      have HN := Lib.hid hL4.1.1
      have hs := hL4.1.2.1
      have hn4 : n ≤ 4 := by have := HN.out; have := hL4.2.2.2.1; omega
      have hv0 : OwnVT (w4.alloc (.cells #[] 9)) w4.heap.size (.slice (some ⟨w4.heap.size, 0, none⟩) 0 0) [] := OwnVF.made0 _ _ w4 (Nat.le_refl _)
      have hbl : Below w4.heap.size w4 (w4.alloc (.cells #[] 9)) := (Below.refl _ _).alloc (Nat.le_refl _) _
      have hzb := hB4.size
      go_wp2_with fail
      go_loopw [11, 12, 13] (fun v kn i wr => ∃ k : Nat, k ≤ n ∧ i = .int .i64 k ∧ kn = .bool (nameIn l nm k) ∧ OwnVT wr w4.heap.size v ((l.take k).map Stn.ph) ∧ Below w4.heap.size w4 wr) (fun _ _ i _ => n - (intOf i).toNat)
      case atStart => exact ⟨0, Nat.zero_le _, rfl, rfl, hv0, hbl⟩
      case round =>
        clear hv0 hbl
        obtain ⟨k, hk', rfl, rfl, hown, hb⟩ := hrel
        have hz := hb.size
        by_cases hlt : k < n
        · obtain ⟨bk, off, rfl, hl, hc0, hc1, hc2, hc3⟩ := (hL4.below hb).1.at hlt
          have HT := Lib.hid (show (l.take (k + 1)).map Stn.ph = (l.take k).map Stn.ph ++ [l[k].ph] by rw [List.take_succ_eq_append_getElem hl, List.map_append]; rfl)
          have HNI := Lib.hid (nameIn_succ (nm := nm) hl)
          have hll : ((l.take k).map Stn.ph).length ≤ 8 := by simp; omega
          have HLL := Lib.hid hll; clear hll
          have hone : ∀ kb : Bool, nameIn l nm k = kb → nameIn l nm (k + 1) = (kb || (l[k].nm.toList == nm.toList)) := fun kb h => by rw [HNI.out, h]
          have HONE := Lib.hid hone; clear hone
          by_cases hkn : nameIn l nm k = true
          · have HK := Lib.hid (show nameIn l nm (k + 1) = true by rw [HONE.out _ hkn, Bool.true_or])
            rw [hkn]
            clear hkn
            go_wp2_with (at_builtin; refine wp_app1F 59 9 16 ByteArray.empty Try.underlying59 info_str rfl (by decide) (fun _ => rfl) wr rfl _ _ rfl w4.heap.size _ _ _ rfl (by exact hown) rfl (by have := HLL.out; omega) hz ?_; intro v' w7 hown7 _ hb7; obtain ⟨bk', off', he, hl9, hd0, hd1, hd2, hd3⟩ := (hL4.below (hb.trans hb7)).1.at hlt; cases he)
            have hb8 := hb.trans hb7
            rw [← HT.out] at hown7
            go_roundw
            case rel => exact ⟨k + 1, by omega, by go_num, by rw [HK.out], hown7, hb8⟩
            case measure => simp [intOf]; omega
          · have hkn' : nameIn l nm k = false := by simpa using hkn
            have HK := Lib.hid (show nameIn l nm (k + 1) = (l[k].nm.toList == nm.toList) by rw [HONE.out _ hkn', Bool.false_or])
            rw [hkn']
            clear hkn hkn'
            go_wp2_with (at_builtin; refine wp_app1F 59 9 16 ByteArray.empty Try.underlying59 info_str rfl (by decide) (fun _ => rfl) wr rfl _ _ rfl w4.heap.size _ _ _ rfl (by exact hown) rfl (by have := HLL.out; omega) hz ?_; intro v' w7 hown7 _ hb7; obtain ⟨bk', off', he, hl9, hd0, hd1, hd2, hd3⟩ := (hL4.below (hb.trans hb7)).1.at hlt; cases he)
            have hb8 := hb.trans hb7
            rw [← HT.out] at hown7
            go_roundw
            case rel => exact ⟨k + 1, by omega, by go_num, by rw [HK.out], hown7, hb8⟩
            case measure => simp [intOf]; omega
        · obtain rfl : k = n := by omega
          obtain ⟨a8, n8, c8, hv, ho8⟩ := hown.own (by simp; omega)
          subst hv
          have HU := Lib.hid (show (l.take k).map Stn.ph = l.map Stn.ph by rw [List.take_of_length_le (by have := HN.out; omega)])
          rw [HU.out] at ho8
          have HN8 := Lib.hid ho8.1
          have hn8 : n8 ≤ 8 := by have := HN8.out; simp at this; have := HN.out; omega
          have HI := Lib.hid (nameIn_idx (nm := nm) (l := l) (k := k) (by have := HN.out; omega))
          have HF := Lib.hid (full_ok (l := l) (nm := nm) (d := d) (loss := loss))
          have hB := hB4.trans (hb.mono hzb)
          have hlz : l.length < 8 := by have := HN.out; omega
          have HLZ := Lib.hid hlz; clear hlz
          have hAlone := rdS_new wr ⟨nm, ⟨#[48]⟩, 0, 1⟩ 37
          have hba : Below wr.heap.size wr (wr.alloc (.cells #[.string nm, .string ⟨#[48]⟩, .int .i64 0, .int .i64 1] 37)) := (Below.refl _ _).alloc (Nat.le_refl _) _
          have ho9 := ho8.below hba
          have hBa := hB.trans (hba.mono hB.size)
          have HCA := Lib.hid (cell_alone nm)
          clear ho8 hba hB hown hb
          have hoF : admOk l nm loss = false → ok = false := fun h => by rw [← HOK.out, HF.out, h, Bool.false_and]
          have HOF := Lib.hid hoF; clear hoF
          by_cases h1 : nameB nm = true
          · by_cases h2 : nameIn l nm k = true
            · obtain rfl : ok = false := HOF.out (by unfold admOk; rw [HI.out, h2]; simp)
              rw [h2]
              clear h2
              go_wp2_with fail
              refine (CellValid_c hAlone (by omega)).mono ?_; rintro e w9 ⟨rfl, hb9⟩
              rw [HCA.out, h1]
              have hBz := hBa.trans (hb9.mono hBa.size)
              clear h1 hAlone
              go_wp2_with fail
              go_ret
              exact ⟨rfl, hBz⟩
            · have h2' : nameIn l nm k = false := by simpa using h2
              rw [h2']
              have HI2 := Lib.hid (show decide (idxS l nm < 0) = true by rw [HI.out, h2']; rfl)
              clear h2 h2'
              by_cases h3 : 1 ≤ loss
              · by_cases h4 : loss ≤ 20
                · have HAK := Lib.hid (show admOk l nm loss = true by unfold admOk; rw [HC.out, decide_eq_true HLZ.out, h1, HI2.out, inB_true h3 h4]; rfl)
                  obtain rfl : ok = decide (0 < freeN (l.map Stn.ph) d) := by rw [← HOK.out, HF.out, HAK.out, Bool.true_and]
                  go_wp2_with fail
                  refine (CellValid_c hAlone (by omega)).mono ?_; rintro e w9 ⟨rfl, hb9⟩
                  rw [HCA.out, h1]
                  have ho10 := ho9.below hb9
                  have hBy := hBa.trans (hb9.mono hBa.size)
                  clear h1 hAlone ho9
                  go_wp2_with fail
                  refine (FreePaths_c d ho10.rd HP.out (by omega)).mono ?_; rintro e w10 ⟨rfl, hb10⟩
                  have hBz := hBy.trans (hb10.mono hBy.size)
                  clear ho10
                  by_cases hf : 0 < freeN (l.map Stn.ph) d
                  · go_wp2_with fail
                    go_ret
                    exact ⟨rfl, hBz⟩
                  · go_wp2_with fail
                    go_ret
                    exact ⟨rfl, hBz⟩
                · obtain rfl : ok = false := HOF.out (by unfold admOk; rw [inB_hi (by omega)]; simp)
                  go_wp2_with fail
                  refine (CellValid_c hAlone (by omega)).mono ?_; rintro e w9 ⟨rfl, hb9⟩
                  rw [HCA.out, h1]
                  have hBz := hBa.trans (hb9.mono hBa.size)
                  have h4' : decide (loss ≤ 20) = false := by simpa using h4
                  clear h1 hAlone
                  go_wp2_with fail
                  go_ret
                  exact ⟨rfl, hBz⟩
              · obtain rfl : ok = false := HOF.out (by unfold admOk; rw [inB_lo (by omega)]; simp)
                go_wp2_with fail
                refine (CellValid_c hAlone (by omega)).mono ?_; rintro e w9 ⟨rfl, hb9⟩
                rw [HCA.out, h1]
                have hBz := hBa.trans (hb9.mono hBa.size)
                clear h1 hAlone
                go_wp2_with fail
                go_ret
                exact ⟨rfl, hBz⟩
          · have h1' : nameB nm = false := by simpa using h1
            obtain rfl : ok = false := HOF.out (by unfold admOk; rw [h1']; simp)
            go_wp2_with fail
            refine (CellValid_c hAlone (by omega)).mono ?_; rintro e w9 ⟨rfl, hb9⟩
            rw [HCA.out, h1']
            have hBz := hBa.trans (hb9.mono hBa.size)
            clear h1 h1' hAlone
            go_wp2_with fail
            go_ret
            exact ⟨rfl, hBz⟩
    · have hcell' : cellB l = false := by simpa using hcell
      obtain rfl : ok = false := by rw [← HOK.out, full_ok]; unfold admOk; rw [hcell']; simp
      rw [hcell']
      go_wp2_with fail
      refine (CellValid_c hL4.1 hL4.2.1).mono ?_; rintro e w5 ⟨rfl, hb5⟩
      rw [hcell']
      have hB5 := hB4.trans (hb5.mono hB4.size)
      clear hL4 hcell hcell'
      go_wp2_with fail
      go_ret
      exact ⟨rfl, hB5⟩
  · have hn' : (1048576 : Int) < (len0 : Int) := by omega
    go_enter Try.func8, Try.ntmps8
    go_wp2_with fail
    go_ret
    exact ⟨rfl, Below.refl _ _⟩

set_option maxRecDepth 100000 in
theorem lifted (os : Os) (started : os.Started) (H : Type) (enc : TypeId × Value → H) :
    ReturnsInHanded {} Try.checked os 8 .any (Rows.fnAdmitFullSpec.pre6 enc Try.prog Try.f8 Rows.fnAdmitFullRow.domain false) (Rows.fnAdmitFullSpec.post enc Try.prog Try.f8 false true false false) := by
  refine returnsInHanded_of_change (C := Try.checked) own started (by kernel_rfl) Try.func8
    (ChangeSpec.witness6 (enc := enc) (C := Try.checked) false ⟨#[], #[.slice none 0 0], []⟩ 8 (by kernel_rfl) (by kernel_rfl) (by kernel_rfl) (by kernel_rfl)) ?_
  intro W base args ds gs before hval0 hW hcnd _
  have hval : ∀ (j : Nat) t v, Try.f8.params[j]? = some t → args[j]? = some v → Value.okWide Try.prog W .any base t v := hval0
  have hW' := hW
  obtain ⟨p, q, hA0, hV, rfl, hfz, hnd⟩ := hW
  have hA : DataW.TrodAll enc Try.prog W 0 (fun _ => true) true Try.f8.params.toList args.toList ds p := hA0
  rw [Try.params8] at hA hval
  obtain ⟨v0, vs0, d0, ds0, p0, q0, hargs, rfl, rfl, h0, r0⟩ := trodAll_cons hA
  obtain ⟨rfl, rfl, rfl⟩ := trodAll_nil r0
  obtain rfl : args = #[v0] := by cases args; simp_all
  obtain ⟨rfl, rfl⟩ := trodVars_none hV
  have k0 := h0
  have lt0 : ∀ x ∈ p0, x.block < W.heap.size := by obtain ⟨m, hm⟩ := k0; exact DataW.trod_lt m _ _ _ hm
  obtain ⟨a0, len0, cap0, rfl⟩ := okWide_slice Try.underlying22 (hval 0 22 v0 rfl rfl)
  obtain ⟨z0, w0⟩ : ∃ zs, IsRow .u8 W a0 len0 cap0 zs := by
    obtain ⟨fuel, hf⟩ := h0
    rcases open_ints Try.underlying22 Try.underlying5 (by kernel_rfl) hf with ⟨hcs, _⟩ | ⟨x, l, c, zs, hcs, _, hl, hm, hz, _, hcell, hwz⟩
    · simp [Value.cells] at hcs
      obtain ⟨rfl, rfl, rfl⟩ := hcs
      exact ⟨[], .inl ⟨rfl, rfl, rfl, rfl⟩⟩
    · simp [Value.cells] at hcs
      obtain ⟨rfl, rfl, rfl⟩ := hcs
      exact ⟨zs, .inr ⟨_, rfl, hl, hm, by simpa using hz, hcell, hwz⟩⟩
  clear hA0 hval0
  refine (walk a0 len0 cap0 z0 W w0).mono fun e W' ⟨he, bel⟩ => ?_
  subst he
  exact ⟨_, rfl, _, _, _, [], _, [], hW', trodAll_mk1 (shut_bool Try.underlying4 _), (trodAll_cons_mk (Below.trod laidOut (by kernel_rfl) (of_decide_eq_true (by kernel_rfl)) k0 bel lt0) trodAll_mk0), rfl, bel.frame _, fun h => by cases h⟩

theorem over : Rows.fnAdmitFullRow.holds Try.pinned (OpenSpec.ofChange Rows.fnAdmitFullSpec) :=
  OpenClaim.holds_of_wide 8 Try.f8 rfl rfl rfl rfl rfl rfl rfl ⟨rfl, rfl, rfl, rfl, rfl⟩ rfl rfl rfl rfl rfl (by kernel_rfl) Try.func8 (by kernel_rfl)
    (of_decide_eq_true (by kernel_rfl)) (by unfold Func.isWrapper; first | (rw [if_pos (by decide +kernel)]; kernel_rfl) | (rw [if_neg (by decide +kernel)]; exact ⟨rfl, rfl⟩))
    (fun os started H enc _ => lifted os started H enc)

theorem proved : Rows.FnAdmitFullSaid := over
#print axioms proved
end Go.Proofs.Ytklbdkbaldkkpaa.fnAdmitFull
