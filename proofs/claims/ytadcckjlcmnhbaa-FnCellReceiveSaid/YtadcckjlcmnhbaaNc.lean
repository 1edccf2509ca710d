/- Signals scaled, added, and delayed by nothing (program and reference). No condition beyond lengths. -/
import Derived.Test.YtadcckjlcmnhbaaNb
import Derived.Laws.CopyOwn
namespace Go.Proofs.Ytadcckjlcmnhbaa
open Go.RowKit

theorem signalOrNone_yes {ao : Option Addr} {n c : Nat} {l : List Int} {w : World} (h : Rd w ao n l) (hs : sigB l = true) :
    Calls Try.prog 119 #[.slice ao n c] w fun e w' => e = .returned (.tuple #[.slice ao n c, .bool true]) ∧ w = w' := by
  go_enter Try.func119, Try.ntmps119
  go_wp2_with fail
  refine (SignalValid_c h).mono ?_; rintro e w' ⟨rfl, rfl⟩
  rw [hs]
  clear hs
  go_wp2_with fail
  go_ret2
  exact ⟨rfl, rfl⟩

theorem signalOrNone_no {ao : Option Addr} {n c : Nat} {l : List Int} {w : World} (h : Rd w ao n l) (hs : sigB l = false) :
    Calls Try.prog 119 #[.slice ao n c] w fun e w' => e = .returned (.tuple #[.slice none 0 0, .bool false]) ∧ w = w' := by
  go_enter Try.func119, Try.ntmps119
  go_wp2_with fail
  refine (SignalValid_c h).mono ?_; rintro e w' ⟨rfl, rfl⟩
  rw [hs]
  clear hs
  go_wp2_with fail
  go_ret2
  exact ⟨rfl, rfl⟩

def sclOk (l : List Int) (g : Int) : Bool := sigB l && inB g (-1000000) 1000000 && sigB (scaleL g l)
def sclR (l : List Int) (g : Int) : Option (List Int) := if sclOk l g = true then some (scaleL g l) else none
theorem sclR_1 {l : List Int} {g : Int} (h : sigB l = false) : sclR l g = none := by simp [sclR, sclOk, h]
theorem sclR_2 {l : List Int} {g : Int} (h : inB g (-1000000) 1000000 = false) : sclR l g = none := by simp [sclR, sclOk, h]
theorem sclR_3 {l : List Int} {g : Int} (h : sigB (scaleL g l) = false) : sclR l g = none := by simp [sclR, sclOk, h]
theorem sclR_yes {l : List Int} {g : Int} (h1 : sigB l = true) (h2 : inB g (-1000000) 1000000 = true) (h3 : sigB (scaleL g l) = true) : sclR l g = some (scaleL g l) := by simp [sclR, sclOk, h1, h2, h3]
theorem mul_bd {g x : Int} (hg : -1000000 ≤ g ∧ g ≤ 1000000) (hx : -1000000 ≤ x ∧ x ≤ 1000000) : -1000000000000 ≤ g * x ∧ g * x ≤ 1000000000000 := by
  have h1 := Int.natAbs_mul g x
  have h2 : g.natAbs * x.natAbs ≤ 1000000 * 1000000 := Nat.mul_le_mul (by omega) (by omega)
  omega
theorem wr_mulI {g x : Int} (h : -1000000000000 ≤ g * x ∧ g * x ≤ 1000000000000) : IntKind.i64.wrap (g * x) = g * x := IntWalk.i64_in _ (by omega)

set_option maxHeartbeats 1600000 in
theorem ScaleSignal_c {ao : Option Addr} {n c : Nat} {l : List Int} {w : World} (g : Int) (h : Rd w ao n l) : Calls Try.prog 73 #[.slice ao n c, .int .i64 g] w (RetIntsB w (sclR l g)) := by
  have hs := h.2.1
  by_cases h1 : sigB l = true
  · by_cases h2 : -1000000 ≤ g
    · by_cases h3 : g ≤ 1000000
      · have HIN := Lib.hid (inB_true h2 h3)
        have HN := Lib.hid h.1
        have HL := Lib.hid (show (scaleL g l).length = n by rw [scaleL_len]; exact h.1.symm)
        have HG := Lib.hid (fun i => sigB_get h1 i)
        have HB := Lib.hid h1
        go_enter Try.func73, Try.ntmps73
        go_wp2_with fail
        refine (SignalValid_c h).mono ?_; rintro e w' ⟨rfl, rfl⟩
        rw [h1]
        clear h1
        go_wp2_with (at_make; refine wp_make w rfl _ _ rfl .i64 .i64 n rfl rfl (by omega) ?_; intro w1 hown hb)
        have hF := Fill.start (L := scaleL g l) hown HL.out (by simp)
        clear hown
        go_loopw [25] (fun i wr => ∃ k : Nat, k ≤ n ∧ i = .int .i64 k ∧ Fill wr w.heap.size w.heap.size n (scaleL g l) (List.replicate n 0) k ∧ Below w.heap.size w wr) (fun i _ => n - (intOf i).toNat)
        case atStart => exact ⟨0, Nat.zero_le _, rfl, hF, hb⟩
        case round =>
          clear hF hb
          obtain ⟨k, hk, rfl, hF, hb⟩ := hrel
          by_cases hlt : k < n
          · obtain ⟨bk, off, rfl, hl, hc0⟩ := (h.below hb).at hlt
            have hx := HG.out k
            rw [getD_ints hl] at hx
            have hm := mul_bd ⟨h2, h3⟩ hx
            have b1 := wr_mulI hm
            have HV := Lib.hid (scaleL_get g hl)
            have hc := hF.cell hlt
            have hf := hF.free k
            have hst := hF.step hlt (y := g * l[k]) HV.out
            have hb2 := hF.below hb (.int .i64 (g * l[k]))
            clear hF hb h
            go_wp2_with fail
            clear b1
            go_roundw
            case rel => exact ⟨k + 1, by omega, by go_num, hst, hb2⟩
            case measure => simp [intOf]; omega
          · obtain rfl : k = n := by omega
            obtain ⟨a1, n1, c1, e1, ho⟩ := (hF.done (Nat.le_refl _)).own (by rw [HL.out]; omega)
            cases e1
            by_cases h4 : sigB (scaleL g l) = true
            · have hr := Lib.hid (sclR_yes HB.out HIN.out h4)
              go_wp2_with fail
              refine (signalOrNone_yes ho.rd h4).mono ?_; rintro e w' ⟨rfl, rfl⟩
              clear h4
              go_wp2_with fail
              go_ret2
              exact ⟨_, _, _, by rw [hr.out]; rfl, by rw [hr.out]; exact ho, hb⟩
            · have h4' : sigB (scaleL g l) = false := by simpa using h4
              have hr := Lib.hid (sclR_3 h4')
              go_wp2_with fail
              refine (signalOrNone_no ho.rd h4').mono ?_; rintro e w' ⟨rfl, rfl⟩
              clear h4 h4'
              go_wp2_with fail
              go_ret2
              exact retIntsB_nil hr.out hb
      · have hr := Lib.hid (sclR_2 (l := l) (inB_hi (a := -1000000) (b := 1000000) (by omega : (1000000 : Int) < g)))
        have h3' : (1000000 : Int) < g := by omega
        clear h3
        go_enter Try.func73, Try.ntmps73
        go_wp2_with fail
        refine (SignalValid_c h).mono ?_; rintro e w' ⟨rfl, rfl⟩
        rw [h1]
        clear h1
        go_wp2_with fail
        go_ret2
        exact retIntsB_nil hr.out (Below.refl _ _)
    · have hr := Lib.hid (sclR_2 (l := l) (inB_lo (a := -1000000) (b := 1000000) (by omega : g < (-1000000 : Int))))
      have h2' : g < (-1000000 : Int) := by omega
      clear h2
      go_enter Try.func73, Try.ntmps73
      go_wp2_with fail
      refine (SignalValid_c h).mono ?_; rintro e w' ⟨rfl, rfl⟩
      rw [h1]
      clear h1
      go_wp2_with fail
      go_ret2
      exact retIntsB_nil hr.out (Below.refl _ _)
  · have h1' : sigB l = false := by simpa using h1
    have hr := Lib.hid (sclR_1 (g := g) h1')
    go_enter Try.func73, Try.ntmps73
    go_wp2_with fail
    refine (SignalValid_c h).mono ?_; rintro e w' ⟨rfl, rfl⟩
    rw [h1']
    clear h1 h1'
    go_wp2_with fail
    go_ret2
    exact retIntsB_nil hr.out (Below.refl _ _)

set_option maxHeartbeats 1600000 in
theorem l4Scale_c {ao : Option Addr} {n c : Nat} {l : List Int} {w : World} (g : Int) (h : Rd w ao n l) (h1 : sigB l = true) (h2 : -1000000 ≤ g ∧ g ≤ 1000000) : Calls Try.prog 125 #[.slice ao n c, .int .i64 g] w (RetInts w (scaleL g l)) := by
  have hs := h.2.1
  have HL := Lib.hid (show (scaleL g l).length = n by rw [scaleL_len]; exact h.1.symm)
  have HG := Lib.hid (fun i => sigB_get h1 i)
  clear h1
  go_enter Try.func125, Try.ntmps125
  go_wp2_with (at_make; refine wp_make w rfl _ _ rfl .i64 .i64 n rfl rfl (by omega) ?_; intro w1 hown hb)
  have hF := Fill.start (L := scaleL g l) hown HL.out (by simp)
  clear hown
  go_loopw [6] (fun i wr => ∃ k : Nat, k ≤ n ∧ i = .int .i64 k ∧ Fill wr w.heap.size w.heap.size n (scaleL g l) (List.replicate n 0) k ∧ Below w.heap.size w wr) (fun i _ => n - (intOf i).toNat)
  case atStart => exact ⟨0, Nat.zero_le _, rfl, hF, hb⟩
  case round =>
    clear hF hb
    obtain ⟨k, hk, rfl, hF, hb⟩ := hrel
    by_cases hlt : k < n
    · obtain ⟨bk, off, rfl, hl, hc0⟩ := (h.below hb).at hlt
      have hx := HG.out k
      rw [getD_ints hl] at hx
      have hm := mul_bd h2 hx
      have b1 : IntKind.i64.wrap (l[k] * g) = l[k] * g := by rw [Int.mul_comm]; exact wr_mulI hm
      have HV := Lib.hid (show (scaleL g l).getD k 0 = l[k] * g by rw [scaleL_get g hl, Int.mul_comm])
      have hc := hF.cell hlt
      have hf := hF.free k
      have hst := hF.step hlt (y := l[k] * g) HV.out
      have hb2 := hF.below hb (.int .i64 (l[k] * g))
      clear hF hb h
      go_wp2_with fail
      clear b1
      go_roundw
      case rel => exact ⟨k + 1, by omega, by go_num, hst, hb2⟩
      case measure => simp [intOf]; omega
    · obtain rfl : k = n := by omega
      obtain ⟨a1, n1, c1, e1, ho⟩ := (hF.done (Nat.le_refl _)).own (by rw [HL.out]; omega)
      cases e1
      go_wp2_with fail
      go_ret
      exact ⟨_, _, _, rfl, ho, hb⟩

/-- 'copy(dst, src)' of numbers, src not longer than dst, which the call made itself. -/
theorem wp_copyI {ops : Array Oper} {rest : List Oper} {o : Oper} {a : Act} {Q : Exit → Act → World → Prop} {w0 : World} (w : World) (hgd : o.guard = none) (d s : Operand)
    (ho : o.op = .call { callee := .builtin .copy, args := #[d, s], argTypes := #[27, 27] }) (lo g n m c2 : Nat) (L l : List Int) (ao : Option Addr)
    (hd : a.eval d = .slice (some ⟨g, 0, none⟩) n n) (hs : a.eval s = .slice ao m c2) (hown : w.ownsRow lo 3 1 (.slice (some ⟨g, 0, none⟩) n n) n (L.map (Value.int .i64))) (hL : L.length = n) (hr : Rd w ao m l) (hm : m ≤ n) (hb : Below lo w0 w)
    (h : ∀ w', w'.ownsRow lo 3 1 (.slice (some ⟨g, 0, none⟩) n n) n ((l ++ L.drop m).map (Value.int .i64)) → Below lo w0 w' → wpList Try.prog ops Q rest (a.put o.dst (goInt m)) w') :
    wpList Try.prog ops Q (o :: rest) a w := by
  rcases hown.2 with ⟨h1, _⟩ | ⟨g', cap, cur, hv, hgl, hh, hnc, hcm, hsz, htk⟩
  · cases h1
  · cases hv
    have hml := hr.1
    have hcl : cur.toList = L.map (Value.int .i64) := by
      rw [← htk]; exact (List.take_of_length_le (by rw [Array.length_toList, hsz]; exact Nat.le_refl _)).symm
    have hlm : (l.map (Value.int .i64)).length = m := by rw [List.length_map, hml]
    refine wpList_copy_splice hgd d s _ _ ho 3 (Try.underlying27) (by kernel_rfl) _ ao n n m c2 hd hs g 0 cur.toList 3 (by simpa using hh) (l.map (Value.int .i64)) (by rw [hlm]; exact (Nat.min_eq_left hm).symm) ?_ ?_ (ints_oneCell .i64 l) lo w0 hb hgl ?_
    · intro hp
      rw [hlm] at hp
      obtain ⟨b, off, e, _⟩ := hr.2.2 0 hp
      subst e
      exact ⟨rfl, _, rfl, hr.news⟩
    · rw [hlm, hcl, List.length_map, hL]; omega
    · intro w' hh' hb'
      rw [hlm]
      refine h w' ⟨by rw [List.length_map, List.length_append, List.length_drop]; omega, .inr ⟨g, n, _, rfl, hgl, hh'.out, Nat.le_refl _, hcm, ?_, ?_⟩⟩ hb'
      · rw [List.size_toArray, length_splice _ _ _ (by rw [hlm, hcl, List.length_map, hL]; omega), hcl, List.length_map, hL, Nat.mul_one]
      · rw [List.take_of_length_le (by simp [splice, hcl, hL]; omega)]
        simp [splice, hcl, hlm, hml]

set_option maxHeartbeats 1600000 in
theorem DelaySignal0_c {ao : Option Addr} {n c : Nat} {l : List Int} {w : World} (h : Rd w ao n l) (h1 : sigB l = true) : Calls Try.prog 74 #[.slice ao n c, .int .i64 0] w (RetIntsB w (some l)) := by
  have hs := h.2.1
  have HN := Lib.hid h.1
  have HS := Lib.hid h1
  have b1 : IntKind.i64.wrap ((0 : Int) + (n : Int)) = (n : Int) := by rw [Int.zero_add]; exact IntWalk.i64_in _ (by omega)
  go_enter Try.func74, Try.ntmps74
  go_wp2_with fail
  refine (SignalValid_c h).mono ?_; rintro e w' ⟨rfl, rfl⟩
  rw [h1]
  clear h1
  go_wp2_with (first | (at_make; refine wp_make w rfl _ _ rfl .i64 .i64 n rfl rfl (by omega) ?_; intro w1 hown hb) | (with_reducible refine wp_copyI (w0 := w) _ rfl (.tmp 25) (.tmp 26) rfl w.heap.size w.heap.size n n c (List.replicate n 0) l ao rfl rfl (by exact hown) (by simp) (by exact h.below hb) (Nat.le_refl _) (by exact hb) ?_; intro w2 hown2 hb2))
  rw [show l ++ (List.replicate n (0 : Int)).drop n = l by simp] at hown2
  have hO : OwnV w2 w.heap.size (.slice (some ⟨w.heap.size, 0, none⟩) n n) l := by unfold OwnV; rw [← HN.out]; exact hown2
  obtain ⟨a1, n1, c1, e1, ho⟩ := hO.own (by rw [← HN.out]; exact hs)
  cases e1
  refine (signalOrNone_yes ho.rd HS.out).mono ?_; rintro e w' ⟨rfl, rfl⟩
  clear b1
  go_wp2_with fail
  go_ret2
  exact ⟨_, _, _, rfl, ho, hb2⟩

set_option maxHeartbeats 1600000 in
theorem l4Delay0_c {ao : Option Addr} {n c : Nat} {l : List Int} {w : World} (h : Rd w ao n l) (hcz : ao = none → c = 0) (hn : n ≤ 100000) : Calls Try.prog 124 #[.slice ao n c, .int .i64 0] w (RetInts w l) := by
  have hs := h.2.1
  have HN := Lib.hid h.1
  have HC := Lib.hid hcz
  clear hcz
  go_enter Try.func124, Try.ntmps124
  go_wp2_with (first | (at_make; refine wp_make w rfl _ _ rfl .i64 .i64 0 rfl rfl (by omega) ?_; intro w1 hown hb) | (at_builtin; refine wp_appS _ rfl (.tmp 6) (.tmp 7) rfl w.heap.size _ [] l ao n c rfl (by exact hown) rfl (by exact h.below hb) HC.out (by simp; omega) (by exact hb.size) ?_; intro v' w3 ho3 _ hb3))
  rw [List.nil_append] at ho3
  obtain ⟨a1, n1, c1, hv, ho1⟩ := ho3.own (by have := HN.out; omega)
  subst hv
  have hb4 := hb.trans hb3
  go_wp2_with fail
  go_ret
  exact ⟨_, _, _, rfl, ho1, hb4⟩

theorem add_bd {a b : List Int} (ha : sigB a = true) (hb : sigB b = true) (i : Nat) : -1000000 ≤ a.getD i 0 ∧ a.getD i 0 ≤ 1000000 ∧ -1000000 ≤ b.getD i 0 ∧ b.getD i 0 ≤ 1000000 := by
  have := sigB_get ha i
  have := sigB_get hb i
  omega

set_option maxHeartbeats 1600000 in
theorem AddSignals_c {ao bo : Option Addr} {n c nb cb : Nat} {a b : List Int} {w : World} (h : Rd w ao n a) (h' : Rd w bo nb b) (h1 : sigB a = true) (h2 : sigB b = true) (h3 : sigB (addL a b) = true) :
    Calls Try.prog 75 #[.slice ao n c, .slice bo nb cb] w (RetIntsB w (some (addL a b))) := by
  have hs := h.2.1
  have hs' := h'.2.1
  have HN := Lib.hid h.1
  have HN' := Lib.hid h'.1
  have HS := Lib.hid h3
  have HB := Lib.hid (fun i => add_bd h1 h2 i)
  obtain ⟨m, hm⟩ : ∃ m, m = max n nb := ⟨_, rfl⟩
  have hnm : n ≤ m := by omega
  have hbm : nb ≤ m := by omega
  have hm2 : m ≤ 1099511627776 := by omega
  have hmI : (if n < nb then (nb : Int) else (n : Int)) = (m : Int) := by split <;> omega
  have hml : m = max a.length b.length := by rw [← HN.out, ← HN'.out]; exact hm
  have HL := Lib.hid (show (addL a b).length = m by rw [addL_len]; exact hml.symm)
  have HZ := Lib.hid (show a ++ (List.replicate m 0).drop n = padL a m by unfold padL; rw [List.drop_replicate, HN.out])
  have HPL := Lib.hid (show (padL a m).length = m from padL_len (by rw [← HN.out]; exact hnm))
  have HE := Lib.hid (show (addL a b).take nb ++ (padL a m).drop nb = addL a b by rw [hml]; exact add_end (Nat.le_of_eq HN'.out.symm))
  clear h3 hm hml
  go_enter Try.func75, Try.ntmps75
  go_wp2_with fail
  refine (SignalValid_c h).mono ?_; rintro e w' ⟨rfl, rfl⟩
  rw [h1]
  go_wp2_with fail
  refine (SignalValid_c h').mono ?_; rintro e w' ⟨rfl, rfl⟩
  rw [h2]
  clear h1 h2
  go_wp2_with (first | (at_make; refine wp_make w rfl _ _ rfl .i64 .i64 m (by first | rfl | exact congrArg (Value.int .i64) hmI) (by first | rfl | exact congrArg (Value.int .i64) hmI) (by omega) ?_; intro w1 hown hb) | (with_reducible refine wp_copyI (w0 := w) _ rfl (.tmp 23) (.tmp 24) rfl w.heap.size w.heap.size m n c (List.replicate m 0) a ao rfl rfl (by exact hown) (by simp) (by exact h.below hb) hnm (by exact hb) ?_; intro w2 hown2 hb2))
  rw [HZ.out] at hown2
  have hF := Fill.start (L := addL a b) hown2 HL.out HPL.out
  clear hown hown2 hb
  go_loopw [28] (fun i wr => ∃ k : Nat, k ≤ nb ∧ i = .int .i64 k ∧ Fill wr w.heap.size w.heap.size m (addL a b) (padL a m) k ∧ Below w.heap.size w wr) (fun i _ => nb - (intOf i).toNat)
  case atStart => exact ⟨0, Nat.zero_le _, rfl, hF, hb2⟩
  case round =>
    clear hF hb2
    obtain ⟨k, hk, rfl, hF, hb⟩ := hrel
    by_cases hlt : k < nb
    · obtain ⟨bk, off, rfl, hl, hc0⟩ := (h'.below hb).at hlt
      have hkm : k < m := by omega
      have hc := hF.cell hkm
      rw [padL_get] at hc
      have hx := HB.out k
      have HV := Lib.hid (show (addL a b).getD k 0 = a.getD k 0 + b[k] by rw [addL_get, getD_ints hl])
      rw [getD_ints hl] at hx
      have hf := hF.free k
      have hst := hF.step hkm (y := a.getD k 0 + b[k]) HV.out
      have hb2 := hF.below hb (.int .i64 (a.getD k 0 + b[k]))
      generalize a.getD k 0 = A at *
      clear hF hb h'
      go_wp2_with fail
      go_roundw
      case rel => exact ⟨k + 1, by omega, by go_num, hst, hb2⟩
      case measure => simp [intOf]; omega
    · obtain rfl : k = nb := by omega
      obtain ⟨hF1, hF2, hF3⟩ := hF
      rw [HE.out] at hF1
      have hO : OwnV wr w.heap.size (.slice (some ⟨w.heap.size, 0, none⟩) m m) (addL a b) := by unfold OwnV; rw [HL.out]; exact hF1
      obtain ⟨a1, n1, c1, e1, ho⟩ := hO.own (by rw [HL.out]; omega)
      cases e1
      go_wp2_with fail
      refine (signalOrNone_yes ho.rd HS.out).mono ?_; rintro e w' ⟨rfl, rfl⟩
      go_wp2_with fail
      go_ret2
      exact ⟨_, _, _, rfl, ho, hb⟩

set_option maxRecDepth 100000 in
set_option maxHeartbeats 1600000 in
theorem l4Add_c {ao bo : Option Addr} {n c nb cb : Nat} {a b : List Int} {w : World} (h : Rd w ao n a) (h' : Rd w bo nb b) (h1 : sigB a = true) (h2 : sigB b = true) :
    Calls Try.prog 123 #[.slice ao n c, .slice bo nb cb] w (RetInts w (addL a b)) := by
  have hs := h.2.1
  have hs' := h'.2.1
  have HN := Lib.hid h.1
  have HN' := Lib.hid h'.1
  have HB := Lib.hid (fun i => add_bd h1 h2 i)
  obtain ⟨m, hm⟩ : ∃ m, m = max n nb := ⟨_, rfl⟩
  have hnm : n ≤ m := by omega
  have hbm : nb ≤ m := by omega
  have hm2 : m ≤ 1099511627776 := by omega
  have hmI : (if n < nb then (nb : Int) else (n : Int)) = (m : Int) := by split <;> omega
  have hml : m = max a.length b.length := by rw [← HN.out, ← HN'.out]; exact hm
  have HL := Lib.hid (show (addL a b).length = m by rw [addL_len]; exact hml.symm)
  have HZ := Lib.hid (show a ++ (List.replicate m 0).drop n = padL a m by unfold padL; rw [List.drop_replicate, HN.out])
  have HPL := Lib.hid (show (padL a m).length = m from padL_len (by rw [← HN.out]; exact hnm))
  have HE := Lib.hid (show (addL a b).take nb ++ (padL a m).drop nb = addL a b by rw [hml]; exact add_end (Nat.le_of_eq HN'.out.symm))
  clear hm hml h1 h2
  go_enter Try.func123, Try.ntmps123
  go_wp2_with (first | (at_make; refine wp_make w rfl _ _ rfl .i64 .i64 m (by first | rfl | exact congrArg (Value.int .i64) hmI) (by first | rfl | exact congrArg (Value.int .i64) hmI) (by omega) ?_; intro w1 hown hb) | (with_reducible refine wp_copyI (w0 := w) _ rfl (.tmp 13) (.tmp 14) rfl w.heap.size w.heap.size m n c (List.replicate m 0) a ao rfl rfl (by exact hown) (by simp) (by exact h.below hb) hnm (by exact hb) ?_; intro w2 hown2 hb2))
  rw [HZ.out] at hown2
  have hF := Fill.start (L := addL a b) hown2 HL.out HPL.out
  clear hown hown2 hb
  go_loopw [6] (fun i wr => ∃ k : Nat, k ≤ nb ∧ i = .int .i64 k ∧ Fill wr w.heap.size w.heap.size m (addL a b) (padL a m) k ∧ Below w.heap.size w wr) (fun i _ => nb - (intOf i).toNat)
  case atStart => exact ⟨0, Nat.zero_le _, rfl, hF, hb2⟩
  case round =>
    clear hF hb2
    obtain ⟨k, hk, rfl, hF, hb⟩ := hrel
    by_cases hlt : k < nb
    · obtain ⟨bk, off, rfl, hl, hc0⟩ := (h'.below hb).at hlt
      have hkm : k < m := by omega
      have hc := hF.cell hkm
      rw [padL_get] at hc
      have hx := HB.out k
      have HV := Lib.hid (show (addL a b).getD k 0 = a.getD k 0 + b[k] by rw [addL_get, getD_ints hl])
      rw [getD_ints hl] at hx
      have hf := hF.free k
      have hst := hF.step hkm (y := a.getD k 0 + b[k]) HV.out
      have hb2 := hF.below hb (.int .i64 (a.getD k 0 + b[k]))
      generalize a.getD k 0 = A at *
      clear hF hb h'
      have b1 : IntKind.i64.wrap (A + b[k]) = A + b[k] := IntWalk.i64_in _ (by omega)
      go_wp2_with fail
      go_still_tail 12, (by kernel_rfl)
      go_wp2_with fail
      clear b1
      go_roundw
      case rel => exact ⟨k + 1, by omega, by go_num, hst, hb2.drew⟩
      case measure => simp [intOf]; omega
    · obtain rfl : k = nb := by omega
      obtain ⟨hF1, hF2, hF3⟩ := hF
      rw [HE.out] at hF1
      have hO : OwnV wr w.heap.size (.slice (some ⟨w.heap.size, 0, none⟩) m m) (addL a b) := by unfold OwnV; rw [HL.out]; exact hF1
      obtain ⟨a1, n1, c1, e1, ho⟩ := hO.own (by rw [HL.out]; omega)
      cases e1
      go_wp2_with fail
      go_ret
      exact ⟨_, _, _, rfl, ho, hb⟩

end Go.Proofs.Ytadcckjlcmnhbaa
