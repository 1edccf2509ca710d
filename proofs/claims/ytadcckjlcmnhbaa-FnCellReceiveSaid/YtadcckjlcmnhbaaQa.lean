/- Correlations of a signal with a code (correlationAt, correlationsFrom of the program; l4Dot, l4Despread of the reference). No condition beyond lengths. -/
import Derived.Test.YtadcckjlcmnhbaaRx
namespace Go.Proofs.Ytadcckjlcmnhbaa
open Go.RowKit

/-- The chip of a bit, and the sum of the first k products of a code's chips with the samples from f on. -/
def chipC (x : Int) : Int := if x = 48 then 1 else -1
def dotN (l s : List Int) (f : Nat) : Nat → Int
  | 0 => 0
  | k + 1 => dotN l s f k + chipC (s.getD k 0) * l.getD (f + k) 0
def despL (l s : List Int) (f n : Nat) : List Int := (List.range n).map fun i => dotN l s (f + i * s.length) s.length
theorem despL_len (l s : List Int) (f n : Nat) : (despL l s f n).length = n := by simp [despL]
theorem despL_get {l s : List Int} {f n i : Nat} (h : i < n) : (despL l s f n)[i]'(by rw [despL_len]; exact h) = dotN l s (f + i * s.length) s.length := by simp [despL]
theorem despL_succ (l s : List Int) (f n : Nat) : despL l s f (n + 1) = despL l s f n ++ [dotN l s (f + n * s.length) s.length] := by unfold despL; rw [map_range_succ]
theorem sigB_get {l : List Int} (h : sigB l = true) (i : Nat) : -1000000 ≤ l.getD i 0 ∧ l.getD i 0 ≤ 1000000 := by
  unfold sigB at h; rw [Bool.and_eq_true] at h
  by_cases hi : i < l.length
  · have := allB_get h.2 hi
    simpa [List.getD, hi] using this
  · have e : l.getD i 0 = 0 := by simp [List.getD, List.getElem?_eq_none (by omega : l.length ≤ i)]
    rw [e]; omega
theorem sigB_len {l : List Int} (h : sigB l = true) : l.length ≤ 3000 := by
  unfold sigB at h; rw [Bool.and_eq_true] at h; exact of_decide_eq_true h.1
theorem chipC_or (x : Int) : chipC x = 1 ∨ chipC x = -1 := by unfold chipC; split <;> simp
theorem chip_mul (x y : Int) (h : -1000000 ≤ y ∧ y ≤ 1000000) : -1000000 ≤ chipC x * y ∧ chipC x * y ≤ 1000000 := by
  rcases chipC_or x with e | e <;> rw [e] <;> omega
theorem dotN_bd {l : List Int} (h : sigB l = true) (s : List Int) (f k : Nat) : -(1000000 * (k : Int)) ≤ dotN l s f k ∧ dotN l s f k ≤ 1000000 * (k : Int) := by
  induction k with
  | zero => simp [dotN]
  | succ k ih =>
    have := chip_mul (s.getD k 0) (l.getD (f + k) 0) (sigB_get h (f + k))
    simp only [dotN]
    omega
theorem dotN_stop (l s : List Int) (f k : Nat) (h : l.length ≤ f + k) : ∀ d, dotN l s f (k + d) = dotN l s f k := by
  intro d
  induction d with
  | zero => rfl
  | succ d ih =>
    have e : l.getD (f + (k + d)) 0 = 0 := by simp [List.getD, List.getElem?_eq_none (by omega : l.length ≤ f + (k + d))]
    rw [← Nat.add_assoc]
    simp only [dotN]
    rw [e, ih]; simp
theorem dotN_end {l s : List Int} {f k m : Nat} (hk : k ≤ m) (h : k = m ∨ l.length ≤ f + k) : dotN l s f k = dotN l s f m := by
  rcases h with rfl | h
  · rfl
  · obtain ⟨d, rfl⟩ : ∃ d, m = k + d := ⟨m - k, by omega⟩
    exact (dotN_stop l s f k h d).symm
theorem codes_getD {s : ByteArray} {k : Nat} (h : k < s.size) : (codes s).getD k 0 = (s[k].toNat : Int) := by
  rw [← codes_get s h]; simp [List.getD, codes_length, h]
theorem getD_ints {l : List Int} {k : Nat} (h : k < l.length) : l.getD k 0 = l[k] := by simp [List.getD, h]

set_option maxHeartbeats 400000 in
theorem chipOf_c (x : Int) (w : World) : Calls Try.prog 40 #[.int .u8 x] w fun e w' => e = .returned (.int .i64 (chipC x)) ∧ w = w' := by
  by_cases h : x = 48
  · have hr := Lib.hid (show chipC x = 1 by unfold chipC; rw [if_pos h])
    have h' : (x == 48) = true := by simp [h]
    clear h
    go_enter Try.func40, Try.ntmps40
    go_wp2
    go_ret
    exact ⟨ret_i hr.out.symm, rfl⟩
  · have hr := Lib.hid (show chipC x = -1 by unfold chipC; rw [if_neg h])
    have h' : (x == 48) = false := by simp [h]
    clear h
    go_enter Try.func40, Try.ntmps40
    go_wp2
    go_ret
    exact ⟨ret_i hr.out.symm, rfl⟩

set_option maxRecDepth 100000 in
set_option maxHeartbeats 1600000 in
theorem correlationAt_c {ao : Option Addr} {n c : Nat} {l : List Int} {w : World} (s : ByteArray) (f : Nat) (h : Rd w ao n l) (hl : sigB l = true) (hs : s.size ≤ 1000) (hf : f ≤ 1000000000) :
    Calls Try.prog 83 #[.slice ao n c, .string s, .int .i64 (f : Nat)] w fun e w' => e = .returned (.int .i64 (dotN l (codes s) f s.size)) ∧ Qw w w' := by
  have hn := h.2.1
  have HN := Lib.hid h.1
  have HB := Lib.hid (fun k => dotN_bd hl (codes s) f k)
  have HG := Lib.hid (fun i => sigB_get hl i)
  clear hl
  go_enter Try.func83, Try.ntmps83
  go_wp2
  go_loopw [7, 8] (fun q i wr => ∃ k : Nat, k ≤ s.size ∧ i = .int .i64 k ∧ q = .int .i64 (dotN l (codes s) f k) ∧ Qw w wr) (fun _ i _ => s.size - (intOf i).toNat)
  case atStart => exact ⟨0, Nat.zero_le _, rfl, rfl, Qw.refl _⟩
  case round =>
    obtain ⟨k, hk, rfl, rfl, hq⟩ := hrel
    have hb := HB.out k
    obtain ⟨g, hg⟩ : ∃ g : Nat, (f : Int) + (k : Int) = (g : Int) := ⟨f + k, by omega⟩
    have HF := Lib.hid (show f + k = g by omega)
    by_cases h1 : k < s.size
    · by_cases h2 : g < n
      · obtain ⟨bk, off, rfl, hl, hc⟩ := (h.qw hq).at h2
        have HS := Lib.hid (show dotN l (codes s) f (k + 1) = dotN l (codes s) f k + chipC (s[k].toNat : Int) * l[g] by simp only [dotN]; rw [codes_getD h1, HF.out, getD_ints hl])
        have hg' := HG.out g
        rw [getD_ints hl] at hg'
        have hm := chip_mul (s[k].toNat : Int) l[g] hg'
        generalize dotN l (codes s) f k = D at *
        have HM := Lib.hid (show ∃ m, m = chipC (s[k].toNat : Int) * l[g] from ⟨_, rfl⟩)
        have v1 : IntKind.i64.wrap ((f : Int) + (k : Int)) = (g : Int) := by rw [hg]; exact IntWalk.i64_in _ (by omega)
        have v2 : IntKind.i64.wrap (chipC (s[k].toNat : Int) * l[g]) = chipC (s[k].toNat : Int) * l[g] := IntWalk.i64_in _ (by omega)
        have v3 : IntKind.i64.wrap (D + chipC (s[k].toNat : Int) * l[g]) = D + chipC (s[k].toNat : Int) * l[g] := IntWalk.i64_in _ (by omega)
        clear h hg'
        go_wp2
        go_quiet ((first | (go_at_call 40; exact quiet_eq (chipOf_c _ _))))
        clear v1 v2 v3
        go_wp2_with fail
        go_roundw
        case rel => exact ⟨k + 1, by omega, by go_num, by rw [HS.out], hq.trans (Qw.drewN _ _)⟩
        case measure => simp [intOf]; omega
      · have HE := Lib.hid (dotN_end (l := l) (s := codes s) (f := f) (k := k) (m := s.size) hk (.inr (by have := HN.out; have := HF.out; omega)))
        go_wp2
        go_ret
        exact ⟨ret_i HE.out, hq⟩
    · obtain rfl : k = s.size := by omega
      go_wp2
      go_ret
      exact ⟨rfl, hq⟩

theorem chip_bit {x : Int} (h : isBit x) : 1 - 2 * (x - 48) = chipC x := by
  rcases h with rfl | rfl <;> decide

set_option maxRecDepth 100000 in
set_option maxHeartbeats 1600000 in
theorem l4Dot_c {ao : Option Addr} {n c : Nat} {l : List Int} {w : World} (s : ByteArray) (f : Nat) (h : Rd w ao n l) (hl : sigB l = true) (hs : s.size ≤ 1000) (hf : f ≤ 1000000000) (hb : ∀ x ∈ codes s, isBit x) :
    Calls Try.prog 141 #[.slice ao n c, .int .i64 (f : Nat), .string s] w fun e w' => e = .returned (.int .i64 (dotN l (codes s) f s.size)) ∧ Qw w w' := by
  have hn := h.2.1
  have HN := Lib.hid h.1
  have HB := Lib.hid (fun k => dotN_bd hl (codes s) f k)
  have HG := Lib.hid (fun i => sigB_get hl i)
  have HBT := Lib.hid hb
  clear hl hb
  go_enter Try.func141, Try.ntmps141
  go_wp2
  go_loopw [7, 8] (fun q i wr => ∃ k : Nat, k ≤ s.size ∧ i = .int .i64 k ∧ q = .int .i64 (dotN l (codes s) f k) ∧ Qw w wr) (fun _ i _ => s.size - (intOf i).toNat)
  case atStart => exact ⟨0, Nat.zero_le _, rfl, rfl, Qw.refl _⟩
  case round =>
    obtain ⟨k, hk, rfl, rfl, hq⟩ := hrel
    have hb := HB.out k
    obtain ⟨g, hg⟩ : ∃ g : Nat, (f : Int) + (k : Int) = (g : Int) := ⟨f + k, by omega⟩
    have HF := Lib.hid (show f + k = g by omega)
    by_cases h1 : k < s.size
    · by_cases h2 : g < n
      · obtain ⟨bk, off, rfl, hl, hc⟩ := (h.qw hq).at h2
        have HS := Lib.hid (show dotN l (codes s) f (k + 1) = dotN l (codes s) f k + chipC (s[k].toNat : Int) * l[g] by simp only [dotN]; rw [codes_getD h1, HF.out, getD_ints hl])
        have hg' := HG.out g
        rw [getD_ints hl] at hg'
        have hm := chip_mul (s[k].toNat : Int) l[g] hg'
        have hkc : k < (codes s).length := by rw [codes_length]; exact h1
        have hbit : isBit (s[k].toNat : Int) := by rw [← codes_get s h1]; exact HBT.out _ (List.getElem_mem hkc)
        generalize dotN l (codes s) f k = D at *
        obtain ⟨x, hx⟩ : ∃ x : Int, x = (s[k].toNat : Int) := ⟨_, rfl⟩
        rw [← hx] at hm hbit
        have hx48 : x = 48 ∨ x = 49 := hbit
        have hxx := chip_bit hbit
        have hcm : l[g] * chipC x = chipC x * l[g] := Int.mul_comm _ _
        have v1 : IntKind.i64.wrap ((f : Int) + (k : Int)) = (g : Int) := by rw [hg]; exact IntWalk.i64_in _ (by omega)
        have v2 : IntKind.i64.wrap ((s[k].toNat : Int) - 48) = x - 48 := by rw [← hx]; exact IntWalk.i64_in _ (by omega)
        have v3 : IntKind.i64.wrap (2 * (x - 48)) = 2 * (x - 48) := IntWalk.i64_in _ (by omega)
        have v4 : IntKind.i64.wrap (1 - 2 * (x - 48)) = chipC x := by rw [← hxx]; exact IntWalk.i64_in _ (by omega)
        have v5 : IntKind.i64.wrap (l[g] * chipC x) = chipC x * l[g] := by rw [hcm]; exact IntWalk.i64_in _ (by omega)
        have v6 : IntKind.i64.wrap (D + chipC x * l[g]) = D + chipC x * l[g] := IntWalk.i64_in _ (by omega)
        have v7 : IntKind.i64.wrap (s[k].toNat : Int) = (s[k].toNat : Int) := IntWalk.i64_in _ (by omega)
        have HX := Lib.hid hx
        clear h hg' hx hxx hcm hbit hx48
        go_wp2
        go_quiet (fail)
        clear v1 v2 v3 v4 v5 v6 v7
        go_wp2_with fail
        go_roundw
        case rel => exact ⟨k + 1, by omega, by go_num, by rw [HS.out, HX.out], hq.trans (Qw.drewN _ _)⟩
        case measure => simp [intOf]; omega
      · have HE := Lib.hid (dotN_end (l := l) (s := codes s) (f := f) (k := k) (m := s.size) hk (.inr (by have := HN.out; have := HF.out; omega)))
        go_wp2
        go_ret
        exact ⟨ret_i HE.out, hq⟩
    · obtain rfl : k = s.size := by omega
      go_wp2
      go_ret
      exact ⟨rfl, hq⟩

set_option maxHeartbeats 1600000 in
theorem correlationsFrom_c {ao : Option Addr} {n c : Nat} {l : List Int} {w : World} (s : ByteArray) (f m : Nat) (h : Rd w ao n l) (hl : sigB l = true) (hs : s.size ≤ 1000) (hf : f ≤ 1000000) (hm : m ≤ 1000) :
    Calls Try.prog 39 #[.slice ao n c, .string s, .int .i64 (f : Nat), .int .i64 (m : Nat)] w (RetInts w (despL l (codes s) f m)) := by
  have HL := Lib.hid (despL_len l (codes s) f m)
  have HG := Lib.hid (fun i (hi : i < m) => despL_get (l := l) (s := codes s) (f := f) hi)
  have HC := Lib.hid (codes_length s)
  have HSG := Lib.hid hl; clear hl
  go_enter Try.func39, Try.ntmps39
  go_wp2_with (at_make; refine wp_make w rfl (.tmp 11) (.tmp 11) rfl .i64 .i64 m rfl rfl (by omega) ?_; intro w1 hown hb)
  have hF := Fill.start hown HL.out (by simp)
  clear hown
  go_wp2
  go_loopw [15] (fun i wr => ∃ k : Nat, k ≤ m ∧ i = .int .i64 k ∧ Fill wr w.heap.size w.heap.size m (despL l (codes s) f m) (List.replicate m 0) k ∧ Below w.heap.size w wr) (fun i _ => m - (intOf i).toNat)
  case atStart => exact ⟨0, Nat.zero_le _, rfl, hF, hb⟩
  case round =>
    clear hF hb
    obtain ⟨k, hk, rfl, hF, hb⟩ := hrel
    by_cases hlt : k < m
    · obtain ⟨p, hp⟩ : ∃ p : Nat, (k : Int) * (s.size : Int) = (p : Int) := ⟨k * s.size, by simp⟩
      obtain ⟨g, hg⟩ : ∃ g : Nat, (f : Int) + (p : Int) = (g : Int) := ⟨f + p, by omega⟩
      have hks : k * s.size ≤ 1000 * 1000 := Nat.mul_le_mul (by omega) hs
      have hpn : k * s.size = p := by have : ((k * s.size : Nat) : Int) = (p : Int) := by rw [← hp]; simp
                                      omega
      have HGN := Lib.hid (show f + k * s.size = g by omega)
      have hpl : p ≤ 1000000 := by omega
      have hgl : g ≤ 1000000000 := by omega
      clear hpn hks
      go_wp2_with fail
      refine (correlationAt_c s g (h.below hb) HSG.out hs hgl).mono ?_; rintro e w2 ⟨rfl, hq⟩
      have hF2 := hF.alter (hq.below _)
      have hb2 := hb.trans ((hq.below wr.heap.size).mono hb.size)
      have hc := hF2.cell hlt
      have hf := hF2.free k
      have hst := hF2.step hlt (y := dotN l (codes s) g s.size) (by rw [getD_ints (by rw [HL.out]; exact hlt), HG.out k hlt, HC.out, HGN.out])
      have hb3 := hF2.below hb2 (.int .i64 (dotN l (codes s) g s.size))
      clear hF hF2 hb hb2 hq hp hg
      go_wp2_with fail
      go_roundw
      case rel => exact ⟨k + 1, by omega, by go_num, hst, hb3⟩
      case measure => simp [intOf]; omega
    · obtain rfl : k = m := by omega
      obtain ⟨a1, n1, c1, e1, ho⟩ := (hF.done (Nat.le_refl _)).own (by rw [HL.out]; omega)
      cases e1
      go_wp2_with fail
      go_ret
      exact ⟨_, _, _, rfl, ho, hb⟩

set_option maxHeartbeats 1600000 in
theorem l4Despread_c {ao : Option Addr} {n c : Nat} {l : List Int} {w : World} (s : ByteArray) (f m : Nat) (h : Rd w ao n l) (hl : sigB l = true) (hs : s.size ≤ 1000) (hf : f ≤ 1000000) (hm : m ≤ 1000) (hbt : ∀ x ∈ codes s, isBit x) :
    Calls Try.prog 116 #[.slice ao n c, .string s, .int .i64 (f : Nat), .int .i64 (m : Nat)] w (RetInts w (despL l (codes s) f m)) := by
  have HBT := Lib.hid hbt; clear hbt
  have HC := Lib.hid (codes_length s)
  have HSG := Lib.hid hl; clear hl
  have ho0 : OwnV (w.alloc (.cells #[] 3)) w.heap.size (.slice (some ⟨w.heap.size, 0, none⟩) 0 0) [] := OwnV.made0 w (Nat.le_refl _)
  have hb0 : Below w.heap.size w (w.alloc (.cells #[] 3)) := (Below.refl _ _).alloc (Nat.le_refl _) _
  go_enter Try.func116, Try.ntmps116
  go_wp2
  go_loopw [9, 10] (fun v i wr => ∃ k : Nat, k ≤ m ∧ i = .int .i64 k ∧ OwnV wr w.heap.size v (despL l (codes s) f k) ∧ Below w.heap.size w wr) (fun _ i _ => m - (intOf i).toNat)
  case atStart => exact ⟨0, Nat.zero_le _, rfl, ho0, hb0⟩
  case round =>
    clear ho0 hb0
    obtain ⟨k, hk, rfl, ho, hb⟩ := hrel
    by_cases hlt : k < m
    · obtain ⟨p, hp⟩ : ∃ p : Nat, (k : Int) * (s.size : Int) = (p : Int) := ⟨k * s.size, by simp⟩
      obtain ⟨g, hg⟩ : ∃ g : Nat, (f : Int) + (p : Int) = (g : Int) := ⟨f + p, by omega⟩
      have hks : k * s.size ≤ 1000 * 1000 := Nat.mul_le_mul (by omega) hs
      have hpn : k * s.size = p := by have : ((k * s.size : Nat) : Int) = (p : Int) := by rw [← hp]; simp
                                      omega
      have HGN := Lib.hid (show f + k * s.size = g by omega)
      have hpl : p ≤ 1000000 := by omega
      have hgl : g ≤ 1000000000 := by omega
      have HS := Lib.hid (show despL l (codes s) f (k + 1) = despL l (codes s) f k ++ [dotN l (codes s) g s.size] by rw [despL_succ, HC.out, HGN.out])
      have HLN := Lib.hid (despL_len l (codes s) f k)
      clear hpn hks
      go_wp2_with fail
      refine (l4Dot_c s g (h.below hb) HSG.out hs hgl HBT.out).mono ?_; rintro e w2 ⟨rfl, hq⟩
      have ho2 : OwnV w2 w.heap.size _ _ := ownsRow_below ho (hq.below _) fun j hj => (ho.lt j hj).2
      have hb2 := hb.trans ((hq.below wr.heap.size).mono hb.size)
      have hz2 := hb2.size
      clear ho hb hq hp hg
      go_wp2_with (at_builtin; refine wp_app1 w2 rfl (.tmp 17) (.tmp 27) rfl w.heap.size _ (despL l (codes s) f k) (dotN l (codes s) g s.size) rfl ho2 rfl (by rw [HLN.out]; omega) hz2 ?_; intro v' w3 ho3 _ hb3)
      have hb4 := hb2.trans hb3
      rw [← HS.out] at ho3
      clear ho2 hb2 hb3
      go_roundw
      case rel => exact ⟨k + 1, by omega, by go_num, ho3, hb4⟩
      case measure => simp [intOf]; omega
    · obtain rfl : k = m := by omega
      obtain ⟨a1, n1, c1, hv, ho1⟩ := ho.own (by rw [despL_len]; omega)
      subst hv
      go_wp2_with fail
      go_ret
      exact ⟨_, _, _, rfl, ho1, hb⟩

end Go.Proofs.Ytadcckjlcmnhbaa
