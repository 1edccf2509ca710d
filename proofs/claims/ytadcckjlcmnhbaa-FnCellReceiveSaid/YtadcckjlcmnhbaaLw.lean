/- What the laws' own helpers do: membership (ssHas), equality of lists (ssInts), and the bytes of a law's argument. No condition beyond lengths. -/
import Derived.Test.YtadcckjlcmnhbaaDx
namespace Go.Proofs.Ytadcckjlcmnhbaa
open Go.RowKit

theorem codeW_of_row {w : World} {a : Option Addr} {len cap : Nat} {zs : List Int}
    (h : (a = none ∧ len = 0 ∧ cap = 0 ∧ zs = []) ∨ ∃ x, a = some x ∧ len ≤ cap ∧ cap ≤ maxLen ∧ zs.length = cap ∧ (∀ i, i < zs.length → w.cell? (x.add i) = some (.int .u8 (zs.getD i 0))) ∧ ∀ n ∈ zs, (Lit.int .u8 n).wf = true)
    (hs : len ≤ 1099511627776) : CodeW w a len cap := by
  rcases h with ⟨rfl, rfl, rfl, rfl⟩ | ⟨x, rfl, h1, h2, h3, h4, h5⟩
  · exact ⟨[], RdF.nil _ w, Nat.le_refl _, fun x hx => by simp at hx⟩
  · refine ⟨zs.take len, ⟨by rw [List.length_take]; omega, hs, fun i hi => ?_⟩, h1, fun x hx => ?_⟩
    · have hi2 : i < len := by rw [List.length_take] at hi; omega
      obtain ⟨b, off, spot⟩ := x
      have hc0 := h4 0 (by omega)
      have hsp : spot = none := by simpa [Addr.add] using World.cell?_spot hc0
      subst hsp
      refine ⟨b, off, rfl, ?_⟩
      have e : (zs.take len)[i] = zs.getD i 0 := by simp [List.getD, show i < zs.length by omega]
      rw [e, ← h4 i (by omega), Addr.add_lit]
    · have := h5 x (List.mem_of_mem_take hx)
      simp only [Lit.wf, Bool.and_eq_true, decide_eq_true_eq] at this
      have e1 : IntKind.u8.min = 0 := by decide
      have e2 : IntKind.u8.max = 255 := by decide
      omega

def sameB (l r : List Int) : Bool := decide (l = r)
theorem sameB_self (l : List Int) : sameB l l = true := by simp [sameB]
theorem sameB_len {l r : List Int} (h : l.length ≠ r.length) : sameB l r = false := by
  unfold sameB; rw [decide_eq_false_iff_not]; intro e; exact h (by rw [e])
theorem sameB_at {l r : List Int} {k : Nat} (hl : k < l.length) (hr : k < r.length) (h : l[k] ≠ r[k]) : sameB l r = false := by
  unfold sameB; rw [decide_eq_false_iff_not]; intro e; subst e; exact h rfl
theorem sameB_all {l r : List Int} (hn : l.length = r.length) (h : ∀ i (hl : i < l.length) (hr : i < r.length), l[i] = r[i]) : sameB l r = true := by
  unfold sameB; rw [decide_eq_true_eq]; exact List.ext_getElem hn h


set_option maxHeartbeats 800000 in
theorem ssInts_c {ao bo : Option Addr} {n m c d : Nat} {l r : List Int} {w : World} (h : Rd w ao n l) (h' : Rd w bo m r) :
    Calls Try.prog 9 #[.slice ao n c, .slice bo m d] w fun e w' => e = .returned (.bool (sameB l r)) ∧ Qw w w' := by
  have hs := h.2.1
  have hn := h.1
  have hm := h'.1
  by_cases h3 : n = m
  · subst h3
    have HN := Lib.hid hn; have HM := Lib.hid hm; clear hn hm
    go_enter Try.func9, Try.ntmps9
    go_wp2
    go_loopw [5] (fun i wr => ∃ k : Nat, k ≤ n ∧ i = .int .i64 k ∧ (∀ j (_ : j < k) (hl : j < l.length) (hr : j < r.length), l[j] = r[j]) ∧ Qw w wr) (fun i _ => n - (intOf i).toNat)
    case atStart => exact ⟨0, Nat.zero_le _, rfl, fun j hj => absurd hj (by omega), Qw.refl _⟩
    case round =>
      obtain ⟨k, hk, rfl, he, hq⟩ := hrel
      have HE := Lib.hid he; clear he
      by_cases hlt : k < n
      · obtain ⟨b1, o1, rfl, hl1, hc1⟩ := (h.qw hq).at hlt
        obtain ⟨b2, o2, rfl, hl2, hc2⟩ := (h'.qw hq).at hlt
        clear h h'
        by_cases h4 : l[k] = r[k]
        · have h5 : (l[k] != r[k]) = false := by simp [h4]
          have HT := Lib.hid (show ∀ j (_ : j < k + 1) (hl : j < l.length) (hr : j < r.length), l[j] = r[j] from fun j hj hl hr => by
            rcases Nat.lt_succ_iff_lt_or_eq.1 hj with hj | rfl
            · exact HE.out j hj hl hr
            · exact h4)
          have H4 := Lib.hid h4; clear h4
          go_wp2
          go_quiet (fail)
          go_wp2
          go_roundw
          case rel => exact ⟨k + 1, by omega, by go_num, HT.out, hq.trans (Qw.drewN _ _)⟩
          case measure => simp [intOf]; omega
        · have h5 : (l[k] != r[k]) = true := by simpa using h4
          have HF := Lib.hid (sameB_at hl1 hl2 h4)
          clear h4
          go_wp2
          go_quiet (fail)
          go_wp2
          go_ret
          exact ⟨ret_b HF.out.symm, hq.trans (Qw.drewN _ _)⟩
      · go_wp2
        go_ret
        exact ⟨ret_b (sameB_all (by rw [← HN.out, ← HM.out]) (fun i hl hr => HE.out i (by have := HN.out; omega) hl hr)).symm, hq⟩
  · have hr := Lib.hid (sameB_len (l := l) (r := r) (by omega))
    have hne : ((n : Int) != (m : Int)) = true := by simp; omega
    have HN := Lib.hid hn; have HM := Lib.hid hm; clear hn hm
    go_enter Try.func9, Try.ntmps9
    go_wp2
    go_ret
    exact ⟨ret_b hr.out.symm, Qw.refl _⟩

end Go.Proofs.Ytadcckjlcmnhbaa
