/- The laws' own comparison of cells (ssCells). No condition beyond lengths. -/
import Derived.Test.YtdedcablhahbnaaDoorDm
import Derived.Test.YtdedcablhahbnaaDoorLc
import Derived.Test.YtdedcablhahbnaaDoorLw
namespace Go.Proofs.YtdedcablhahbnaaDoor
open Go.RowKit

set_option maxHeartbeats 1600000 in
theorem ssCells_same {ao bo : Option Addr} {n m c d : Nat} {l : List Stn} {w : World} (h : RdS w ao n l) (h' : RdS w bo m l) :
    Calls Tryd.prog 9 #[.slice ao n c, .slice bo m d] w fun e w' => e = .returned (.bool true) ∧ Qw w w' := by
  have hs := h.2.1
  obtain rfl : n = m := by rw [h.1, h'.1]
  go_enter Tryd.func9, Tryd.ntmps9
  go_wp2
  go_loopw [5] (fun i wr => ∃ k : Nat, k ≤ n ∧ i = .int .i64 k ∧ Qw w wr) (fun i _ => n - (intOf i).toNat)
  case atStart => exact ⟨0, Nat.zero_le _, rfl, Qw.refl _⟩
  case round =>
    obtain ⟨k, hk, rfl, hq⟩ := hrel
    by_cases hlt : k < n
    · obtain ⟨b1, o1, rfl, hl, hc0, hc1, hc2, hc3⟩ := (h.qw hq).at hlt
      obtain ⟨b2, o2, rfl, hl', hd0, hd1, hd2, hd3⟩ := (h'.qw hq).at hlt
      clear h h'
      go_wp2
      go_quiet (fail)
      go_wp2
      go_roundw
      case rel => exact ⟨k + 1, by omega, by go_num, hq.trans (Qw.drewN _ _)⟩
      case measure => simp [intOf]; omega
    · go_wp2
      go_ret
      exact ⟨rfl, hq⟩

theorem stn_ext {a b : Stn} (h1 : a.nm = b.nm) (h2 : a.ph = b.ph) (h3 : a.g = b.g) (h4 : a.l = b.l) : a = b := by
  cases a; cases b; simp at *; exact ⟨h1, h2, h3, h4⟩

set_option maxHeartbeats 1600000 in
theorem ssCells_c {ao bo : Option Addr} {n m c d : Nat} {l r : List Stn} {w : World} (h : RdS w ao n l) (h' : RdS w bo m r) (hn : n = m)
    (hsame : ∀ i (h1 : i < l.length) (h2 : i < r.length), l[i].nm = r[i].nm ∧ l[i].ph = r[i].ph ∧ l[i].l = r[i].l) :
    Calls Tryd.prog 9 #[.slice ao n c, .slice bo m d] w fun e w' => e = .returned (.bool (decide (l = r))) ∧ Qw w w' := by
  have hs := h.2.1
  subst hn
  have HN := Lib.hid h.1
  have HM := Lib.hid h'.1
  have HS := Lib.hid hsame; clear hsame
  go_enter Tryd.func9, Tryd.ntmps9
  go_wp2
  go_loopw [5] (fun i wr => ∃ k : Nat, k ≤ n ∧ i = .int .i64 k ∧ (∀ j (_ : j < k) (h1 : j < l.length) (h2 : j < r.length), l[j] = r[j]) ∧ Qw w wr) (fun i _ => n - (intOf i).toNat)
  case atStart => exact ⟨0, Nat.zero_le _, rfl, fun j hj => absurd hj (by omega), Qw.refl _⟩
  case round =>
    obtain ⟨k, hk, rfl, he, hq⟩ := hrel
    have HE := Lib.hid he; clear he
    by_cases hlt : k < n
    · obtain ⟨b1, o1, rfl, hl, hc0, hc1, hc2, hc3⟩ := (h.qw hq).at hlt
      obtain ⟨b2, o2, rfl, hl', hd0, hd1, hd2, hd3⟩ := (h'.qw hq).at hlt
      obtain ⟨s1, s2, s3⟩ := HS.out k hl hl'
      rw [← s1] at hd0
      rw [← s2] at hd1
      rw [← s3] at hd3
      have S1 := Lib.hid s1; have S2 := Lib.hid s2; have S3 := Lib.hid s3
      clear h h' s1 s2 s3
      by_cases hg : l[k].g = r[k].g
      · rw [← hg] at hd2
        have HT := Lib.hid (show ∀ j (_ : j < k + 1) (h1 : j < l.length) (h2 : j < r.length), l[j] = r[j] from fun j hj h1 h2 => by
          rcases Nat.lt_succ_iff_lt_or_eq.1 hj with hj | rfl
          · exact HE.out j hj h1 h2
          · exact stn_ext S1.out S2.out hg S3.out)
        clear hg
        go_wp2
        go_quiet (fail)
        go_wp2
        go_roundw
        case rel => exact ⟨k + 1, by omega, by go_num, HT.out, hq.trans (Qw.drewN _ _)⟩
        case measure => simp [intOf]; omega
      · have hgb : (l[k].g == r[k].g) = false := by simpa using hg
        have HF := Lib.hid (show decide (l = r) = false from decide_eq_false fun e => hg (by subst e; rfl))
        clear hg
        go_wp2
        go_quiet (fail)
        go_wp2
        go_ret
        exact ⟨ret_b HF.out.symm, hq.trans (Qw.drewN _ _)⟩
    · have HF := Lib.hid (show decide (l = r) = true from decide_eq_true (List.ext_getElem (by rw [← HN.out, HM.out]) fun j h1 h2 => HE.out j (by have := HN.out; omega) h1 h2))
      go_wp2
      go_ret
      exact ⟨ret_b HF.out.symm, hq⟩

end Go.Proofs.YtdedcablhahbnaaDoor
