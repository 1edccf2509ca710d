/- A slice of slices of integers: that came in, opened (for the laws' frames); read; made (toIntSS, szIntSS, eqIntSS). No condition beyond lengths. -/
import Derived.Test.YtnklnafcbjnmfaaInts
import Derived.Test.YtnklnafcbjnmfaaG
import Derived.Deep.Slices
import Derived.Deep.Fields
import Derived.Lib.SmallJoins
namespace Go.Proofs.Ytnklnafcbjnmfaa
open Go.RowKit Go.ChangeShapes Go.WideShapes Go.Deep Go.Joins

structure RowI where
  ao : Option Addr
  n : Nat
  c : Nat
  l : List Int
deriving Inhabited
def RowI.v (r : RowI) : Value := .slice r.ao r.n r.c
/-- What is known of a row that came in. -/
def RowOk (w : World) (r : RowI) : Prop :=
  (r.ao = none ∧ r.n = 0 ∧ r.c = 0 ∧ r.l = []) ∨ ∃ x, r.ao = some x ∧ r.n ≤ r.c ∧ r.c ≤ maxLen ∧ r.l.length = r.n ∧ ∀ i (hi : i < r.l.length), w.cell? (x.add i) = some (.int .i64 r.l[i])
def IsIntSS (w : World) (a : Option Addr) (len cap : Nat) (rs : List RowI) : Prop :=
  (a = none ∧ len = 0 ∧ cap = 0 ∧ rs = []) ∨ ∃ x, a = some x ∧ len ≤ cap ∧ cap ≤ maxLen ∧ rs.length = cap ∧ ∀ i (hi : i < rs.length), w.cell? (x.add i) = some rs[i].v ∧ RowOk w rs[i]

theorem open_intss {H : Type} {enc : TypeId × Value → H} {P : Program} {w : World} {base fuel : Nat} {held : Bool} {t e q : TypeId} {a : Option Addr} {len cap : Nat} {x : DataW H × List MemPlace}
    (ht : P.underlying t = some (.slice e)) (he : P.underlying e = some (.slice q)) (hq : P.underlying q = some (.int .i64)) (hC : P.cellsOf e = 1) (hc : P.cellsOf q = 1)
    (h : DataW.trod enc P w base (fun _ => true) held fuel t [.slice a len cap] = some x) : ∃ rs, IsIntSS w a len cap rs := by
  rcases open_slice ht h with ⟨h0, _⟩ | ⟨ad, ln, cp, m, n, D, Pl, hcs, hb, hl, hm, hmm, _, hx⟩
  · simp at h0
    obtain ⟨rfl, rfl, rfl⟩ := h0
    exact ⟨[], .inl ⟨rfl, rfl, rfl, rfl⟩⟩
  · simp at hcs
    obtain ⟨rfl, rfl, rfl⟩ := hcs
    simp at hmm
    subst hmm
    have each : ∀ i, i < m → ∃ r : RowI, w.cell? (ad.add i) = some r.v ∧ RowOk w r := by
      intro i hi
      obtain ⟨cs', h1, h2⟩ := hx i hi
      rw [hC] at h1
      obtain ⟨_, hlen, hcell⟩ := World.cells?_some h1
      have c0 := hcell 0 (by omega)
      rw [Go.Deep.add_add] at c0
      rcases open_ints he hq hc h2 with ⟨rfl, _⟩ | ⟨y, l, c, zs, rfl, _, hl2, hm2, hz, _, hcell2, hw2⟩
      · exact ⟨⟨none, 0, 0, []⟩, by simpa [RowI.v] using c0, .inl ⟨rfl, rfl, rfl, rfl⟩⟩
      · refine ⟨⟨some y, l, c, zs.take l⟩, by simpa [RowI.v] using c0, .inr ⟨y, rfl, hl2, hm2, ?_, fun j hj => ?_⟩⟩
        · rw [List.length_take]; simp at hz; simp; omega
        · have hj2 : j < zs.length := by simp at hj; omega
          have := hcell2 j hj2
          simpa [List.getD, hj2] using this
    obtain ⟨F, hF⟩ := choose_lt each
    refine ⟨(List.range m).map F, .inr ⟨ad, rfl, hl, hm, by simp, fun i hi => ?_⟩⟩
    have hi' : i < m := by simpa using hi
    have e : ((List.range m).map F)[i] = F i := by simp
    rw [e]
    exact hF i hi'

/-- A slice of slices that reads as the rows. -/
def RdM (w : World) (ao : Option Addr) (n : Nat) (rs : List RowI) : Prop := RdF RowI.v w ao n rs ∧ ∀ r ∈ rs, Rd w r.ao r.n r.l ∧ r.n ≤ r.c
theorem RdM.below {w w' : World} {ao : Option Addr} {n : Nat} {rs : List RowI} (h : RdM w ao n rs) (hb : Below w.heap.size w w') : RdM w' ao n rs :=
  ⟨h.1.below hb, fun r hr => ⟨(h.2 r hr).1.below hb, (h.2 r hr).2⟩⟩
theorem RdM.qw {w w' : World} {ao : Option Addr} {n : Nat} {rs : List RowI} (h : RdM w ao n rs) (hq : Qw w w') : RdM w' ao n rs := h.below (hq.below _)
theorem row_far {w : World} {lo n size : Nat} {t : TypeId} {v : Value} {xs : List Value} (h : w.ownsRow lo t size v n xs) {p : Addr} (hne : ∀ k, v.ownBlock = some k → k ≠ p.block) (u : Value) : (w.setCell p u).ownsRow lo t size v n xs := by
  refine ⟨h.1, ?_⟩
  rcases h.2 with h2 | ⟨g, cap, cur, hv, hg, hh, hr⟩
  · exact .inl h2
  · refine .inr ⟨g, cap, cur, hv, hg, ?_, hr⟩
    rw [Below.heap_setCell _ _ _ _ (hne g (by rw [hv]; rfl))]
    exact hh
/-- What the rows hold together, their number besides. -/
def szM (rs : List RowI) : Nat := (rs.map RowI.n).sum
theorem szM_snoc {rs : List RowI} {k : Nat} (h : k < rs.length) : szM (rs.take (k + 1)) = szM (rs.take k) + rs[k].n := by
  unfold szM; rw [List.take_succ_eq_append_getElem h, List.map_append, List.sum_append]; simp
theorem szM_le {rs : List RowI} (k : Nat) : szM (rs.take k) ≤ szM rs := by
  unfold szM
  conv => rhs; rw [← List.take_append_drop k rs, List.map_append, List.sum_append]
  omega
theorem szM_mem {rs : List RowI} {r : RowI} (h : r ∈ rs) : r.n ≤ szM rs := by
  obtain ⟨i, hi, rfl⟩ := List.getElem_of_mem h
  have h1 := szM_snoc hi
  have h2 := szM_le (rs := rs) (i + 1)
  omega
def szR (rs : List RowI) (left : Int) : Int := if left - rs.length - szM rs < 0 then -1 else left - rs.length - szM rs

set_option maxHeartbeats 400000 in
theorem szIntS_c {ao : Option Addr} {n c : Nat} (left : Int) (w : World) (h0 : 0 ≤ left) (h1 : left ≤ 1048576) (hn : n ≤ maxLen) :
    Calls Try.prog 51 #[.slice ao n c, .int .i64 left] w fun e w' => e = .returned (.int .i64 (if left - n < 0 then -1 else left - n)) ∧ w = w' := by
  have hm : (n : Int) ≤ 9223372036854775807 := by unfold maxLen at hn; omega
  by_cases h : left - n < 0
  · rw [if_pos h]
    go_enter Try.func51, Try.ntmps51
    go_wp2
    go_ret
    exact ⟨rfl, rfl⟩
  · rw [if_neg h]
    go_enter Try.func51, Try.ntmps51
    go_wp2
    go_ret
    exact ⟨rfl, rfl⟩

set_option maxHeartbeats 400000 in
theorem szIntSS_long {ao : Option Addr} {n c : Nat} (left : Int) (w : World) (h0 : 0 ≤ left) (h1 : left < n) (hn : n ≤ maxLen) :
    Calls Try.prog 16 #[.slice ao n c, .int .i64 left] w fun e w' => e = .returned (.int .i64 (-1)) ∧ w = w' := by
  have hm : (n : Int) ≤ 9223372036854775807 := by unfold maxLen at hn; omega
  go_enter Try.func16, Try.ntmps16
  go_wp2
  go_ret
  exact ⟨rfl, rfl⟩

set_option maxHeartbeats 800000 in
theorem szIntSS_c {ao : Option Addr} {n c : Nat} {rs : List RowI} (left : Int) {w : World} (h : RdF RowI.v w ao n rs) (hr : ∀ r ∈ rs, r.n ≤ maxLen) (h0 : (n : Int) ≤ left) (h1 : left ≤ 1048576) :
    Calls Try.prog 16 #[.slice ao n c, .int .i64 left] w fun e w' => e = .returned (.int .i64 (szR rs left)) ∧ w = w' := by
  have HN := Lib.hid h.1
  have HR := Lib.hid hr; clear hr
  go_enter Try.func16, Try.ntmps16
  go_wp2
  go_loop [1, 5] (fun s i => ∃ (k : Nat) (x : Int), k ≤ n ∧ i = .int .i64 k ∧ s = .int .i64 x ∧ 0 ≤ x ∧ x ≤ 1048576 ∧ x = left - n - szM (rs.take k)) (fun _ i => n - (intOf i).toNat)
  case atStart => exact ⟨0, left - n, Nat.zero_le _, rfl, rfl, by omega, by omega, by simp [szM]⟩
  case round =>
    obtain ⟨k, x, hk, rfl, rfl, hx0, hx1, hx⟩ := hrel
    have HX := Lib.hid hx; clear hx
    by_cases hlt : k < n
    · obtain ⟨bk, off, rfl, hl, hc⟩ := h.at hlt
      have hm := HR.out _ (List.getElem_mem hl)
      have HS := Lib.hid (szM_snoc hl)
      unfold RowI.v at hc
      go_wp2_with fail
      refine (szIntS_c x _ hx0 hx1 hm).mono ?_; rintro e w' ⟨rfl, rfl⟩
      by_cases hneg : x - (rs[k].n : Int) < 0
      · rw [if_pos hneg]
        have hz := Lib.hid (show szR rs left = -1 by
          unfold szR
          have h1 := HX.out; have h2 := HS.out; have h3 := szM_le (rs := rs) (k + 1); have h4 := HN.out
          rw [if_pos (by omega)])
        clear hneg
        go_wp2_with fail
        go_ret
        exact ⟨ret_i hz.out.symm, rfl⟩
      · rw [if_neg hneg]
        obtain ⟨y, hy⟩ : ∃ y, y = x - (rs[k].n : Int) := ⟨_, rfl⟩
        rw [← hy] at hneg ⊢
        have hy0 : 0 ≤ y := by omega
        have hy1 : y ≤ 1048576 := by omega
        have HY := Lib.hid hy
        clear hy hneg
        go_wp2_with fail
        go_round
        case rel => exact ⟨k + 1, y, by omega, by go_num, rfl, hy0, hy1, by have h1 := HX.out; have h2 := HS.out; have h3 := HY.out; omega⟩
        case measure => simp [intOf]; omega
    · have hz := Lib.hid (show szR rs left = x by
        have h1 := HX.out; have h4 := HN.out
        rw [List.take_of_length_le (by omega)] at h1
        unfold szR
        rw [if_neg (by omega)]; omega)
      go_wp2_with fail
      go_ret
      exact ⟨ret_i hz.out.symm, rfl⟩

def zrow : RowI := ⟨none, 0, 0, []⟩
theorem info_ints : (Try.prog.info? 22).map (fun i => (i.zero, i.size, i.bytes)) = some (some (RowI.v zrow), 1, 24) := by kernel_rfl
theorem own_fits {w : World} {lo : Nat} {ao : Option Addr} {n c : Nat} {l : List Int} (h : Own w lo ao n c l) : n ≤ c := by
  rcases h.2.2.2 with ⟨h1, h2⟩ | ⟨g, cap, cur, hv, hg, hh, hc, _⟩
  · cases h1; omega
  · cases hv; exact hc
/-- The numbers that the rows hold. -/
def nums (rs : List RowI) : List (List Int) := rs.map RowI.l
theorem set_mid {rs : List RowI} {k m : Nat} {x : RowI} (hk : rs.length = k) : (rs ++ List.replicate (m + 1) zrow).set k x = (rs ++ [x]) ++ List.replicate m zrow := by
  subst hk
  rw [List.set_append_right _ _ (Nat.le_refl _), Nat.sub_self, List.replicate_succ, List.set_cons_zero, List.append_assoc]; rfl

set_option maxRecDepth 100000 in
set_option maxHeartbeats 800000 in
theorem toIntSS_c {ao : Option Addr} {n c : Nat} {rs : List RowI} {w : World} (h : RdM w ao n rs) :
    Calls Try.prog 18 #[.slice ao n c] w fun e w' => ∃ bo rs', e = .returned (.slice bo n n) ∧ RdM w' bo n rs' ∧ nums rs' = nums rs ∧ Below w.heap.size w w' := by
  have HN := Lib.hid h.1.1
  have hs := h.1.2.1
  go_enter Try.func18, Try.ntmps18
  go_wp2_with (at_make; refine wp_makeF (f := RowI.v) 28 22 24 zrow Try.underlying28 info_ints rfl (by decide) w rfl _ _ rfl .i64 .i64 n rfl rfl (by omega) ?_; intro w1 hown hb1)
  have hrow : RowF RowI.v 22 w1 w.heap.size w.heap.size (List.replicate n zrow) := by
    refine RowF.of (n := n) (c := n) ?_
    show w1.ownsRow _ _ _ _ (List.replicate n zrow).length _
    rw [List.length_replicate]; exact hown
  clear hown
  go_loopw [4] (fun i wr => ∃ (k : Nat) (q : List RowI), k ≤ n ∧ i = .int .i64 k ∧ q.length = k ∧ nums q = nums (rs.take k) ∧ RowF RowI.v 22 wr w.heap.size w.heap.size (q ++ List.replicate (n - k) zrow) ∧ (∀ r ∈ q, Own wr (w.heap.size + 1) r.ao r.n r.c r.l) ∧ Below w.heap.size w wr) (fun i _ => n - (intOf i).toNat)
  case atStart => exact ⟨0, [], Nat.zero_le _, rfl, rfl, rfl, by simpa using hrow, fun r hr => by simp at hr, hb1⟩
  case round =>
    clear hrow hb1
    obtain ⟨k, q, hk, rfl, hq, hnm, hrow, hq2, hb⟩ := hrel
    have HQ := Lib.hid hq; clear hq
    have HNM := Lib.hid hnm; clear hnm
    obtain ⟨wo, hwo⟩ : ∃ wo : World, wo = wr := ⟨_, rfl⟩
    subst hwo
    have hz := hb.size
    by_cases hlt : k < n
    · have h2 := h.below hb
      obtain ⟨bk, off, rfl, hl, hc⟩ := h2.1.at hlt
      have hgl := hrow.lt
      obtain ⟨m, hm⟩ : ∃ m, n - k = m + 1 := ⟨n - k - 1, by omega⟩
      rw [hm] at hrow
      have hkl : k < (q ++ List.replicate (m + 1) zrow).length := by rw [List.length_append, HQ.out]; simp
      have hR := (h2.2 _ (List.getElem_mem hl)).1
      have HNX := Lib.hid (show nums (rs.take (k + 1)) = nums (rs.take k) ++ [rs[k].l] by unfold nums; rw [List.take_succ_eq_append_getElem hl, List.map_append]; rfl)
      have HM := Lib.hid hm; clear hm
      clear h2
      unfold RowI.v at hc
      go_wp2_with fail
      refine (toIntS_c hR).mono ?_; rintro e w2 ⟨a2, n2, c2, rfl, ho2, hb2⟩
      have hrow2 := hrow.below hb2
      have hc2 := hrow2.cell hkl
      have hf2 := hrow2.free hkl
      have hrow3 := hrow2.set (i := k) ⟨a2, n2, c2, rs[k].l⟩
      rw [set_mid HQ.out] at hrow3
      have hb3 := hrow2.belowSet (hb.trans (hb2.mono hz)) k (.slice a2 n2 c2)
      have HOW := Lib.hid (show ∀ r ∈ q ++ [⟨a2, n2, c2, rs[k].l⟩], Own (w2.setCell ⟨w.heap.size, k, none⟩ (.slice a2 n2 c2)) (w.heap.size + 1) r.ao r.n r.c r.l from fun r hr => by
        have far : ∀ r : RowI, Own w2 (w.heap.size + 1) r.ao r.n r.c r.l → Own (w2.setCell ⟨w.heap.size, k, none⟩ (.slice a2 n2 c2)) (w.heap.size + 1) r.ao r.n r.c r.l := fun r ho => ⟨ho.1, ho.2.1, row_far ho.2.2 (fun j hj => by
          rcases ho.2.2.2 with ⟨h1, _⟩ | ⟨g, cap, cur, hv, hg, _⟩
          · rw [h1] at hj; cases hj
          · rw [hv] at hj; cases hj; show g ≠ w.heap.size; omega) _⟩
        rcases List.mem_append.1 hr with hr | hr
        · exact far r ((hq2 r hr).below hb2)
        · rw [List.mem_singleton] at hr; subst hr
          exact far _ (ho2.mono (by omega)))
      clear hq2 ho2 hrow hrow2
      go_wp2_with fail
      go_roundw
      case rel => exact ⟨k + 1, q ++ [⟨a2, n2, c2, rs[k].l⟩], by omega, by go_num, by rw [List.length_append, HQ.out]; rfl, by rw [HNX.out, ← HNM.out]; simp [nums], by rw [show n - (k + 1) = m by have := HM.out; omega]; exact hrow3, HOW.out, hb3⟩
      case measure => simp [intOf]; omega
    · obtain rfl : k = n := by omega
      rw [Nat.sub_self, List.replicate_zero, List.append_nil] at hrow
      have hrd := hrow.rd HQ.out.symm hs
      have hnm := HNM.out
      rw [List.take_of_length_le (by have := HN.out; omega)] at hnm
      go_wp2_with fail
      go_ret
      exact ⟨_, q, rfl, ⟨hrd, fun r hr => ⟨(hq2 r hr).rd, own_fits (hq2 r hr)⟩⟩, hnm, hb⟩

set_option maxHeartbeats 800000 in
theorem eqIntSS_same {ao bo : Option Addr} {n m c d : Nat} {rs qs : List RowI} {w : World} (h : RdM w ao n rs) (h' : RdM w bo m qs) (he : nums rs = nums qs) :
    Calls Try.prog 20 #[.slice ao n c, .slice bo m d] w fun e w' => e = .returned (.bool true) ∧ Qw w w' := by
  have hlen : rs.length = qs.length := by have := congrArg List.length he; simpa [nums] using this
  obtain rfl : n = m := by rw [h.1.1, h'.1.1, hlen]
  have hs := h.1.2.1
  have HE := Lib.hid he; clear he hlen
  go_enter Try.func20, Try.ntmps20
  go_wp2
  go_loopw [5] (fun i wr => ∃ k : Nat, k ≤ n ∧ i = .int .i64 k ∧ Qw w wr) (fun i _ => n - (intOf i).toNat)
  case atStart => exact ⟨0, Nat.zero_le _, rfl, Qw.refl _⟩
  case round =>
    obtain ⟨k, hk, rfl, hq⟩ := hrel
    obtain ⟨wo, hwo⟩ : ∃ wo : World, wo = wr := ⟨_, rfl⟩
    subst hwo
    by_cases hlt : k < n
    · obtain ⟨b1, o1, rfl, hl1, hc1⟩ := (h.qw hq).1.at hlt
      obtain ⟨b2, o2, rfl, hl2, hc2⟩ := (h'.qw hq).1.at hlt
      have hR1 := ((h.qw (hq.trans (Qw.drewN _ 1))).2 _ (List.getElem_mem hl1)).1
      have hR2 := ((h'.qw (hq.trans (Qw.drewN _ 1))).2 _ (List.getElem_mem hl2)).1
      have hl : rs[k].l = qs[k].l := by
        have := congrArg (fun x => x[k]?) HE.out
        simpa [nums, hl1, hl2] using this
      rw [← hl] at hR2
      clear h h' hl
      unfold RowI.v at hc1 hc2
      go_wp2_with fail
      go_still_tail 8, (by kernel_rfl)
      go_wp2_with fail
      refine (eqIntS_same hR1 hR2).mono ?_; rintro e w2 ⟨rfl, hq2⟩
      have hq3 := (hq.trans (Qw.drewN _ 1)).trans hq2
      go_wp2_with fail
      go_roundw
      case rel => exact ⟨k + 1, by omega, by go_num, hq3⟩
      case measure => simp [intOf]; omega
    · go_wp2_with fail
      go_ret
      exact ⟨rfl, hq⟩

/-- What the frame says, turned into RdM: as many rows as the slice has; the rows bounded by what was counted. -/
theorem rdF_of {w : World} {a : Option Addr} {len cap : Nat} {zs : List RowI} (h : IsIntSS w a len cap zs) (hs : len ≤ 1099511627776) : RdF RowI.v w a len (zs.take len) ∧ (∀ r ∈ zs.take len, RowOk w r) ∧ len ≤ cap := by
  rcases h with ⟨rfl, rfl, rfl, rfl⟩ | ⟨x, rfl, h1, h2, h3, h4⟩
  · exact ⟨RdF.nil _ w, fun r hr => by simp at hr, Nat.le_refl _⟩
  · have hlen : (zs.take len).length = len := by rw [List.length_take]; omega
    refine ⟨⟨hlen.symm, hs, fun i hi => ?_⟩, fun r hr => ?_, h1⟩
    · have hi2 : i < zs.length := by omega
      have e : (zs.take len)[i] = zs[i] := by simp
      rw [e]
      obtain ⟨b, off, spot⟩ := x
      have hsp : spot = none := by simpa [Addr.add] using World.cell?_spot (h4 0 (by omega)).1
      subst hsp
      have hc := (h4 i hi2).1
      rw [Addr.add_lit] at hc
      exact ⟨b, off, rfl, hc⟩
    · obtain ⟨i, hi, rfl⟩ := List.getElem_of_mem (List.mem_of_mem_take hr)
      exact (h4 i hi).2
theorem rowOk_max {w : World} {r : RowI} (h : RowOk w r) : r.n ≤ maxLen ∧ r.n ≤ r.c := by
  rcases h with ⟨_, h1, h2, _⟩ | ⟨x, _, h1, h2, _⟩
  · rw [h1, h2]; exact ⟨Nat.zero_le _, Nat.le_refl _⟩
  · exact ⟨Nat.le_trans h1 h2, h1⟩
theorem rowOk_rd {w : World} {r : RowI} (h : RowOk w r) (hs : r.n ≤ 1099511627776) : Rd w r.ao r.n r.l := by
  rcases h with ⟨h0, h1, h2, h3⟩ | ⟨x, h0, h1, h2, h3, h4⟩
  · rw [h0, h1, h3]; exact Rd.nil w
  · refine ⟨h3.symm, hs, fun i hi => ?_⟩
    obtain ⟨b, off, spot⟩ := x
    have hsp : spot = none := by simpa [Addr.add] using World.cell?_spot (h4 0 (by omega))
    subst hsp
    have hc := h4 i (by omega)
    rw [Addr.add_lit] at hc
    exact ⟨b, off, h0, by rw [hc]; simp [List.getD, show i < r.l.length by omega]⟩
theorem szR_yes {rs : List RowI} {left : Int} (h : (rs.length : Int) + szM rs ≤ left) : szR rs left = left - rs.length - szM rs := by unfold szR; rw [if_neg (by omega)]
theorem szR_no {rs : List RowI} {left : Int} (h : left < (rs.length : Int) + szM rs) : szR rs left = -1 := by unfold szR; rw [if_pos (by omega)]

end Go.Proofs.Ytnklnafcbjnmfaa
