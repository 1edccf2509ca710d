/- CellSignal of the program and of the reference. No condition beyond lengths. -/
import Derived.Test.YtadcckjlcmnhbaaNe
import Derived.Test.YtadcckjlcmnhbaaAs
namespace Go.Proofs.Ytadcckjlcmnhbaa
open Go.RowKit

/-- The user that a station with some data is, and the users of a cell. -/
def usrOf (s : Stn) (d : ByteArray) : Stn := ⟨treeT s.ph, d, s.g / s.l, 0⟩
def usersOf (l : List Stn) (ds : List ByteArray) : List Stn := List.zipWith usrOf l ds
theorem usersOf_len {l : List Stn} {ds : List ByteArray} (h : ds.length = l.length) : (usersOf l ds).length = l.length := by simp [usersOf, h]
theorem usersOf_get {l : List Stn} {ds : List ByteArray} {k : Nat} (h1 : k < l.length) (h2 : k < ds.length) : (usersOf l ds)[k]'(by simp [usersOf]; omega) = usrOf l[k] ds[k] := by simp [usersOf]
theorem usersOf_take {l : List Stn} {ds : List ByteArray} {k : Nat} (h1 : k < l.length) (h2 : k < ds.length) : (usersOf l ds).take (k + 1) = (usersOf l ds).take k ++ [usrOf l[k] ds[k]] := by
  rw [List.take_succ_eq_append_getElem (by simp [usersOf]; omega), usersOf_get h1 h2]
def csgR (l : List Stn) (ds : List ByteArray) : Option (List Int) := if (cellB l && decide (ds.length = l.length)) = true then sndR (usersOf l ds) else none
theorem csgR_1 {l : List Stn} {ds : List ByteArray} (h : cellB l = false) : csgR l ds = none := by simp [csgR, h]
theorem csgR_2 {l : List Stn} {ds : List ByteArray} (h : ¬ ds.length = l.length) : csgR l ds = none := by simp [csgR, h]
theorem csgR_yes {l : List Stn} {ds : List ByteArray} (h1 : cellB l = true) (h2 : ds.length = l.length) : csgR l ds = sndR (usersOf l ds) := by simp [csgR, h1, h2]
theorem treeT_seq {p : ByteArray} (h : pathB p = true) : seqB (treeT p) = true := by
  have h6 := treeT_size (pathB_size h)
  have h1 : 1 ≤ (treeT p).size := by unfold treeT; rw [text_size, treeL_len]; exact Nat.one_le_two_pow
  have hb : bitsB (treeT p) = true := by
    unfold bitsB
    rw [decide_eq_true (by omega), Bool.true_and]
    unfold allS treeT text
    rw [List.all_eq_true]
    intro c hc
    simp only [List.mem_map] at hc
    obtain ⟨x, hx, rfl⟩ := hc
    rcases treeL_bit p p.size x hx with rfl | rfl <;> rfl
  unfold seqB
  rw [hb, inB_true (by omega) (by omega)]
  rfl
theorem gain_bd {g l : Int} (h : (0 ≤ g ∧ g ≤ 1000) ∧ (1 ≤ l ∧ l ≤ 20)) : 0 ≤ g / l ∧ g / l ≤ 1000 := by
  refine ⟨Int.ediv_nonneg h.1.1 (by omega), ?_⟩
  exact Int.le_trans (Int.ediv_le_self l h.1.1) h.1.2
theorem usersOf_in {l : List Stn} {ds : List ByteArray} (h : cellB l = true) : UIn (usersOf l ds) := by
  intro i hi
  have h1 : i < l.length := by simp [usersOf] at hi; omega
  have h2 : i < ds.length := by simp [usersOf] at hi; omega
  rw [usersOf_get h1 h2]
  have hst := cellB_st h h1
  exact ⟨treeT_seq (stB_path hst), gain_bd (stB_ranges hst), rfl⟩

theorem info_usr : (Try.prog.info? 60).map (fun i => (i.zero, i.size, i.bytes)) = some (some (.agg #[.string ByteArray.empty, .string ByteArray.empty, .int .i64 0, .int .i64 0]), 4, 48) := by kernel_rfl
def OwnVU (w : World) (lo : Nat) (v : Value) (l : List Stn) : Prop := w.ownsRow lo 60 4 v l.length (cellsS l)
theorem OwnVU.made0 (w : World) {lo : Nat} (hb : lo ≤ w.heap.size) : OwnVU (w.alloc (.cells #[] 60)) lo (.slice (some ⟨w.heap.size, 0, none⟩) 0 0) [] :=
  World.ownsRow_lit (size := 4) w #[] 0 hb (Nat.zero_le _) rfl
theorem OwnVU.grown {w w' : World} {lo : Nat} {v : Value} {l : List Stn} (h : OwnVU w lo v l) (hg : w.grownBy w' v.ownBlock) (hlo : lo ≤ w.heap.size) : Below lo w w' :=
  (Below.refl _ _).grown hg hlo fun k hk => (h.lt k hk).1
theorem OwnVU.below {w w' : World} {lo : Nat} {v : Value} {l : List Stn} (h : OwnVU w lo v l) (hb : Below w.heap.size w w') : OwnVU w' lo v l := ownsRow_below h hb fun k hk => (h.lt k hk).2
theorem rowRd {w : World} {lo n c : Nat} {t : TypeId} {ao : Option Addr} {l : List Stn} (h : w.ownsRow lo t 4 (.slice ao n c) n (cellsS l)) (hn : n = l.length) (hs : n ≤ 1099511627776) : RdS w ao n l := by
  refine ⟨hn, hs, fun i hi => ?_⟩
  rcases h.2 with ⟨h1, h2⟩ | ⟨g, cap, cur, hv, hr⟩
  · omega
  · cases hv
    obtain ⟨c0, c1, c2, c3⟩ := cellsS_at hi
    refine ⟨g, 0, rfl, ?_, ?_, ?_, ?_⟩
    · rw [Nat.zero_add, h.cellAt _ (by omega)]; exact c0
    · rw [Nat.zero_add, h.cellAt _ (by omega)]; exact c1
    · rw [Nat.zero_add, h.cellAt _ (by omega)]; exact c2
    · rw [Nat.zero_add, h.cellAt _ (by omega)]; exact c3
theorem OwnVU.own {w : World} {lo : Nat} {v : Value} {l : List Stn} (h : OwnVU w lo v l) (hs : l.length ≤ 1099511627776) : ∃ ao n c, v = .slice ao n c ∧ RdS w ao n l := by
  rcases h.2 with ⟨hv, hl⟩ | ⟨g, cap, cur, hv, hr⟩
  · refine ⟨none, 0, 0, hv, ?_⟩
    have h0 : l = [] := List.eq_nil_of_length_eq_zero hl
    subst h0
    exact RdS.nil w
  · subst hv
    exact ⟨_, _, _, rfl, rowRd h rfl hs⟩
theorem rowT_cells {w : World} {lo g n c : Nat} {t : TypeId} {M : List Stn} (h : w.ownsRow lo t 4 (.slice (some ⟨g, 0, none⟩) n c) n (cellsS M)) {k : Nat} (hk : k < n) :
    (∃ a b x y, w.cell? ⟨g, k * 4, none⟩ = some (.string a) ∧ w.cell? ⟨g, k * 4 + 1, none⟩ = some (.string b) ∧ w.cell? ⟨g, k * 4 + 2, none⟩ = some (.int .i64 x) ∧ w.cell? ⟨g, k * 4 + 3, none⟩ = some (.int .i64 y)) ∧
    w.frozen? ⟨g, k * 4, none⟩ = false ∧ w.frozen? ⟨g, k * 4 + 1, none⟩ = false ∧ w.frozen? ⟨g, k * 4 + 2, none⟩ = false ∧ w.frozen? ⟨g, k * 4 + 3, none⟩ = false := by
  have hl : k < M.length := by have := h.1; rw [cellsS_len] at this; omega
  obtain ⟨d0, d1, d2, d3⟩ := cellsS_at hl
  refine ⟨⟨M[k].nm, M[k].ph, M[k].g, M[k].l, ?_, ?_, ?_, ?_⟩, h.frozenAt _, h.frozenAt _, h.frozenAt _, h.frozenAt _⟩
  · rw [h.cellAt _ (by omega)]; exact d0
  · rw [h.cellAt _ (by omega)]; exact d1
  · rw [h.cellAt _ (by omega)]; exact d2
  · rw [h.cellAt _ (by omega)]; exact d3
theorem rowT_put {w : World} {lo g n c : Nat} {t : TypeId} {M : List Stn} (h : w.ownsRow lo t 4 (.slice (some ⟨g, 0, none⟩) n c) n (cellsS M)) {k : Nat} (hk : k < n) (s : Stn) :
    ((((w.setCell ⟨g, k * 4, none⟩ (.string s.nm)).setCell ⟨g, k * 4 + 1, none⟩ (.string s.ph)).setCell ⟨g, k * 4 + 2, none⟩ (.int .i64 s.g)).setCell ⟨g, k * 4 + 3, none⟩ (.int .i64 s.l)).ownsRow lo t 4 (.slice (some ⟨g, 0, none⟩) n c) n (cellsS (M.set k s)) := by
  have hl : k < M.length := by have := h.1; rw [cellsS_len] at this; omega
  rw [← cellsS_set s hl]
  exact ((((h.stored (k * 4) (.string s.nm)).1.stored (k * 4 + 1) (.string s.ph)).1.stored (k * 4 + 2) (.int .i64 s.g)).1.stored (k * 4 + 3) (.int .i64 s.l)).1
theorem cell_far4 {w : World} {b b0 o o0 o1 o2 o3 : Nat} {v : Value} (hne : b ≠ b0) (h : w.cell? ⟨b, o, none⟩ = some v) (x0 x1 x2 x3 : Value) :
    ((((w.setCell ⟨b0, o0, none⟩ x0).setCell ⟨b0, o1, none⟩ x1).setCell ⟨b0, o2, none⟩ x2).setCell ⟨b0, o3, none⟩ x3).cell? ⟨b, o, none⟩ = some v := by
  have e : ∀ (w : World) (i : Nat) (x : Value), (w.setCell ⟨b0, i, none⟩ x).cell? ⟨b, o, none⟩ = w.cell? ⟨b, o, none⟩ := fun w i x => by
    apply World.cell?_of_block
    exact Below.heap_setCell _ _ _ _ hne
  rw [e, e, e, e]; exact h
theorem five_far4 {w : World} {b b' b0 o o0 o1 o2 o3 p0 p1 p2 p3 : Nat} {v v0 v1 v2 v3 : Value} (hne : b ≠ b0) (hne' : b' ≠ b0)
    (h : w.cell? ⟨b, o, none⟩ = some v ∧ w.cell? ⟨b', p0, none⟩ = some v0 ∧ w.cell? ⟨b', p1, none⟩ = some v1 ∧ w.cell? ⟨b', p2, none⟩ = some v2 ∧ w.cell? ⟨b', p3, none⟩ = some v3) (x0 x1 x2 x3 : Value) :
    ((((w.setCell ⟨b0, o0, none⟩ x0).setCell ⟨b0, o1, none⟩ x1).setCell ⟨b0, o2, none⟩ x2).setCell ⟨b0, o3, none⟩ x3).cell? ⟨b, o, none⟩ = some v ∧
    ((((w.setCell ⟨b0, o0, none⟩ x0).setCell ⟨b0, o1, none⟩ x1).setCell ⟨b0, o2, none⟩ x2).setCell ⟨b0, o3, none⟩ x3).cell? ⟨b', p0, none⟩ = some v0 ∧
    ((((w.setCell ⟨b0, o0, none⟩ x0).setCell ⟨b0, o1, none⟩ x1).setCell ⟨b0, o2, none⟩ x2).setCell ⟨b0, o3, none⟩ x3).cell? ⟨b', p1, none⟩ = some v1 ∧
    ((((w.setCell ⟨b0, o0, none⟩ x0).setCell ⟨b0, o1, none⟩ x1).setCell ⟨b0, o2, none⟩ x2).setCell ⟨b0, o3, none⟩ x3).cell? ⟨b', p2, none⟩ = some v2 ∧
    ((((w.setCell ⟨b0, o0, none⟩ x0).setCell ⟨b0, o1, none⟩ x1).setCell ⟨b0, o2, none⟩ x2).setCell ⟨b0, o3, none⟩ x3).cell? ⟨b', p3, none⟩ = some v3 := by
  obtain ⟨h0, h1, h2, h3, h4⟩ := h
  exact ⟨cell_far4 hne h0 _ _ _ _, cell_far4 hne' h1 _ _ _ _, cell_far4 hne' h2 _ _ _ _, cell_far4 hne' h3 _ _ _ _, cell_far4 hne' h4 _ _ _ _⟩

/-- 'make([]User, n)'. -/
theorem wp_makeU {ops : Array Oper} {rest : List Oper} {o : Oper} {a : Act} {Q : Exit → Act → World → Prop} (w : World) (hgd : o.guard = none) (s x : Operand)
    (hop : o.op = Op.makeSlice 58 s x) (kl kc : IntKind) (n : Nat) (hs : a.eval s = .int kl n) (hx : a.eval x = .int kc n) (hn : n ≤ 1099511627776)
    (h : ∀ w', w'.ownsRow w.heap.size 60 4 (.slice (some ⟨w.heap.size, 0, none⟩) n n) n (cellsS (List.replicate n zstn)) → Below w.heap.size w w' →
      wpList Try.prog ops Q rest (a.put o.dst (.slice (some ⟨w.heap.size, 0, none⟩) n n)) w') :
    wpList Try.prog ops Q (o :: rest) a w := by
  obtain ⟨i0, hi, hz0, hz1, hz2⟩ := info_parts info_usr
  refine wpList_make_full w hgd s x 58 hop w.heap.size 60 i0 _ 4 Try.underlying58 hi hz0 hz1 kl kc n n n hs hx rfl rfl (by rw [hz2]; omega) (by unfold maxLen; omega) (Nat.le_refl _) ?_
  intro w1 h1 h2
  exact h w1 ((made_stn n) ▸ h1) ((Below.refl _ _).grown h2 (Nat.le_refl _) (by intro k hk; cases hk))

theorem step_appU1 {ops : Array Oper} {o : Oper} {a : Act} {K : Act → World → Prop} {Q : Exit → Act → World → Prop} {E : Prop} (wr : World) (hgd : o.guard = none) (s x : Operand)
    (ho : o.op = .call { callee := .builtin .append, args := #[s, x], argTypes := #[58, 58] })
    (lo : Nat) (v : Value) (l : List Stn) (u : Stn) (ad : Addr) (hs : a.eval s = v) (hown : OwnVU wr lo v l) (hx : a.eval x = .slice (some ad) 1 1) (hr : RdS wr (some ad) 1 [u])
    (hlen : l.length ≤ 1099511627000) (hlo : lo ≤ wr.heap.size)
    (h : ∀ v' w', OwnVU w' lo v' (l ++ [u]) → wr.grownBy w' v.ownBlock → Below lo wr w' → K (a.put o.dst v') w') :
    if Region.wanted o (yielded ops a.tmps) = true then Oper.wp Try.prog o a wr K Q else E := by
  have hw : Region.wanted o (yielded ops a.tmps) = true := by simp [Region.wanted, hgd]
  rw [if_pos hw]
  obtain ⟨i0, hi, hz0, hz1, hz2⟩ := info_parts info_usr
  refine wp_append_own wr s x 58 ho lo 60 i0 _ 4 48 Try.underlying58 hi hz0 hz1 hz2 rfl (by decide) v l.length (cellsS l) hs hown
    ad 1 1 (cellsS [u]) hx (by rw [cellsS_len]; rfl) hr.news (cellsS_one [u]) (by unfold maxLen; omega) (by omega) hlo ?_
  intro v' w1 h1 h2 _
  refine h v' w1 ?_ h2 (hown.grown h2 hlo)
  unfold OwnVU
  rw [List.length_append, cellsS_append]
  exact h1

set_option maxRecDepth 100000 in
set_option maxHeartbeats 3200000 in
theorem CellSignal_c {ao bo : Option Addr} {n c m d : Nat} {l : List Stn} {ds : List ByteArray} {w : World} (h : RdS w ao n l) (hcap : n ≤ c) (h' : RdT w bo m ds) :
    Calls Try.prog 7 #[.slice ao n c, .slice bo m d] w (RetIntsB w (csgR l ds)) := by
  have hs := h.2.1
  have HN := Lib.hid h.1
  have HM := Lib.hid h'.1
  by_cases h1 : cellB l = true
  · by_cases h2 : m = n
    · subst h2
      have h8 := cellB_8 h1
      have hn8 : m ≤ 8 := by rw [HN.out]; exact h8
      have HC := Lib.hid h1
      have hr := Lib.hid (csgR_yes h1 (ds := ds) (by rw [← HM.out, ← HN.out]))
      have HU := Lib.hid (usersOf_in (ds := ds) h1)
      have HUL := Lib.hid (show (usersOf l ds).length = m by rw [usersOf_len (by rw [← HM.out, ← HN.out]), ← HN.out])
      clear h8
      go_enter Try.func7, Try.ntmps7
      go_wp2_with fail
      refine (CellValid_c h hcap).mono ?_; rintro e w1 ⟨rfl, hb1⟩
      rw [h1]
      have hA := h.below hb1
      have hD := h'.below hb1
      clear h1 h h'
      have hz1 := hb1.size
      go_wp2_with (at_make; refine wp_makeU _ rfl _ _ rfl .i64 .i64 m rfl rfl (by omega) ?_; intro w2 hown0 hb2)
      have hown := ownsRow_mono hown0 hz1
      have hAlt : ∀ b, ao = some b → 0 < m → b.block < w1.heap.size := hA.lt
      have hDlt : ∀ b, bo = some b → 0 < m → b.block < w1.heap.size := hD.lt
      obtain ⟨g, hg⟩ : ∃ g, g = w1.heap.size := ⟨_, rfl⟩
      rw [← hg] at hown hAlt hDlt hz1 hb2
      rw [← hg]
      have HG := Lib.hid hg
      clear hown0 hg
      go_wp2_with fail
      go_loopw [26] (fun i wr => ∃ k : Nat, k ≤ m ∧ i = .int .i64 k ∧ wr.ownsRow w.heap.size 60 4 (.slice (some ⟨g, 0, none⟩) m m) m (cellsS ((usersOf l ds).take k ++ (List.replicate m zstn).drop k)) ∧ Below g w1 wr) (fun i _ => m - (intOf i).toNat)
      case atStart => exact ⟨0, Nat.zero_le _, rfl, by simpa using hown, hb2⟩
      case round =>
        clear hown hb2
        obtain ⟨k, hk, rfl, hown, hb⟩ := hrel
        obtain ⟨wo, hwo⟩ : ∃ wo : World, wo = wr := ⟨_, rfl⟩
        subst hwo
        have hgz := (hown.lt g rfl).2
        have hz : g ≤ wo.heap.size := Nat.le_of_lt hgz
        have hbG : Below w1.heap.size w1 wo := by rw [← HG.out]; exact hb
        have hA := hA.below hbG
        have hD := hD.below hbG
        clear hgz
        by_cases hlt : k < m
        · obtain ⟨bk, off, rfl, hl, hc0, hc1, hc2, hc3⟩ := hA.at hlt
          obtain ⟨bd, od, rfl, hld, hdc⟩ := hD.at hlt
          have hst := cellB_st HC.out hl
          have HP := Lib.hid (stB_path hst)
          have HQ := Lib.hid (show strOf l[k].nm l[k].ph l[k].g l[k].l = l[k].g / l[k].l from strOf_yes hst)
          have hbdg : bd ≠ g := by have := hDlt _ rfl (by omega); simp at this; omega
          clear hst
          have hul : k < (usersOf l ds).length := by rw [HUL.out]; exact hlt
          have HNX := Lib.hid (take_set_next hul (show (List.replicate m zstn).length = (usersOf l ds).length by rw [List.length_replicate, HUL.out]))
          have HGT := Lib.hid (usersOf_get hl hld)
          have hgl0 := (hown.lt g rfl).1
          have hgl := (hown.lt g rfl).2
          have hBx := Box.new wo #[.string l[k].nm, .string l[k].ph, .int .i64 l[k].g, .int .i64 l[k].l] 34
          have hB0 : Below wo.heap.size wo (wo.alloc (.cells #[.string l[k].nm, .string l[k].ph, .int .i64 l[k].g, .int .i64 l[k].l] 34)) := (Below.refl _ _).alloc (Nat.le_refl _) _
          have hlt0 := hBx.lt
          have d1 := hBx.cell (i := 1) rfl
          go_wp2_with fail
          refine (TreeCode_c _ _ HP.out).mono ?_; rintro e w3 ⟨rfl, hb3⟩
          rw [show text (treeL l[k].ph l[k].ph.size) = treeT l[k].ph from rfl]
          have hBy := hBx.below hb3 hlt0
          have hB3 := hB0.trans (hb3.mono hB0.size)
          have hown3 := ownsRow_below hown hB3 fun j hj => (hown.lt j hj).2
          have hA3 := hA.below hB3
          have hD3 := hD.below hB3
          have hdc3 := (hB3.cell (lt_of_cell hdc)).trans hdc
          have hbw3 := hb.trans (hB3.mono hz)
          have hz3 : g ≤ w3.heap.size := by have := hB3.size; omega
          have hBlt := hBy.lt
          have hBg : wo.heap.size ≠ g := by omega
          generalize wo.heap.size = B at *
          clear hc0 hc1 hc2 hc3 hdc d1 hBx hB0 hb3 hlt0 hown hA hD hb hB3 hbG hgl hz hA3 hD3
          have c4 := box4 hBy
          have C0 : w3.drew.cell? ⟨bd, od + k, none⟩ = some (.string ds[k]) ∧ w3.drew.cell? ⟨B, 0, none⟩ = some (.string l[k].nm) ∧ w3.drew.cell? ⟨B, 1, none⟩ = some (.string l[k].ph) ∧ w3.drew.cell? ⟨B, 2, none⟩ = some (.int .i64 l[k].g) ∧ w3.drew.cell? ⟨B, 3, none⟩ = some (.int .i64 l[k].l) := ⟨hdc3, c4⟩
          clear c4
          go_wp2_with fail
          go_region_held3 (fun w' => w'.cell? ⟨bd, od + k, none⟩ = some (.string ds[k]) ∧ w'.cell? ⟨B, 0, none⟩ = some (.string l[k].nm) ∧ w'.cell? ⟨B, 1, none⟩ = some (.string l[k].ph) ∧ w'.cell? ⟨B, 2, none⟩ = some (.int .i64 l[k].g) ∧ w'.cell? ⟨B, 3, none⟩ = some (.int .i64 l[k].l)) (first | with_reducible exact C0 | with_reducible exact C1 | exact five_far4 hbdg hBg C1 _ _ _ _) (first | (go_at_call 13; refine (StrengthOf_c _ _ _ _ _).mono ?_; rintro e w4 ⟨rfl, hb4⟩; rw [HQ.out]; have hb5 : Below w3.heap.size w3 w4 := (Below.drew (Below.refl w3.heap.size w3)).trans hb4; have hown4 := ownsRow_below hown3 hb5 (fun j hj => (hown3.lt j hj).2); have C1 := And.intro ((hb5.cell (lt_of_cell hdc3)).trans hdc3) (box4 (hBy.below hb5 hBlt)); obtain ⟨⟨x0, x1, x2, x3, f0, f1, f2, f3⟩, g0, g1, g2, g3⟩ := rowT_cells hown4 hlt))
          all_goals
            have hp := rowT_put hown4 hlt (usrOf l[k] ds[k])
            rw [← HGT.out, HNX.out, HGT.out] at hp
            have hbw4 := hbw3.trans (hb5.mono hz3)
            have hbw5 := (((hbw4.setCell (p := ⟨g, k * 4, none⟩) (Nat.le_refl _) (.string (treeT l[k].ph))).setCell (p := ⟨g, k * 4 + 1, none⟩) (Nat.le_refl _) (.string ds[k])).setCell (p := ⟨g, k * 4 + 2, none⟩) (Nat.le_refl _) (.int .i64 (l[k].g / l[k].l))).setCell (p := ⟨g, k * 4 + 3, none⟩) (Nat.le_refl _) (.int .i64 0)
            go_wp2_with fail
            go_roundw
            case rel => exact ⟨k + 1, by omega, by go_num, hp, hbw5⟩
            case measure => simp [intOf]; omega
        · obtain rfl : k = m := by omega
          rw [List.take_of_length_le (by rw [HUL.out]; exact Nat.le_refl _), List.drop_of_length_le (by simp), List.append_nil] at hown
          have hR := rowRd hown HUL.out.symm (by omega)
          have hbw := hb1.trans (hbG.mono hb1.size)
          have hzw := hbw.size
          clear hA hD hlt
          go_wp2_with fail
          refine (SendAll_c hR HU.out).mono ?_; rintro e w5 ⟨a5, n5, c5, rfl, ho5, hb5⟩
          go_wp2_with fail
          go_ret2
          exact ⟨_, _, _, by rw [hr.out]; rfl, by rw [hr.out]; exact ho5.mono hzw, hbw.trans (hb5.mono hzw)⟩
    · have hr := Lib.hid (csgR_2 (l := l) (ds := ds) (by rw [← HM.out, ← HN.out]; exact h2))
      have h2' : ((m : Int) == (n : Int)) = false := by rw [beq_eq_false_iff_ne]; omega
      go_enter Try.func7, Try.ntmps7
      go_wp2_with fail
      refine (CellValid_c h hcap).mono ?_; rintro e w1 ⟨rfl, hb1⟩
      rw [h1]
      clear h1
      go_wp2_with fail
      go_ret2
      exact retIntsB_nil hr.out hb1
  · have h1' : cellB l = false := by simpa using h1
    have hr := Lib.hid (csgR_1 (ds := ds) h1')
    go_enter Try.func7, Try.ntmps7
    go_wp2_with fail
    refine (CellValid_c h hcap).mono ?_; rintro e w1 ⟨rfl, hb1⟩
    rw [h1']
    clear h1 h1'
    go_wp2_with fail
    go_ret2
    exact retIntsB_nil hr.out hb1

theorem four_below {w w' : World} {b b' o0 o1 o2 o' : Nat} {v0 v1 v2 v : Value} (hb : Below w.heap.size w w')
    (h : w.cell? ⟨b, o0, none⟩ = some v0 ∧ w.cell? ⟨b, o1, none⟩ = some v1 ∧ w.cell? ⟨b, o2, none⟩ = some v2 ∧ w.cell? ⟨b', o', none⟩ = some v) :
    w'.cell? ⟨b, o0, none⟩ = some v0 ∧ w'.cell? ⟨b, o1, none⟩ = some v1 ∧ w'.cell? ⟨b, o2, none⟩ = some v2 ∧ w'.cell? ⟨b', o', none⟩ = some v := by
  obtain ⟨h0, h1, h2, h3⟩ := h
  exact ⟨(hb.cell (lt_of_cell h0)).trans h0, (hb.cell (lt_of_cell h1)).trans h1, (hb.cell (lt_of_cell h2)).trans h2, (hb.cell (lt_of_cell h3)).trans h3⟩
theorem four_low {B : Nat} {w w' : World} {b b' o0 o1 o2 o' : Nat} {v0 v1 v2 v : Value} (hb : Below B w w') (h1 : b < B) (h2 : b' < B)
    (h : w.cell? ⟨b, o0, none⟩ = some v0 ∧ w.cell? ⟨b, o1, none⟩ = some v1 ∧ w.cell? ⟨b, o2, none⟩ = some v2 ∧ w.cell? ⟨b', o', none⟩ = some v) :
    w'.cell? ⟨b, o0, none⟩ = some v0 ∧ w'.cell? ⟨b, o1, none⟩ = some v1 ∧ w'.cell? ⟨b, o2, none⟩ = some v2 ∧ w'.cell? ⟨b', o', none⟩ = some v := by
  obtain ⟨c0, c1, c2, c3⟩ := h
  exact ⟨(hb.cell h1).trans c0, (hb.cell h1).trans c1, (hb.cell h1).trans c2, (hb.cell h2).trans c3⟩

set_option maxRecDepth 100000 in
set_option maxHeartbeats 3200000 in
theorem sCellSignal_c {ao bo : Option Addr} {n c m d : Nat} {l : List Stn} {ds : List ByteArray} {w : World} (h : RdS w ao n l) (h' : RdT w bo m ds) (hm2 : ∀ i (h : i < l.length), (l[i]'h).nm.size ≤ 1099511627776 ∧ (l[i]'h).ph.size ≤ 1099511627776) (hds : ∀ i (h : i < ds.length), (ds[i]'h).size ≤ 1099511627776) :
    Calls Try.prog 8 #[.slice ao n c, .slice bo m d] w (RetIntsB w (csgR l ds)) := by
  have hs := h.2.1
  have HN := Lib.hid h.1
  have HM := Lib.hid h'.1
  have HM2 := Lib.hid hm2; clear hm2
  by_cases h1 : cellB l = true
  · by_cases h2 : m = n
    · subst h2
      have h8 := cellB_8 h1
      have hn8 : m ≤ 8 := by rw [HN.out]; exact h8
      have HC := Lib.hid h1
      have hr := Lib.hid (csgR_yes h1 (ds := ds) (by rw [← HM.out, ← HN.out]))
      have HU := Lib.hid (usersOf_in (ds := ds) h1)
      have HUL := Lib.hid (show (usersOf l ds).length = m by rw [usersOf_len (by rw [← HM.out, ← HN.out]), ← HN.out])
      have HUZ := Lib.hid (show ∀ i (h : i < (usersOf l ds).length), ((usersOf l ds)[i]'h).ph.size ≤ 1099511627776 by
        intro i hi
        have h1 : i < l.length := by simp [usersOf] at hi; omega
        have h2 : i < ds.length := by simp [usersOf] at hi; omega
        rw [usersOf_get h1 h2]
        exact hds i h2)
      clear h8 hds
      go_enter Try.func8, Try.ntmps8
      go_wp2_with fail
      refine (sCellValid_c h HM2.out).mono ?_; rintro e w1 ⟨rfl, hb1⟩
      rw [h1]
      have hA := h.below hb1
      have hD := h'.below hb1
      clear h1 h h'
      have hz1 := hb1.size
      have hAlt : ∀ b, ao = some b → 0 < m → b.block < w1.heap.size := hA.lt
      have hDlt : ∀ b, bo = some b → 0 < m → b.block < w1.heap.size := hD.lt
      have ho0 : OwnVU (w1.alloc (.cells #[] 60)) w1.heap.size (.slice (some ⟨w1.heap.size, 0, none⟩) 0 0) [] := OwnVU.made0 w1 (Nat.le_refl _)
      have hb0 : Below w1.heap.size w1 (w1.alloc (.cells #[] 60)) := (Below.refl _ _).alloc (Nat.le_refl _) _
      go_wp2_with fail
      go_loopw [6, 7] (fun v i wr => ∃ k : Nat, k ≤ m ∧ i = .int .i64 k ∧ OwnVU wr w1.heap.size v ((usersOf l ds).take k) ∧ Below w1.heap.size w1 wr) (fun _ i _ => m - (intOf i).toNat)
      case atStart => exact ⟨0, Nat.zero_le _, rfl, ho0, hb0⟩
      case round =>
        clear ho0 hb0
        obtain ⟨k, hk, rfl, hov, hb⟩ := hrel
        obtain ⟨wo, hwo⟩ : ∃ wo : World, wo = wr := ⟨_, rfl⟩
        subst hwo
        have hz := hb.size
        have hA := hA.below hb
        have hD := hD.below hb
        by_cases hlt : k < m
        · obtain ⟨bk, off, rfl, hl, hc0, hc1, hc2, hc3⟩ := hA.at hlt
          obtain ⟨bd, od, rfl, hld, hdc⟩ := hD.at hlt
          have hst := cellB_st HC.out hl
          have h6 := pathB_size (stB_path hst)
          obtain ⟨hg, hll⟩ := stB_ranges hst
          obtain ⟨q, hq⟩ : ∃ q, q = l[k].g / l[k].l := ⟨_, rfl⟩
          have hqb : 0 ≤ q ∧ q ≤ 1000 := by rw [hq]; exact gain_bd ⟨hg, hll⟩
          have a1 : (l[k].g).tdiv l[k].l = q := by rw [hq]; exact Int.tdiv_eq_ediv_of_nonneg hg.1
          have a2 : l[k].g / l[k].l = q := hq.symm
          have a3 : IntKind.i64.wrap q = q := IntWalk.i64_in _ (by omega)
          have a4 : ¬ l[k].l = 0 := by omega
          have hbk : bk < w1.heap.size := by have := hAlt _ rfl (by omega); simpa using this
          have hbd : bd < w1.heap.size := by have := hDlt _ rfl (by omega); simpa using this
          have HT := Lib.hid (show (usersOf l ds).take (k + 1) = (usersOf l ds).take k ++ [⟨treeT l[k].ph, ds[k], q, 0⟩] by rw [usersOf_take hl hld, hq]; rfl)
          have hul : ((usersOf l ds).take k).length ≤ 8 := by rw [List.length_take, HUL.out]; omega
          have HUK := Lib.hid hul
          have C0 : wo.drew.cell? ⟨bk, off + k * 4 + 1, none⟩ = some (.string l[k].ph) ∧ wo.drew.cell? ⟨bk, off + k * 4 + 2, none⟩ = some (.int .i64 l[k].g) ∧ wo.drew.cell? ⟨bk, off + k * 4 + 3, none⟩ = some (.int .i64 l[k].l) ∧ wo.drew.cell? ⟨bd, od + k, none⟩ = some (.string ds[k]) := ⟨hc1, hc2, hc3, hdc⟩
          clear hst hq hg hll hqb hul hA hD hc0
          go_wp2_with fail
          go_region_held3 (fun w' => w'.cell? ⟨bk, off + k * 4 + 1, none⟩ = some (.string l[k].ph) ∧ w'.cell? ⟨bk, off + k * 4 + 2, none⟩ = some (.int .i64 l[k].g) ∧ w'.cell? ⟨bk, off + k * 4 + 3, none⟩ = some (.int .i64 l[k].l) ∧ w'.cell? ⟨bd, od + k, none⟩ = some (.string ds[k])) (first | with_reducible exact C0 | with_reducible exact C1 | with_reducible exact C2 | with_reducible exact C3) (first | (go_at_call 31; refine (l3Tree_c l[k].ph _ h6).mono ?_; rintro e w3 ⟨rfl, hb3⟩; rw [show text (treeL l[k].ph l[k].ph.size) = treeT l[k].ph from rfl]; have hb4 : Below wo.heap.size wo w3 := (Below.drew (Below.refl wo.heap.size wo)).trans hb3; have hov3 := hov.below hb4; have C1 := four_below hb4 ⟨hc1, hc2, hc3, hdc⟩; have hb5 : Below w3.heap.size w3 (w3.alloc (.cells #[.string (treeT l[k].ph), .string ds[k], .int .i64 q, .int .i64 0] 60)) := (Below.refl _ _).alloc (Nat.le_refl _) _; have C2 := four_below hb5 C1; have hov5 := hov3.below hb5; have hz3 := hb4.size) | (refine step_appU1 (w3.alloc (.cells #[.string (treeT l[k].ph), .string ds[k], .int .i64 q, .int .i64 0] 60)) rfl (.tmp 26) (.tmp 49) rfl w1.heap.size _ ((usersOf l ds).take k) ⟨treeT l[k].ph, ds[k], q, 0⟩ ⟨w3.heap.size, 0, none⟩ rfl (by exact hov5) rfl (by exact rdS_new w3 ⟨treeT l[k].ph, ds[k], q, 0⟩ _) (by have := HUK.out; omega) (by have := hb5.size; omega) ?_; intro v' w5 ho5 _ hb6; have C3 := four_low hb6 hbk hbd C2))
          all_goals
            have hB5 := ((hb.trans (hb4.mono hz)).trans (hb5.mono (by omega))).trans hb6
            rw [← HT.out] at ho5
            clear a1 a2 a3 a4
            go_wp2_with fail
            go_roundw
            case rel => exact ⟨k + 1, by omega, by go_num, ho5, hB5⟩
            case measure => simp [intOf]; omega
        · obtain rfl : k = m := by omega
          rw [List.take_of_length_le (by rw [HUL.out]; exact Nat.le_refl _)] at hov
          obtain ⟨av, nv, cv, rfl, hR⟩ := hov.own (by rw [HUL.out]; omega)
          have hnv : nv ≤ 8 := by rw [hR.1, HUL.out]; exact hn8
          have hbw := hb1.trans (hb.mono hb1.size)
          have hzw := hbw.size
          clear hA hD hlt
          go_wp2_with fail
          refine (sSendAll_c hR HU.out hnv HUZ.out).mono ?_; rintro e w5 ⟨a5, n5, c5, rfl, ho5, hb5⟩
          go_wp2_with fail
          go_ret2
          exact ⟨_, _, _, by rw [hr.out]; rfl, by rw [hr.out]; exact ho5.mono hzw, hbw.trans (hb5.mono hzw)⟩
    · have hr := Lib.hid (csgR_2 (l := l) (ds := ds) (by rw [← HM.out, ← HN.out]; exact h2))
      have h2' : ((m : Int) == (n : Int)) = false := by rw [beq_eq_false_iff_ne]; omega
      go_enter Try.func8, Try.ntmps8
      go_wp2_with fail
      refine (sCellValid_c h HM2.out).mono ?_; rintro e w1 ⟨rfl, hb1⟩
      rw [h1]
      clear h1
      have ho0 : OwnV (w1.alloc (.cells #[] 3)) w.heap.size (.slice (some ⟨w1.heap.size, 0, none⟩) 0 0) [] := OwnV.made0 w1 hb1.size
      have hb3 := hb1.alloc hb1.size (.cells #[] 3)
      go_wp2_with fail
      go_ret2
      exact retIntsB_mk ho0 (by simp) (by rw [hr.out]; rfl) (by rw [hr.out]; rfl) hb3
  · have h1' : cellB l = false := by simpa using h1
    have hr := Lib.hid (csgR_1 (ds := ds) h1')
    go_enter Try.func8, Try.ntmps8
    go_wp2_with fail
    refine (sCellValid_c h HM2.out).mono ?_; rintro e w1 ⟨rfl, hb1⟩
    rw [h1']
    clear h1 h1'
    have ho0 : OwnV (w1.alloc (.cells #[] 3)) w.heap.size (.slice (some ⟨w1.heap.size, 0, none⟩) 0 0) [] := OwnV.made0 w1 hb1.size
    have hb3 := hb1.alloc hb1.size (.cells #[] 3)
    go_wp2_with fail
    go_ret2
    exact retIntsB_mk ho0 (by simp) (by rw [hr.out]; rfl) (by rw [hr.out]; rfl) hb3

end Go.Proofs.Ytadcckjlcmnhbaa
