/- AdmitStation of the program and of the reference. No condition beyond lengths. -/
import Derived.Test.YtdedcablhahbnaaDoorFq
import Derived.Test.YtdedcablhahbnaaDoorRl
import Derived.Laws.CopyOwn
namespace Go.Proofs.YtdedcablhahbnaaDoor
open Go.RowKit

def admOk (l : List Stn) (nm : ByteArray) (loss : Int) : Bool := cellB l && decide (l.length < 8) && nameB nm && decide (idxS l nm < 0) && inB loss 1 20
def admR (l : List Stn) (nm : ByteArray) (d loss : Int) : Option (List Stn) := if admOk l nm loss = true then (allocR (l.map Stn.ph) d).map (fun p => l ++ [⟨nm, p, 1, loss⟩]) else none
theorem admR_1 {l : List Stn} {nm : ByteArray} {d loss : Int} (h : cellB l = false) : admR l nm d loss = none := by simp [admR, admOk, h]
theorem admR_2 {l : List Stn} {nm : ByteArray} {d loss : Int} (h : 8 ≤ l.length) : admR l nm d loss = none := by simp [admR, admOk, show ¬ l.length < 8 by omega]
theorem admR_3 {l : List Stn} {nm : ByteArray} {d loss : Int} (h : nameB nm = false) : admR l nm d loss = none := by simp [admR, admOk, h]
theorem admR_4 {l : List Stn} {nm : ByteArray} {d loss : Int} {f : Nat} (h : idxS l nm = f) : admR l nm d loss = none := by
  unfold admR admOk; rw [decide_eq_false (show ¬ idxS l nm < 0 by omega)]; simp
theorem admR_5 {l : List Stn} {nm : ByteArray} {d loss : Int} (h : inB loss 1 20 = false) : admR l nm d loss = none := by simp [admR, admOk, h]
theorem admR_y {l : List Stn} {nm : ByteArray} {d loss : Int} (h1 : cellB l = true) (h2 : l.length < 8) (h3 : nameB nm = true) (h4 : idxS l nm = -1) (h5 : inB loss 1 20 = true) : admR l nm d loss = (allocR (l.map Stn.ph) d).map (fun p => l ++ [⟨nm, p, 1, loss⟩]) := by
  have : admOk l nm loss = true := by unfold admOk; rw [h1, decide_eq_true h2, h3, decide_eq_true (show idxS l nm < 0 by omega), h5]; rfl
  unfold admR; rw [if_pos this]
theorem paths_ok {l : List Stn} (h : cellB l = true) : ∀ q ∈ l.map Stn.ph, pathB q = true := by
  intro q hq
  obtain ⟨s, hs, rfl⟩ := List.mem_map.1 hq
  obtain ⟨i, hi, rfl⟩ := List.getElem_of_mem hs
  exact stB_path (cellB_st h hi)
theorem rdS_new (w : World) (s : Stn) (t : TypeId) : RdS (w.alloc (.cells #[.string s.nm, .string s.ph, .int .i64 s.g, .int .i64 s.l] t)) (some ⟨w.heap.size, 0, none⟩) 1 [s] := by
  refine ⟨rfl, by omega, fun i hi => ?_⟩
  obtain rfl : i = 0 := by simpa using hi
  have hB := Box.new w #[.string s.nm, .string s.ph, .int .i64 s.g, .int .i64 s.l] t
  exact ⟨_, _, rfl, hB.cell (i := 0) rfl, hB.cell (i := 1) rfl, hB.cell (i := 2) rfl, hB.cell (i := 3) rfl⟩

/-- 'make([]Station, n, n+1)'. -/
theorem wp_makeNS {ops : Array Oper} {rest : List Oper} {o : Oper} {a : Act} {Q : Exit → Act → World → Prop} (w : World) (hgd : o.guard = none) (s x : Operand)
    (hop : o.op = Op.makeSlice 23 s x) (kl kc : IntKind) (n : Nat) (C : Int) (hC : C = (n : Int) + 1) (hs : a.eval s = .int kl n) (hx : a.eval x = .int kc C) (hn : n ≤ 1000000)
    (h : ∀ w', w'.ownsRow w.heap.size 37 4 (.slice (some ⟨w.heap.size, 0, none⟩) n (n + 1)) n (cellsS (List.replicate n zstn)) → Below w.heap.size w w' →
      wpList Tryd.prog ops Q rest (a.put o.dst (.slice (some ⟨w.heap.size, 0, none⟩) n (n + 1))) w') :
    wpList Tryd.prog ops Q (o :: rest) a w := by
  obtain ⟨i0, hi, hz0, hz1, hz2⟩ := info_parts info_stn
  subst hC
  refine wpList_plain hgd fun K hK => ?_
  have hrun := run_make (P := Tryd.prog) w 23 37 i0 _ Tryd.underlying23 hi hz0 kl kc (n : Int) ((n : Int) + 1) (by omega) (by omega) (by rw [hz2]; omega) (by omega)
  rw [hz1] at hrun
  rw [show (n : Int).toNat = n from Int.toNat_natCast n, show ((n : Int) + 1).toNat = n + 1 by omega] at hrun
  unfold Oper.wp
  simp [execOp, hop, hs, hx, hrun, Result.andThen]
  refine hK _ _ (h _ ⟨by rw [cellsS_len, List.length_replicate], .inr ⟨w.heap.size, n + 1, _, rfl, Nat.le_refl _, heap_alloc_new w _, by omega, by unfold maxLen; omega, size_madeCells _ _, ?_⟩⟩ ((Below.refl _ _).alloc (Nat.le_refl _) _))
  rw [made_stn, List.replicate_succ', cellsS_append, List.take_left' (by rw [cellsS_len, List.length_replicate])]

theorem run_copyS (w : World) (ty : TypeId) (g dLen dCap : Nat) (a : Addr) (sCap : Nat) (cur : Array Value) (t : TypeId) (cs : List Value)
    (hg : w.heap[g]? = some (.cells cur t (0, 0))) (hn : cs.length = dLen * 4)
    (hsrc : ∀ j v, cs[j]? = some v → w.cell? (a.add j) = some v) (hfit : cs.length ≤ cur.size) (h1 : ∀ v ∈ cs, v.oneCell' = true) :
    (Builtin.copy_ #[23, 23] ty #[.slice (some ⟨g, 0, none⟩) dLen dCap, .slice (some a) dLen sCap]).run Tryd.prog w =
      .ok (goInt dLen) (w.setRow g (cs ++ cur.toList.drop cs.length).toArray) := by
  obtain ⟨i0, hi, hz0, hz1, hz2⟩ := info_parts info_stn
  have hl := run_loadCells_list (P := Tryd.prog) w a cs hsrc
  have hst := run_storeCells_at Tryd.prog g 0 t cs 0 cur w hg (by simpa using hfit) h1
  have hm : Nat.min dLen dLen = dLen := Nat.min_self _
  have hu : Tryd.prog.underlying 23 = some (.slice 37) := Tryd.underlying23
  simp [Builtin.copy_, run_underlying hu, Builtin.lenOf, Builtin.firstCells, sizeOf, typeInfo, hi, hz1, hm, ← hn, hl, hst]

theorem run_copyS0 (w : World) (ty : TypeId) (g dCap : Nat) (ao : Option Addr) (sCap : Nat) :
    (Builtin.copy_ #[23, 23] ty #[.slice (some ⟨g, 0, none⟩) 0 dCap, .slice ao 0 sCap]).run Tryd.prog w = .ok (goInt 0) w := by
  obtain ⟨i0, hi, hz0, hz1, hz2⟩ := info_parts info_stn
  have hu : Tryd.prog.underlying 23 = some (.slice 37) := Tryd.underlying23
  have hl : ∀ (x : Addr), (loadCells x 0).run Tryd.prog w = .ok #[] w := fun x => by simpa using run_loadCells_list (P := Tryd.prog) w x [] (by simp)
  cases ao <;> simp [Builtin.copy_, run_underlying hu, Builtin.lenOf, Builtin.firstCells, sizeOf, typeInfo, hi, storeCells, hl]

/-- 'copy(dst, src)', stations, as many as dst holds; dst made by the call itself. -/
theorem wp_copyS {ops : Array Oper} {rest : List Oper} {o : Oper} {a : Act} {Q : Exit → Act → World → Prop} {w0 : World} (w : World) (hgd : o.guard = none) (d s : Operand)
    (ho : o.op = .call { callee := .builtin .copy, args := #[d, s], argTypes := #[23, 23] }) (lo g n c c2 : Nat) (L l : List Stn) (ao : Option Addr)
    (hd : a.eval d = .slice (some ⟨g, 0, none⟩) n c) (hs : a.eval s = .slice ao n c2) (hown : w.ownsRow lo 37 4 (.slice (some ⟨g, 0, none⟩) n c) n (cellsS L)) (hr : RdS w ao n l) (hb : Below lo w0 w)
    (h : ∀ w', OwnVS w' lo (.slice (some ⟨g, 0, none⟩) n c) l → Below lo w0 w' → wpList Tryd.prog ops Q rest (a.put o.dst (goInt n)) w') :
    wpList Tryd.prog ops Q (o :: rest) a w := by
  refine wpList_plain hgd fun K hK => ?_
  by_cases h0 : n = 0
  · subst h0
    have hrun := run_copyS0 w o.type g c ao c2
    unfold Oper.wp
    simp [execOp, ho, resolve, invoke, builtin, hd, hs, hrun, Result.andThen]
    have hl : l = [] := List.eq_nil_of_length_eq_zero hr.1.symm
    subst hl
    have hL : cellsS L = [] := List.eq_nil_of_length_eq_zero (by rw [hown.1])
    rw [hL] at hown
    exact hK _ _ (h w hown hb)
  · obtain ⟨b1, o1, rfl, hl0, _⟩ := hr.at (show 0 < n by omega)
    rcases hown.2 with ⟨h1, _⟩ | ⟨g', cap, cur, hv, hgl, hh, hnc, hcm, hsz, htk⟩
    · cases h1
    · cases hv
      have hln := hr.1
      have hcl : (cellsS l).length = n * 4 := by rw [cellsS_len, ← hln]
      have hfit : (cellsS l).length ≤ cur.size := by rw [hcl, hsz]; omega
      have hrun := run_copyS w o.type g n c ⟨b1, o1, none⟩ c2 cur 37 (cellsS l) hh hcl hr.news hfit (cellsS_one l)
      unfold Oper.wp
      simp [execOp, ho, resolve, invoke, builtin, hd, hs, hrun, Result.andThen]
      refine hK _ _ (h _ ?_ (below_setRow hb hgl _))
      refine ⟨by rw [cellsS_len], .inr ⟨g, c, _, by rw [hln], hgl, setRow_heap w g _ _ _ _ hh, by omega, hcm, ?_, ?_⟩⟩
      · simp [hcl, hsz]; omega
      · simp [← hln, List.take_left' hcl]

end Go.Proofs.YtdedcablhahbnaaDoor
