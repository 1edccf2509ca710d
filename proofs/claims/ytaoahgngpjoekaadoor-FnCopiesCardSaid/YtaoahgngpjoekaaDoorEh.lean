/- DrawCopiesNeeded. No condition beyond lengths. -/
import Derived.Test.YtaoahgngpjoekaaDoorEe
namespace Go.Proofs.YtaoahgngpjoekaaDoor
open Go.RowKit

theorem res4 {fn : Func} {t u v x : Tmp} (h : fn.results = #[.tmp t, .tmp u, .tmp v, .tmp x]) (tmps : Array Value) (P : Program) (w : World) :
    (results fn tmps).run P w = .ok (.tuple #[tmps.getD t undef, tmps.getD u undef, tmps.getD v undef, tmps.getD x undef]) w := by
  simp [results, h]
/-- A row far from the reader stays when the reader draws. -/
theorem RdC.gr {w w' : World} {g n c : Nat} {ao : Option Addr} {l : List Int} (h : RdC w ao n c l) (hg : w.grownBy w' (some g)) (hf : ∀ a, ao = some a → g < a.block) : RdC w' ao n c l :=
  ⟨h.1.gr hg (fun a ha _ => Nat.ne_of_gt (hf a ha)), h.2⟩

set_option maxRecDepth 100000 in
set_option maxHeartbeats 800000 in
theorem DrawCopiesNeeded_c {w : World} {ao : Option Addr} {n c : Nat} (h : CodeW w ao n c) : Calls Tryd.prog 4 #[.slice ao n c] w fun e w' =>
    ∃ s a1 n1 c1, ∃ l1 : List Int, ∃ a2 n2 c2, ∃ l2 : List Int, ∃ m : Int, e = .returned (.tuple #[.string s, .slice a1 n1 c1, .slice a2 n2 c2, .int .i64 m]) ∧ s.size ≤ 601 ∧ RdC w' a1 n1 c1 l1 ∧ l1.length ≤ 301 ∧ RdC w' a2 n2 c2 l2 ∧ l2.length ≤ 17 ∧ -1 ≤ m ∧ m ≤ 17 ∧ Below w.heap.size w w' := by
  have hC := h
  obtain ⟨lb, hR, hcap, hby⟩ := h
  go_enter Tryd.func4, Tryd.ntmps4
  go_wp2_with fail
  refine (l9Open_c hR hcap hby).mono ?_; rintro e w1 ⟨rfl, hr1, hb1⟩
  have hz1 := hb1.size
  have hgl := hr1.lt
  have hC1 := hC.below hb1
  clear hR hby hC
  go_wp2_with fail
  refine (DrawSendHopsF_c hC1).mono ?_; rintro e w2 ⟨s, a1, n1, c1, l1, a2, n2, c2, l2, rfl, hs, hL, h301, hJ, h17, hfL, hfJ, hb2⟩
  have hr2 := hr1.below hb2
  have hbA := hb1.trans (hb2.mono hz1)
  have hFL : ∀ a, a1 = some a → w.heap.size < a.block := fun a ha => Nat.lt_of_lt_of_le hgl (hfL a ha)
  have hFJ : ∀ a, a2 = some a → w.heap.size < a.block := fun a ha => Nat.lt_of_lt_of_le hgl (hfJ a ha)
  clear hr1 hb1 hb2 hfL hfJ hC1
  go_wp2_with fail
  refine (pick_c _ hr2 (by omega)).mono ?_; rintro e w3 ⟨u, rfl, u0, u1, hr3, hg3⟩
  have hL3 := hL.gr hg3 hFL
  have hJ3 := hJ.gr hg3 hFJ
  have hbB := hbA.trans (below_of_gr hg3 (Nat.le_refl _) hbA.size)
  clear hL hJ hr2 hg3 hbA u1
  by_cases hu : (u == 0) = true
  · go_wp2_with fail
    refine (num_lit [0, 16, 17, -1] hr3 (by omega) rfl rfl (by decide) (by decide)).mono ?_; rintro e w5 ⟨x, rfl, hx, hr5, hg5⟩
    have hbl : Below w3.heap.size w3 (w3.alloc (.cells (([0, 16, 17, -1] : List Int).map (Value.int .i64)).toArray 3)) := (Below.refl _ _).alloc (Nat.le_refl _) _
    have hL5 := (hL3.below hbl).gr hg5 hFL
    have hJ5 := (hJ3.below hbl).gr hg5 hFJ
    have hbC := hbB.trans (hbl.mono hbB.size)
    have hbD := hbC.trans (below_of_gr hg5 (Nat.le_refl _) hbC.size)
    have hx2 : -1 ≤ x ∧ x ≤ 17 := by simp at hx; omega
    clear hx
    go_wp2_with fail
    (try simp only [Exit.inBlock, Exit.then])
    refine bodyPost_ret (res4 rfl _ _ _) rfl ?_
    exact ⟨s, a1, n1, c1, l1, a2, n2, c2, l2, x, rfl, hs, hL5, h301, hJ5, h17, hx2.1, hx2.2, hbD⟩
  · have hu' : (u == 0) = false := by simpa using hu
    clear hu
    go_wp2_with fail
    refine (pick_c _ hr3 (by omega)).mono ?_; rintro e w4 ⟨v, rfl, v0, v1, hr4, hg4⟩
    have hL4 := hL3.gr hg4 hFL
    have hJ4 := hJ3.gr hg4 hFJ
    have hbC := hbB.trans (below_of_gr hg4 (Nat.le_refl _) hbB.size)
    have hv7 : v ≤ 7 := by rcases v1 with rfl | h <;> omega
    clear v1
    go_wp2_with fail
    (try simp only [Exit.inBlock, Exit.then])
    refine bodyPost_ret (res4 rfl _ _ _) rfl ?_
    exact ⟨s, a1, n1, c1, l1, a2, n2, c2, l2, 1 + v, rfl, hs, hL4, h301, hJ4, h17, by omega, by omega, hbC⟩

end Go.Proofs.YtaoahgngpjoekaaDoor
