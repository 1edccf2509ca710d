/- Marks: the laws' own texts of numbers (markText), and what markStationS writes and heldStationS reads. No condition beyond lengths. -/
import Derived.Test.YtighlblbjbkjiaaDoorG
import Derived.Test.YtighlblbjbkjiaaDoorCl
import Derived.Deep.RegionHeld3
import Derived.IntWalk
namespace Go.Proofs.YtighlblbjbkjiaaDoor
open Go.RowKit

def decR (k : Nat) (acc : List UInt8) : List UInt8 := if h : k = 0 then acc else decR (k / 10) (UInt8.ofNat (48 + k % 10) :: acc)
termination_by k
decreasing_by omega
theorem decR_zero (acc : List UInt8) : decR 0 acc = acc := by unfold decR; simp
theorem decR_pos {k : Nat} (h : 0 < k) (acc : List UInt8) : decR k acc = decR (k / 10) (UInt8.ofNat (48 + k % 10) :: acc) := by
  rw [decR]; simp [show k ≠ 0 by omega]
def mtx (k : Int) : ByteArray := if k ≤ 0 then ⟨#[109, 48]⟩ else ⟨#[109]⟩ ++ ⟨(decR k.toNat []).toArray⟩
theorem mtx_zero {k : Int} (h : k ≤ 0) : mtx k = ⟨#[109, 48]⟩ := by simp [mtx, h]
theorem mtx_pos {k : Int} (h : 0 < k) : mtx k = ⟨#[109]⟩ ++ ⟨(decR k.toNat []).toArray⟩ := by unfold mtx; rw [if_neg (by omega)]
theorem text_cons (v : Int) (s : ByteArray) : (text [v] ++ s).data.toList = UInt8.ofNat v.toNat :: s.data.toList := by simp [text, ByteArray.data_append]
theorem ret_s {a b : ByteArray} (h : a = b) : Ending.returned (.string a) = .returned (.string b) := by rw [h]
theorem text_one_size (v : Int) : (text [v]).size = 1 := text_size _

set_option maxHeartbeats 800000 in
theorem markText_c (k : Int) (w : World) (h1 : k ≤ 1125899906842624) : Calls Tryd.prog 33 #[.int .i64 k] w fun e w' => e = .returned (.string (mtx k)) ∧ Below w.heap.size w w' := by
  by_cases h : k ≤ 0
  · have hr := Lib.hid (mtx_zero h)
    go_enter Tryd.func33, Tryd.ntmps33
    go_wp2
    go_ret
    exact ⟨ret_s hr.out.symm, Below.refl _ _⟩
  · have h0 : 0 < k := by omega
    have hr := Lib.hid (mtx_pos h0)
    obtain ⟨K, rfl⟩ : ∃ K : Nat, k = K := ⟨k.toNat, by omega⟩
    go_enter Tryd.func33, Tryd.ntmps33
    go_wp2
    go_loopw [0, 3] (fun m o wr => ∃ (j : Nat) (s : ByteArray), m = .int .i64 j ∧ o = .string s ∧ s.size + j ≤ K ∧ decR j s.data.toList = decR K [] ∧ Below w.heap.size w wr) (fun m _ _ => (intOf m).toNat)
    case atStart => exact ⟨K, ByteArray.empty, rfl, rfl, by simp, rfl, Below.refl _ _⟩
    case round =>
      obtain ⟨j, s, rfl, rfl, hsz, hdec, hb⟩ := hrel
      have HD := Lib.hid hdec; clear hdec
      by_cases hj : 0 < j
      · have hz := hb.size
        have hT := Lib.hid (text_one_size (48 + (j : Int) % 10))
        have hC := Lib.hid (text_cons (48 + (j : Int) % 10) s)
        have hP := Lib.hid (decR_pos hj s.data.toList)
        have hsum : ¬ (text [48 + (j : Int) % 10]).size + s.size > 9223372036854775807 := by rw [hT.out]; omega
        have hbn : Below w.heap.size w (wr.alloc (.cells #[.int .u8 (48 + (j : Int) % 10)] 5)) := hb.alloc hz _
        go_wp2_with (with_reducible refine wp_text 33 5 9 Tryd.underlying33 Tryd.underlying5 Tryd.underlying9 _ rfl (.tmp 12) rfl rfl (rdB_new _ _ _) ?_)
        go_roundw
        case rel =>
          refine ⟨j / 10, text [48 + (j : Int) % 10] ++ s, by go_num, rfl, ?_, ?_, hbn⟩
          · rw [ByteArray.size_append, hT.out]; omega
          · rw [hC.out, ← HD.out, hP.out]
            rw [show (48 + (j : Int) % 10).toNat = 48 + j % 10 by omega]
        case measure => simp [intOf]; omega
      · obtain rfl : j = 0 := by omega
        have hs : s = ⟨(decR K []).toArray⟩ := by
          apply ByteArray.ext
          rw [← HD.out, decR_zero]
        have hs2 := Lib.hid (show (⟨#[109]⟩ ++ s : ByteArray) = mtx K by rw [hr.out, hs]; simp)
        have hsum : ¬ (⟨#[109]⟩ : ByteArray).size + s.size > 9223372036854775807 := by have : (⟨#[109]⟩ : ByteArray).size = 1 := rfl; omega
        clear hs
        go_wp2
        go_ret
        exact ⟨ret_s hs2.out, hb⟩

def markS (k : Int) (i : Nat) : Stn := ⟨mtx (k + 4 * i), mtx (k + 4 * i + 1), k + 4 * i + 1 + 1, k + 4 * i + 1 + 1 + 1⟩
def marksS (k : Int) (n : Nat) : List Stn := (List.range n).map (markS k)
theorem marksS_length (k : Int) (n : Nat) : (marksS k n).length = n := by simp [marksS]
theorem marksS_get (k : Int) (n i : Nat) (h : i < n) : (marksS k n)[i]'(by rw [marksS_length]; exact h) = markS k i := by simp [marksS]

theorem cellsS_set4 {l : List Stn} {k : Nat} (a b : ByteArray) (x y : Int) (hk : k < l.length) : ((((cellsS l).set (k * 4) (.string a)).set (k * 4 + 1) (.string b)).set (k * 4 + 2) (.int .i64 x)).set (k * 4 + 3) (.int .i64 y) = cellsS (l.set k ⟨a, b, x, y⟩) := cellsS_set ⟨a, b, x, y⟩ hk
theorem Wr.step {ao : Option Addr} {w w1 w2 : World} (h : Wr ao w w1) (hb : Below w1.heap.size w1 w2) : Wr ao w w2 :=
  ⟨hb.os.trans h.os, hb.tape.trans h.tape, hb.output.trans h.output, Nat.le_trans h.size hb.size, fun j hj hne => (hb.block j (Nat.lt_of_lt_of_le hj h.size)).trans (h.block j hj hne)⟩
theorem Wr.set {b : Nat} {w w1 : World} (h : Wr (some ⟨b, 0, none⟩) w w1) (i : Nat) (u : Value) : Wr (some ⟨b, 0, none⟩) w (w1.setCell ⟨b, i, none⟩ u) :=
  ⟨h.os, h.tape, h.output, by simpa [World.setCell] using h.size, fun j hj hne => (Below.heap_setCell _ _ _ _ (by rintro rfl; exact hne rfl)).trans (h.block j hj hne)⟩
theorem ownRow_at {w : World} {lo g n c size : Nat} {t : TypeId} {xs : List Value} {u : Value} {j : Nat} (h : w.ownsRow lo t size (.slice (some ⟨g, 0, none⟩) n c) n xs) (hj : xs[j]? = some u) : w.cell? ⟨g, j, none⟩ = some u := by
  have hl : j < xs.length := (List.getElem?_eq_some_iff.1 hj).1
  rw [h.cellAt j (by rw [← h.1]; exact hl)]; exact hj

set_option maxRecDepth 100000 in
set_option maxHeartbeats 3200000 in
theorem markStationS_c {ao : Option Addr} {n c lo : Nat} {l : List Stn} {w : World} (k0 : Int) (h : OwnS w lo ao n c l) (h0 : 0 ≤ k0) (h1 : k0 ≤ 1099511627776) :
    Calls Tryd.prog 13 #[.slice ao n c, .int .i64 k0] w fun e w' => e = .returned (.int .i64 (k0 + 4 * n)) ∧ OwnS w' lo ao n c (marksS k0 n) ∧ Wr ao w w' := by
  have hs := h.2.1
  go_enter Tryd.func13, Tryd.ntmps13
  go_wp2
  go_loopw [1, 5] (fun q i wr => ∃ k : Nat, k ≤ n ∧ i = .int .i64 k ∧ q = .int .i64 (k0 + 4 * k) ∧ wr.ownsRow lo 41 4 (.slice ao n c) n (cellsS ((marksS k0 n).take k ++ l.drop k)) ∧ Wr ao w wr) (fun _ i _ => n - (intOf i).toNat)
  case atStart => exact ⟨0, Nat.zero_le _, rfl, by go_num, h.2.2, World.grownBy.refl _ _⟩
  case round =>
    obtain ⟨k, hk, rfl, rfl, hown, hw⟩ := hrel
    by_cases hlt : k < n
    · obtain ⟨b, rfl⟩ : ∃ b, ao = some ⟨b, 0, none⟩ := by
        rcases h.2.2.2 with ⟨h1, h2⟩ | ⟨g, cap, cur, hv, _⟩
        · omega
        · cases hv; exact ⟨g, rfl⟩
      have hm : k < (marksS k0 n).length := by rw [marksS_length]; exact hlt
      have hl : l.length = n := h.1.symm
      have hML : ((marksS k0 n).take k ++ l.drop k).length = n := by rw [List.length_append, List.length_take, List.length_drop, marksS_length]; omega
      have hkM : k < ((marksS k0 n).take k ++ l.drop k).length := by omega
      have HSET := Lib.hid (cellsS_set4 (mtx (k0 + 4 * k)) (mtx (k0 + 4 * k + 1)) (k0 + 4 * k + 1 + 1) (k0 + 4 * k + 1 + 1 + 1) hkM)
      have HNX := Lib.hid (take_set_next hm (show l.length = (marksS k0 n).length by rw [marksS_length]; exact hl))
      have HGET := Lib.hid (show (marksS k0 n)[k] = ⟨mtx (k0 + 4 * k), mtx (k0 + 4 * k + 1), k0 + 4 * k + 1 + 1, k0 + 4 * k + 1 + 1 + 1⟩ from marksS_get k0 n k hlt)
      obtain ⟨d0, d1, d2, d3⟩ := cellsS_at hkM
      generalize ((marksS k0 n).take k ++ l.drop k) = M at *
      generalize M[k] = s0 at *
      clear hML
      have HD1 := Lib.hid d1; have HD2 := Lib.hid d2; have HD3 := Lib.hid d3; clear d1 d2 d3
      have hbb := (hown.lt b rfl).2
      go_wp2_with fail
      refine (markText_c _ _ (by omega)).mono ?_; rintro e w1 ⟨rfl, hb1⟩
      have ho1 := ownsRow_below hown hb1 fun j hj => (hown.lt j hj).2
      have hw1 := hw.step hb1
      have e0 := ownRow_at ho1 d0
      have f0 := ho1.frozenAt (k * 4)
      have ho2 := (ho1.stored (k * 4) (.string (mtx (k0 + 4 * k)))).1
      have hw2 := hw1.set (k * 4) (.string (mtx (k0 + 4 * k)))
      clear hown hw hb1 ho1 hw1 d0
      go_wp2_with fail
      clear e0 f0
      refine (markText_c _ _ (by omega)).mono ?_; rintro e w2 ⟨rfl, hb2⟩
      have ho3 := ownsRow_below ho2 hb2 fun j hj => (ho2.lt j hj).2
      have hw3 := hw2.step hb2
      have e1 := ownRow_at (j := k * 4 + 1) (u := .string s0.ph) ho3 (by rw [List.getElem?_set_ne (by omega)]; exact HD1.out)
      have f1 := ho3.frozenAt (k * 4 + 1)
      have ho4 := (ho3.stored (k * 4 + 1) (.string (mtx (k0 + 4 * k + 1)))).1
      have hw4 := hw3.set (k * 4 + 1) (.string (mtx (k0 + 4 * k + 1)))
      have e2 := ownRow_at (j := k * 4 + 2) (u := .int .i64 s0.g) ho4 (by rw [List.getElem?_set_ne (by omega), List.getElem?_set_ne (by omega)]; exact HD2.out)
      have f2 := ho4.frozenAt (k * 4 + 2)
      have ho5 := (ho4.stored (k * 4 + 2) (.int .i64 (k0 + 4 * k + 1 + 1))).1
      have hw5 := hw4.set (k * 4 + 2) (.int .i64 (k0 + 4 * k + 1 + 1))
      have e3 := ownRow_at (j := k * 4 + 3) (u := .int .i64 s0.l) ho5 (by rw [List.getElem?_set_ne (by omega), List.getElem?_set_ne (by omega), List.getElem?_set_ne (by omega)]; exact HD3.out)
      have f3 := ho5.frozenAt (k * 4 + 3)
      have ho6 := (ho5.stored (k * 4 + 3) (.int .i64 (k0 + 4 * k + 1 + 1 + 1))).1
      have hw6 := hw5.set (k * 4 + 3) (.int .i64 (k0 + 4 * k + 1 + 1 + 1))
      rw [HSET.out, ← HGET.out, HNX.out] at ho6
      clear ho2 ho3 ho4 ho5 hw2 hw3 hw4 hw5 hb2
      go_wp2_with fail
      go_roundw
      case rel => exact ⟨k + 1, by omega, by go_num, by go_num, ho6, hw6⟩
      case measure => simp [intOf]; omega
    · go_wp2
      go_ret
      obtain rfl : k = n := by omega
      refine ⟨rfl, ⟨(marksS_length _ _).symm, hs, ?_⟩, hw⟩
      rw [List.take_of_length_le (by rw [marksS_length]; exact Nat.le_refl _), List.drop_of_length_le (by rw [h.1]; exact Nat.le_refl _), List.append_nil] at hown
      exact hown

set_option maxRecDepth 100000 in
set_option maxHeartbeats 3200000 in
theorem heldStationS_c {ao : Option Addr} {n c : Nat} {w : World} (k0 : Int) (h : RdS w ao n (marksS k0 n)) (h0 : 0 ≤ k0) (h1 : k0 ≤ 1099511627776) :
    Calls Tryd.prog 14 #[.slice ao n c, .int .i64 k0] w fun e w' => e = .returned (.int .i64 (k0 + 4 * n)) ∧ Below w.heap.size w w' := by
  have hs := h.2.1
  go_enter Tryd.func14, Tryd.ntmps14
  go_wp2
  go_loopw [1, 5] (fun q i wr => ∃ k : Nat, k ≤ n ∧ i = .int .i64 k ∧ q = .int .i64 (k0 + 4 * k) ∧ Below w.heap.size w wr) (fun _ i _ => n - (intOf i).toNat)
  case atStart => exact ⟨0, Nat.zero_le _, rfl, by go_num, Below.refl _ _⟩
  case round =>
    obtain ⟨k, hk, rfl, rfl, hb⟩ := hrel
    by_cases hlt : k < n
    · obtain ⟨b, off, rfl, hl, c0, c1, c2, c3⟩ := (h.below hb).at hlt
      rw [marksS_get _ _ _ hlt] at c0 c1 c2 c3
      simp only [markS] at c0 c1 c2 c3
      clear h
      go_wp2_with fail
      go_region_held3 (fun w' => w'.cell? ⟨b, off + k * 4, none⟩ = some (.string (mtx (k0 + 4 * k)))) (first | exact c0 | exact d0) (first | (go_at_call 33; refine (markText_c _ _ (by omega)).mono ?_; rintro e w1 ⟨rfl, hb1⟩; have d0 := (hb1.cell (lt_of_cell c0)).trans c0))
      have d1 := (hb1.cell (lt_of_cell c1)).trans c1
      have d2 := (hb1.cell (lt_of_cell c2)).trans c2
      have d3 := (hb1.cell (lt_of_cell c3)).trans c3
      have hbA := hb.trans (((Below.drew (Below.refl wr.heap.size wr)).trans hb1).mono hb.size)
      clear c0 c1 c2 c3 hb hb1
      go_wp2_with fail
      go_region_held3 (fun w' => w'.cell? ⟨b, off + k * 4 + 1, none⟩ = some (.string (mtx (k0 + 4 * k + 1)))) (first | exact d1 | exact e1) (first | (go_at_call 33; refine (markText_c _ _ (by omega)).mono ?_; rintro e w2 ⟨rfl, hb2⟩; have e1 := (hb2.cell (lt_of_cell d1)).trans d1))
      have e2 := (hb2.cell (lt_of_cell d2)).trans d2
      have e3 := (hb2.cell (lt_of_cell d3)).trans d3
      have hbB := hbA.trans (((Below.drew (Below.refl w1.heap.size w1)).trans hb2).mono hbA.size)
      clear d1 d2 d3 hb2 hbA
      go_wp2_with fail
      go_roundw
      case rel => exact ⟨k + 1, by omega, by go_num, by go_num, hbB⟩
      case measure => simp [intOf]; omega
    · go_wp2
      go_ret
      obtain rfl : k = n := by omega
      exact ⟨rfl, hb⟩

theorem Wr.belowS {w w' : World} {bo : Option Addr} {m d lo' : Nat} {r : List Stn} (h : Wr bo w w') (ho : OwnS w lo' bo m d r) (hlo : lo' ≤ w.heap.size) : Below lo' w w' := by
  refine ⟨h.os, h.tape, h.output, h.size, fun k hk => h.block k (by omega) fun e => ?_⟩
  have h2 := ho.2.2.lt k (by rw [ownBlock_slice]; exact e.symm)
  omega
theorem RdS.wr {w w' : World} {ao bo : Option Addr} {n m d lo' : Nat} {l r : List Stn} (h : RdS w ao n l) (ho : OwnS w lo' bo m d r) (hw : Wr bo w w') (hlt : ∀ a, ao = some a → 0 < n → a.block < lo') : RdS w' ao n l := by
  refine ⟨h.1, h.2.1, fun i hi => ?_⟩
  obtain ⟨b, off, h1, c0, c1, c2, c3⟩ := h.2.2 i hi
  have h3 : b < lo' := hlt _ h1 (by have := h.1; omega)
  have h6 : some b ≠ bo.map (·.block) := fun e => by
    have h4 := ho.2.2.lt b (by rw [ownBlock_slice]; exact e.symm)
    omega
  have hb := hw.block b (lt_of_cell c0) h6
  exact ⟨b, off, h1, by rw [World.cell?_of_block (w := w) hb]; exact c0, by rw [World.cell?_of_block (w := w) hb]; exact c1, by rw [World.cell?_of_block (w := w) hb]; exact c2, by rw [World.cell?_of_block (w := w) hb]; exact c3⟩
theorem OwnS.wr {w w' : World} {ao bo : Option Addr} {n c lo : Nat} {l : List Stn} (h : OwnS w lo ao n c l) (hw : Wr bo w w') (hne : ∀ a b, ao = some a → bo = some b → a.block ≠ b.block) : OwnS w' lo ao n c l := by
  refine ⟨h.1, h.2.1, h.2.2.kept hw ?_⟩
  rw [ownBlock_slice]
  cases ao with
  | none => exact .inl rfl
  | some a =>
    right
    cases bo with
    | none => simp
    | some b =>
      have := hne a b rfl rfl
      simpa using this
theorem OwnS.wrOld {w w' : World} {ao bo : Option Addr} {n c lo m d lo' : Nat} {l r : List Stn} (h : OwnS w lo ao n c l) (_ho : OwnS w lo' bo m d r) (hw : Wr bo w w') (hlt : ∀ b, bo = some b → b.block < lo) : OwnS w' lo ao n c l :=
  h.wr hw fun a b ea eb => by have h1 := hlt b eb; have h2 := h.lt a ea; omega
theorem OwnS.wrNew {w w' : World} {ao bo : Option Addr} {n c lo m d lo' : Nat} {l r : List Stn} (h : OwnS w lo ao n c l) (ho : OwnS w lo' bo m d r) (hw : Wr bo w w') (hlt : ∀ a, ao = some a → a.block < lo') : OwnS w' lo ao n c l :=
  h.wr hw fun a b ea eb => by have h1 := hlt a ea; have h2 := ho.lt b eb; omega

end Go.Proofs.YtighlblbjbkjiaaDoor
