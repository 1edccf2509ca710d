/- Marks of texts, and slices of several kinds beside one that is written. No condition beyond lengths. -/
import Derived.Test.YtfeocobkclcnfaaMk
import Derived.Test.YtfeocobkclcnfaaEs
namespace Go.Proofs.Ytfeocobkclcnfaa
open Go.RowKit

theorem block_off {w w' : World} {b : Nat} {bo : Option Addr} (hw : Wr bo w w') (hb : b < w.heap.size) (hne : ∀ x, bo = some x → b ≠ x.block) : w'.heap[b]? = w.heap[b]? := by
  apply hw.block b hb
  intro e
  cases bo with
  | none => simp at e
  | some x => exact hne x rfl (by simpa using e)
theorem cell_off {w w' : World} {b o : Nat} {v : Value} {bo : Option Addr} (hw : Wr bo w w') (hne : ∀ x, bo = some x → b ≠ x.block) (h : w.cell? ⟨b, o, none⟩ = some v) : w'.cell? ⟨b, o, none⟩ = some v := by
  rw [World.cell?_of_block (w := w) (block_off hw (lt_of_cell h) hne)]
  exact h
theorem Rd.off {w w' : World} {ao bo : Option Addr} {n : Nat} {l : List Int} (h : Rd w ao n l) (hw : Wr bo w w') (hne : ∀ a b, ao = some a → 0 < n → bo = some b → a.block ≠ b.block) : Rd w' ao n l := by
  refine ⟨h.1, h.2.1, fun i hi => ?_⟩
  obtain ⟨b, off, h1, h2⟩ := h.2.2 i hi
  exact ⟨b, off, h1, cell_off hw (fun x hx => hne _ x h1 (by omega) hx) h2⟩
theorem RdF.off {α : Type} {f : α → Value} {w w' : World} {ao bo : Option Addr} {n : Nat} {l : List α} (h : RdF f w ao n l) (hw : Wr bo w w') (hne : ∀ a b, ao = some a → 0 < n → bo = some b → a.block ≠ b.block) : RdF f w' ao n l := by
  refine ⟨h.1, h.2.1, fun i hi => ?_⟩
  obtain ⟨b, off, h1, h2⟩ := h.2.2 i hi
  exact ⟨b, off, h1, cell_off hw (fun x hx => hne _ x h1 (by have := h.1; omega) hx) h2⟩
theorem RdS.off {w w' : World} {ao bo : Option Addr} {n : Nat} {l : List Stn} (h : RdS w ao n l) (hw : Wr bo w w') (hne : ∀ a b, ao = some a → 0 < n → bo = some b → a.block ≠ b.block) : RdS w' ao n l := by
  refine ⟨h.1, h.2.1, fun i hi => ?_⟩
  obtain ⟨b, off, h1, h2, h3, h4, h5⟩ := h.2.2 i hi
  have hx : ∀ x, bo = some x → b ≠ x.block := fun x hx => hne _ x h1 (by have := h.1; omega) hx
  exact ⟨b, off, h1, cell_off hw hx h2, cell_off hw hx h3, cell_off hw hx h4, cell_off hw hx h5⟩
theorem row_off {w w' : World} {lo n c size : Nat} {t : TypeId} {ao bo : Option Addr} {xs : List Value} (h : w.ownsRow lo t size (.slice ao n c) n xs) (hw : Wr bo w w') (hne : ∀ a b, ao = some a → bo = some b → a.block ≠ b.block) : w'.ownsRow lo t size (.slice ao n c) n xs := by
  refine h.kept hw ?_
  rw [ownBlock_slice]
  cases ao with
  | none => exact .inl rfl
  | some a =>
    right
    cases bo with
    | none => simp
    | some b =>
      have := hne a b rfl rfl
      simpa using this
theorem Own.off {w w' : World} {ao bo : Option Addr} {n c lo : Nat} {l : List Int} (h : Own w lo ao n c l) (hw : Wr bo w w') (hne : ∀ a b, ao = some a → bo = some b → a.block ≠ b.block) : Own w' lo ao n c l := ⟨h.1, h.2.1, row_off h.2.2 hw hne⟩
theorem OwnF.off {α : Type} {f : α → Value} {t : TypeId} {w w' : World} {ao bo : Option Addr} {n c lo : Nat} {l : List α} (h : OwnF f t w lo ao n c l) (hw : Wr bo w w') (hne : ∀ a b, ao = some a → bo = some b → a.block ≠ b.block) : OwnF f t w' lo ao n c l := ⟨h.1, h.2.1, row_off h.2.2 hw hne⟩
theorem OwnS.off {w w' : World} {ao bo : Option Addr} {n c lo : Nat} {l : List Stn} (h : OwnS w lo ao n c l) (hw : Wr bo w w') (hne : ∀ a b, ao = some a → bo = some b → a.block ≠ b.block) : OwnS w' lo ao n c l := ⟨h.1, h.2.1, row_off h.2.2 hw hne⟩
theorem Wr.low {w w' : World} {bo : Option Addr} {lo s : Nat} (h : Wr bo w w') (hx : ∀ b, bo = some b → lo ≤ b.block ∧ b.block < s) (hlo : lo ≤ w.heap.size) : Below lo w w' :=
  ⟨h.os, h.tape, h.output, h.size, fun k hk => block_off h (by omega) fun x e => by have := (hx x e).1; omega⟩

set_option maxRecDepth 100000 in
set_option maxHeartbeats 1600000 in
theorem markStringS_c {ao : Option Addr} {n c lo : Nat} {l : List ByteArray} {w : World} (k0 : Int) (h : OwnT w lo ao n c l) (h0 : 0 ≤ k0) (h1 : k0 ≤ 1099511627776) :
    Calls Try.prog 16 #[.slice ao n c, .int .i64 k0] w fun e w' => e = .returned (.int .i64 (k0 + n)) ∧ Wr ao w w' := by
  have hs := h.2.1
  have HLN := Lib.hid h.1
  go_enter Try.func16, Try.ntmps16
  go_wp2
  go_loopw [1, 5] (fun q i wr => ∃ (k : Nat) (M : List ByteArray), k ≤ n ∧ i = .int .i64 k ∧ q = .int .i64 (k0 + k) ∧ Hid (M.length = n) ∧ wr.ownsRow lo 9 1 (.slice ao n c) n (M.map Value.string) ∧ Wr ao w wr) (fun _ i _ => n - (intOf i).toNat)
  case atStart => exact ⟨0, l, Nat.zero_le _, rfl, by go_num, Lib.hid HLN.out.symm, h.2.2, World.grownBy.refl _ _⟩
  case round =>
    obtain ⟨k, M, hk, rfl, rfl, HM, hown, hw⟩ := hrel
    by_cases hlt : k < n
    · obtain ⟨b, rfl⟩ : ∃ b, ao = some ⟨b, 0, none⟩ := by
        rcases h.2.2.2 with ⟨h1, h2⟩ | ⟨g, cap, cur, hv, _⟩
        · omega
        · cases hv; exact ⟨g, rfl⟩
      have hkM : k < M.length := by rw [HM.out]; exact hlt
      go_wp2_with fail
      refine (markText_c _ _ (by omega)).mono ?_; rintro e w1 ⟨rfl, hb1⟩
      have ho1 := ownsRow_below hown hb1 fun j hj => (hown.lt j hj).2
      have hw1 := hw.step hb1
      have e0 := ownRow_at (j := k) (u := .string M[k]) ho1 (by simp [hkM])
      have f0 := ho1.frozenAt k
      have ho2 := (ho1.stored k (.string (mtx (k0 + k)))).1
      rw [← List.map_set] at ho2
      have hw2 := hw1.set k (.string (mtx (k0 + k)))
      have HM2 := Lib.hid (show (M.set k (mtx (k0 + k))).length = n by rw [List.length_set, HM.out])
      clear hown hw hb1 ho1 hw1
      go_wp2_with fail
      go_roundw
      case rel => exact ⟨k + 1, _, by omega, by go_num, by go_num, HM2, ho2, hw2⟩
      case measure => simp [intOf]; omega
    · go_wp2
      go_ret
      obtain rfl : k = n := by omega
      exact ⟨rfl, hw⟩

end Go.Proofs.Ytfeocobkclcnfaa
