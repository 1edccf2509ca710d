/- Shift registers: parity, validity, a step forward. No condition beyond what a valid register gives. -/
import Derived.Test.YtdedcablhahbnaaDoorHv
import Derived.IntWalk
namespace Go.Proofs.YtdedcablhahbnaaDoor
open Go.RowKit

def parF : Nat → Nat → Nat
  | 0, _ => 0
  | f + 1, n => (n % 2 + parF f (n / 2)) % 2
/-- The sum of the binary digits, modulo 2. -/
def par (n : Nat) : Nat := parF n n
theorem parF_le (f n : Nat) : parF f n ≤ 1 := by
  cases f with
  | zero => simp [parF]
  | succ f => simp only [parF]; omega
theorem parF_zero (f : Nat) : parF f 0 = 0 := by
  induction f with
  | zero => rfl
  | succ f ih => simp [parF, ih]
theorem parF_more : ∀ (f n : Nat), n ≤ f → parF f n = parF n n := by
  intro f
  induction f using Nat.strongRecOn with
  | ind f ih =>
    intro n hn
    cases f with
    | zero => obtain rfl : n = 0 := by omega
              rfl
    | succ f =>
      cases n with
      | zero => rw [parF_zero]; rfl
      | succ n =>
        simp only [parF]
        rw [ih f (by omega) ((n + 1) / 2) (by omega)]
        by_cases h : n = f
        · subst h; rw [ih n (by omega) ((n + 1) / 2) (by omega)]
        · rw [ih n (by omega) ((n + 1) / 2) (by omega)]
theorem par_step {n : Nat} (h : 0 < n) : par n = (n % 2 + par (n / 2)) % 2 := by
  unfold par
  cases n with
  | zero => omega
  | succ n => rw [parF, parF_more n ((n + 1) / 2) (by omega)]
theorem par_zero : par 0 = 0 := rfl
theorem par_le (n : Nat) : par n ≤ 1 := parF_le _ _

theorem val_eq {k : IntKind} {a b : Int} (h : a = b) : Value.int k a = .int k b := by rw [h]

theorem ofInt_i64 (a : Nat) (ha : a < 4611686018427387904) : (BitVec.ofInt 64 (a : Int)).toNat = a := by
  rw [BitVec.ofInt_natCast, BitVec.toNat_ofNat]; exact Nat.mod_eq_of_lt (by omega)
theorem i64_wrap_nat (a : Nat) (ha : a < 4611686018427387904) : IntKind.i64.wrap (a : Int) = a := by rw [IntKind.wrap_i64]; omega
theorem i64_and (a b : Nat) (ha : a < 4611686018427387904) (hb : b < 4611686018427387904) : bits .and .i64 (a : Int) (b : Int) = ((a &&& b : Nat) : Int) := by
  have hx : a &&& b < 2 ^ 62 := Nat.and_lt_two_pow _ (by omega)
  show IntKind.i64.wrap ((BitVec.ofInt 64 (a : Int) &&& BitVec.ofInt 64 (b : Int)).toNat : Int) = _
  rw [BitVec.toNat_and, ofInt_i64 a ha, ofInt_i64 b hb, i64_wrap_nat _ (by omega)]
theorem i64_or (a b : Nat) (ha : a < 4611686018427387904) (hb : b < 4611686018427387904) : bits .or .i64 (a : Int) (b : Int) = ((a ||| b : Nat) : Int) := by
  have hx : a ||| b < 2 ^ 62 := Nat.or_lt_two_pow (by omega) (by omega)
  show IntKind.i64.wrap ((BitVec.ofInt 64 (a : Int) ||| BitVec.ofInt 64 (b : Int)).toNat : Int) = _
  rw [BitVec.toNat_or, ofInt_i64 a ha, ofInt_i64 b hb, i64_wrap_nat _ (by omega)]
theorem i64_xor (a b : Nat) (ha : a < 4611686018427387904) (hb : b < 4611686018427387904) : bits .xor .i64 (a : Int) (b : Int) = ((a ^^^ b : Nat) : Int) := by
  have hx : a ^^^ b < 2 ^ 62 := Nat.xor_lt_two_pow (by omega) (by omega)
  show IntKind.i64.wrap ((BitVec.ofInt 64 (a : Int) ^^^ BitVec.ofInt 64 (b : Int)).toNat : Int) = _
  rw [BitVec.toNat_xor, ofInt_i64 a ha, ofInt_i64 b hb, i64_wrap_nat _ (by omega)]
theorem xor_bit {q r : Nat} (hq : q ≤ 1) (hr : r ≤ 1) : q ^^^ r = (q + r) % 2 := by
  rcases (show q = 0 ∨ q = 1 by omega) with rfl | rfl <;> rcases (show r = 0 ∨ r = 1 by omega) with rfl | rfl <;> rfl



/-- A size and taps of it. -/
def tapB (s t : Int) : Bool := inB s 2 8 && inB t 1 ((2 : Int) ^ s.toNat - 1)
def regB (s t x : Int) : Bool := tapB s t && inB x 0 ((2 : Int) ^ s.toNat - 1)
theorem size_cases {s : Int} (h : 2 ≤ s ∧ s ≤ 8) : s = 2 ∨ s = 3 ∨ s = 4 ∨ s = 5 ∨ s = 6 ∨ s = 7 ∨ s = 8 := by omega

set_option maxHeartbeats 1600000 in
theorem l1Two_c (s : Int) (w : World) (h : 0 ≤ s ∧ s ≤ 8) : Calls Tryd.prog 85 #[.int .i64 s] w fun e w' => e = .returned (.int .i64 ((2 : Int) ^ s.toNat)) ∧ w = w' := by
  obtain ⟨S, rfl⟩ := Int.eq_ofNat_of_zero_le h.1
  have hp : (2 : Int) ^ S = ((2 ^ S : Nat) : Int) := by rw [Int.natCast_pow]; rfl
  have hP : 2 ^ S ≤ 256 := Nat.le_trans (Nat.pow_le_pow_right (by omega) (show S ≤ 8 by omega)) (by decide)
  have HE := Lib.hid (show (2 : Int) ^ ((S : Int)).toNat = ((2 ^ S : Nat) : Int) by rw [Int.toNat_natCast, hp])
  generalize 2 ^ S = P at HE hp hP
  have hwA : IntKind.i64.wrap ((2 : Int) ^ S) = (P : Int) := by rw [hp]; exact IntWalk.i64_in _ (by omega)
  have hwB : IntKind.i64.wrap ((1 : Int) * 2 ^ S) = (P : Int) := by rw [Int.one_mul]; exact hwA
  have hwC : RowKit.wrap64 ((2 : Int) ^ S) = (P : Int) := by unfold wrap64; rw [hp]; omega
  clear hp
  go_enter Tryd.func85, Tryd.ntmps85
  go_wp2
  clear hwA hwB hwC
  go_ret
  exact ⟨ret_i HE.out.symm, rfl⟩



theorem quiet_eq {P : Program} {f : FuncId} {args : Array Value} {w : World} {n : Nat} {v : Value}
    (h : Calls P f args (w.drewN n) fun e w' => e = .returned v ∧ w.drewN n = w') : Calls P f args (w.drewN n) fun e w'' => e = .returned v ∧ ∃ m, w'' = w.drewN m :=
  h.mono fun _ _ ⟨he, hm⟩ => ⟨he, n, hm.symm⟩
theorem quiet_qw {P : Program} {f : FuncId} {args : Array Value} {w : World} {n : Nat} {v : Value}
    (h : Calls P f args (w.drewN n) fun e w' => e = .returned v ∧ Qw (w.drewN n) w') : Calls P f args (w.drewN n) fun e w'' => e = .returned v ∧ ∃ m, w'' = w.drewN m :=
  h.mono fun _ _ ⟨he, m, hm⟩ => ⟨he, n + m, by rw [hm, World.drewN_drewN]⟩

/-- A register as a value. -/
abbrev regV (s t x : Int) : Value := .agg #[.int .i64 s, .int .i64 t, .int .i64 x]
theorem below_box (w : World) (o : Obj) (n : Nat) : Below w.heap.size w ((w.alloc o).drewN n) := below_drewN ((Below.refl _ _).alloc (Nat.le_refl _) _) n

end Go.Proofs.YtdedcablhahbnaaDoor
