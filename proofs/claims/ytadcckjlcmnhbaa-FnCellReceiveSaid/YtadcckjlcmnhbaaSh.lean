/- SendHops of the program and of the reference. No condition beyond lengths. -/
import Derived.Test.YtadcckjlcmnhbaaTb
import Derived.Test.YtadcckjlcmnhbaaHj
import Derived.Test.YtadcckjlcmnhbaaG
import Derived.Test.YtadcckjlcmnhbaaSs
namespace Go.Proofs.Ytadcckjlcmnhbaa
open Go.RowKit

/-- Which bits of data are lost: those whose hop is on a jammed channel. -/
def gone (l j : List Int) (first i : Nat) : Bool := hasB j (l.getD ((first + i) % l.length) 0)
def sendL (s : ByteArray) (l j : List Int) (first : Nat) : List Int := (List.range s.size).map fun i => if gone l j first i = true then 63 else (codes s).getD i 0
theorem sendL_length (s : ByteArray) (l j : List Int) (first : Nat) : (sendL s l j first).length = s.size := by simp [sendL]
theorem sendL_get {s : ByteArray} {l j : List Int} {first i : Nat} (h : i < s.size) : (sendL s l j first)[i]'(by rw [sendL_length]; exact h) = if gone l j first i = true then 63 else (codes s).getD i 0 := by simp [sendL]
def sendT (s : ByteArray) (l j : List Int) (first : Nat) : ByteArray := text (sendL s l j first)
def readyB (s : ByteArray) (l j : List Int) : Bool := bitsB s && hopsB l 16 && decide (0 < l.length) && jamB j
def sendR (s : ByteArray) (l j : List Int) : Option ByteArray := if readyB s l j = true then some (sendT s l j 0) else none
theorem readyB_1 {s : ByteArray} {l j : List Int} (h : bitsB s = false) : sendR s l j = none := by simp [sendR, readyB, h]
theorem readyB_2 {s : ByteArray} {l j : List Int} (h : hopsB l 16 = false) : sendR s l j = none := by simp [sendR, readyB, h]
theorem readyB_3 {s : ByteArray} {l j : List Int} (h : l.length = 0) : sendR s l j = none := by simp [sendR, readyB, h]
theorem readyB_4 {s : ByteArray} {l j : List Int} (h : jamB j = false) : sendR s l j = none := by simp [sendR, readyB, h]
theorem readyB_y {s : ByteArray} {l j : List Int} (h1 : bitsB s = true) (h2 : hopsB l 16 = true) (h3 : 0 < l.length) (h4 : jamB j = true) : sendR s l j = some (sendT s l j 0) := by simp [sendR, readyB, h1, h2, h3, h4]
theorem bitsB_600 {s : ByteArray} (h : bitsB s = true) : s.size ≤ 600 := by
  unfold bitsB at h; rw [Bool.and_eq_true] at h; exact of_decide_eq_true h.1

end Go.Proofs.Ytadcckjlcmnhbaa
