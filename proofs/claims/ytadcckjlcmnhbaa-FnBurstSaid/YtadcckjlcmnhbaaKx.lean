/- OpenPayload of the reference. No condition beyond lengths. -/
import Derived.Test.YtadcckjlcmnhbaaKw
import Derived.Test.YtadcckjlcmnhbaaKs
import Derived.Test.YtadcckjlcmnhbaaKt
namespace Go.Proofs.Ytadcckjlcmnhbaa
open Go.RowKit

/-- What OpenPayload answers. -/
def opR (b : ByteArray) (n s t x : Int) : Option ByteArray := (scrR b s t x).bind fun m => (deiR m n).bind fun k => (hamR k).bind fun d => (parseR d.1 0).map Prod.fst
theorem scr_sz (b : ByteArray) (s t x : Int) : ((scrR b s t x).getD ByteArray.empty).size ≤ b.size := by
  unfold scrR
  split
  · show (scrT b _ _ _).size ≤ _; rw [scr_size]; exact Nat.le_refl _
  · exact Nat.zero_le _
theorem dei_sz (m : ByteArray) (n : Int) : ((deiR m n).getD ByteArray.empty).size ≤ m.size := by
  unfold deiR
  split
  · show (deiT m _).size ≤ _; unfold deiT; rw [text_size, deiF_len]; exact Nat.le_refl _
  · exact Nat.zero_le _
theorem ham_sz (k : ByteArray) : (((hamR k).map Prod.fst).getD ByteArray.empty).size ≤ 4 * k.size := by
  unfold hamR
  split
  · show (decT k (k.size / 7)).size ≤ _
    rw [decT_size _ (by omega)]; omega
  · exact Nat.zero_le _

end Go.Proofs.Ytadcckjlcmnhbaa
