/- The laws' comparison of two registers. -/
import Derived.Test.YtilmgimaaicamaaRy
namespace Go.Proofs.Ytilmgimaaicamaa
open Go.RowKit

set_option maxHeartbeats 1600000 in
theorem eqRegister_same (s t x : Int) (w : World) : Calls Try.prog 37 #[.agg #[.int .i64 s, .int .i64 t, .int .i64 x], .agg #[.int .i64 s, .int .i64 t, .int .i64 x]] w fun e w' => e = .returned (.bool true) ∧ Below w.heap.size w w' := by
  go_enter Try.func37, Try.ntmps37
  go_wp2
  go_ret
  refine ⟨rfl, ?_⟩
  repeat (first | exact Below.refl _ _ | refine Below.drew ?_ | refine below_drewN ?_ _ | refine Below.alloc ?_ (by simp; try omega) _ | refine Below.setCell ?_ (by simp) _)

end Go.Proofs.Ytilmgimaaicamaa
