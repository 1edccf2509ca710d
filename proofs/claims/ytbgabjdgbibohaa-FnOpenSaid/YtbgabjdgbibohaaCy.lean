/- CellValid of the reference. No condition beyond lengths. -/
import Derived.Test.YtbgabjdgbibohaaCx
namespace Go.Proofs.Ytbgabjdgbibohaa
open Go.RowKit

theorem quietS_qw {P : Program} {f : FuncId} {args : Array Value} {w : World} {n : Nat} {v : Value}
    (h : Calls P f args (w.drewN n) fun e w' => e = .returned v ∧ Qw (w.drewN n) w') : Calls P f args (w.drewN n) fun e w'' => e = .returned v ∧ ∃ m, w'' = w.drewN m :=
  h.mono fun _ _ ⟨he, m, hm⟩ => ⟨he, n + m, by rw [hm, World.drewN_drewN]⟩

end Go.Proofs.Ytbgabjdgbibohaa
