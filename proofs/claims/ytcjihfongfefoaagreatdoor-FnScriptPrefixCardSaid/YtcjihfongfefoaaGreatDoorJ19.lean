/- Hs -/
import Derived.Test.YtcjihfongfefoaaGreatDoorJ02
import Derived.Deep.RegionLaw
namespace Go.Proofs.YtcjihfongfefoaaGreatDoor
open Go.RowKit
theorem Own.cap {w:World} {lo:Nat} {ao:Option Addr} {n c:Nat} {l:List Int} (h:Own w lo ao n c l):n≤c:=by
 rcases h.2.2.2 with ⟨h1,h2⟩|⟨g,cap,cur,hv,_,_,hc,_⟩
 ·omega
 ·cases hv;exact hc
end Go.Proofs.YtcjihfongfefoaaGreatDoor
