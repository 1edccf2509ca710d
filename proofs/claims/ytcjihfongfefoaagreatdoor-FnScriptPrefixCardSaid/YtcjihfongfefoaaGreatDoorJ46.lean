/- Xi -/
import Derived.Test.YtcjihfongfefoaaGreatDoorJ34
import Derived.Test.YtcjihfongfefoaaGreatDoorJ40
import Derived.Test.YtcjihfongfefoaaGreatDoorShlf
namespace Go.Proofs.YtcjihfongfefoaaGreatDoor
open Go.RowKit
set_option maxHeartbeats 25600000
set_option maxRecDepth 100000
theorem wrd_nl {wo:ByteArray} (h:wrd wo=none):∀l∈lits,(wo.toList==l)=false:=by
 intro l hl
 unfold wrd at h
 rw[List.findIdx?_eq_none_iff]at h
 have h1:=h l hl
 rw[decide_eq_false_iff_not]at h1
 rw[Zck,beq_eq_false_iff_ne]
 exact h1
theorem Zhw (wo:ByteArray) (w:World):Calls Tryz.prog 150 #[.string wo] w fun e w'=>e= .returned (.tuple #[.int .i64 (nfW wo),.int .i64 (kdW wo)])∧w'=w:=by
 rcases hk:wrd wo with _|k
 ·have HN:=Lib.hid (show nfW wo= -1 by unfold nfW;rw[hk])
  have HK:=Lib.hid (show kdW wo=0 by unfold kdW;rw[hk])
  have hno:=wrd_nl hk
  have h0:(wo.toList==[114,101,103,105,115,116,101,114])=false:=hno _ (by decide)
  have h1:(wo.toList==[106,117,109,112])=false:=hno _ (by decide)
  have h2:(wo.toList==[112,101,114,105,111,100])=false:=hno _ (by decide)
  have h3:(wo.toList==[98,105,116,115])=false:=hno _ (by decide)
  have h4:(wo.toList==[104,111,112,115])=false:=hno _ (by decide)
  have h5:(wo.toList==[115,104,111,114,116,101,115,116])=false:=hno _ (by decide)
  have h6:(wo.toList==[109,97,120,105,109,97,108])=false:=hno _ (by decide)
  have h7:(wo.toList==[99,114,111,115,115])=false:=hno _ (by decide)
  have h8:(wo.toList==[112,101,97,107])=false:=hno _ (by decide)
  have h9:(wo.toList==[103,111,108,100])=false:=hno _ (by decide)
  have h10:(wo.toList==[119,97,108,115,104])=false:=hno _ (by decide)
  have h11:(wo.toList==[116,114,101,101])=false:=hno _ (by decide)
  have h12:(wo.toList==[115,112,114,101,97,100])=false:=hno _ (by decide)
  have h13:(wo.toList==[103,97,105,110])=false:=hno _ (by decide)
  have h14:(wo.toList==[115,105,103,110,97,108])=false:=hno _ (by decide)
  have h15:(wo.toList==[100,101,115,112,114,101,97,100])=false:=hno _ (by decide)
  have h16:(wo.toList==[114,101,99,101,105,118,101])=false:=hno _ (by decide)
  have h17:(wo.toList==[102,114,97,109,101])=false:=hno _ (by decide)
  have h18:(wo.toList==[102,105,110,100])=false:=hno _ (by decide)
  have h19:(wo.toList==[112,114,111,116,101,99,116])=false:=hno _ (by decide)
  have h20:(wo.toList==[111,112,101,110])=false:=hno _ (by decide)
  have h21:(wo.toList==[99,101,108,108])=false:=hno _ (by decide)
  have h22:(wo.toList==[97,100,109,105,116])=false:=hno _ (by decide)
  have h23:(wo.toList==[114,101,108,101,97,115,101])=false:=hno _ (by decide)
  have h24:(wo.toList==[112,111,119,101,114])=false:=hno _ (by decide)
  have h25:(wo.toList==[115,101,110,100])=false:=hno _ (by decide)
  have h26:(wo.toList==[104,101,97,114])=false:=hno _ (by decide)
  have h27:(wo.toList==[102,111,114,103,101,116])=false:=hno _ (by decide)
  clear hno hk
  rw[HN.out,HK.out]
  go_enter Tryz.func150,Tryz.ntmps150
  go_wp2_with fail
  go_ret2
  exact⟨rfl,rfl⟩
 ·obtain⟨hk28,hkb⟩:=Zhj hk
  have HN:=Lib.hid (show nfW wo=nfL.getD k (-1)by unfold nfW;rw[hk])
  have HK:=Lib.hid (show kdW wo=kdL.getD k 0 by unfold kdW;rw[hk])
  have HKB:=Lib.hid hkb
  rw[HN.out,HK.out]
  clear hkb hk
  have hcs:k=0∨k=1∨k=2∨k=3∨k=4∨k=5∨k=6∨k=7∨k=8∨k=9∨k=10∨k=11∨k=12∨k=13∨k=14∨k=15∨k=16∨k=17∨k=18∨k=19∨k=20∨k=21∨k=22∨k=23∨k=24∨k=25∨k=26∨k=27:=by omega
  clear hk28
  rcases hcs with rfl|rfl|rfl|rfl|rfl|rfl|rfl|rfl|rfl|rfl|rfl|rfl|rfl|rfl|rfl|rfl|rfl|rfl|rfl|rfl|rfl|rfl|rfl|rfl|rfl|rfl|rfl|rfl
  all_goals (first
   |(have e0:wo=(⟨#[114,101,103,105,115,116,101,114]⟩:ByteArray):=Zae HKB.out;subst e0)
   |(have e0:wo=(⟨#[106,117,109,112]⟩:ByteArray):=Zae HKB.out;subst e0)
   |(have e0:wo=(⟨#[112,101,114,105,111,100]⟩:ByteArray):=Zae HKB.out;subst e0)
   |(have e0:wo=(⟨#[98,105,116,115]⟩:ByteArray):=Zae HKB.out;subst e0)
   |(have e0:wo=(⟨#[104,111,112,115]⟩:ByteArray):=Zae HKB.out;subst e0)
   |(have e0:wo=(⟨#[115,104,111,114,116,101,115,116]⟩:ByteArray):=Zae HKB.out;subst e0)
   |(have e0:wo=(⟨#[109,97,120,105,109,97,108]⟩:ByteArray):=Zae HKB.out;subst e0)
   |(have e0:wo=(⟨#[99,114,111,115,115]⟩:ByteArray):=Zae HKB.out;subst e0)
   |(have e0:wo=(⟨#[112,101,97,107]⟩:ByteArray):=Zae HKB.out;subst e0)
   |(have e0:wo=(⟨#[103,111,108,100]⟩:ByteArray):=Zae HKB.out;subst e0)
   |(have e0:wo=(⟨#[119,97,108,115,104]⟩:ByteArray):=Zae HKB.out;subst e0)
   |(have e0:wo=(⟨#[116,114,101,101]⟩:ByteArray):=Zae HKB.out;subst e0)
   |(have e0:wo=(⟨#[115,112,114,101,97,100]⟩:ByteArray):=Zae HKB.out;subst e0)
   |(have e0:wo=(⟨#[103,97,105,110]⟩:ByteArray):=Zae HKB.out;subst e0)
   |(have e0:wo=(⟨#[115,105,103,110,97,108]⟩:ByteArray):=Zae HKB.out;subst e0)
   |(have e0:wo=(⟨#[100,101,115,112,114,101,97,100]⟩:ByteArray):=Zae HKB.out;subst e0)
   |(have e0:wo=(⟨#[114,101,99,101,105,118,101]⟩:ByteArray):=Zae HKB.out;subst e0)
   |(have e0:wo=(⟨#[102,114,97,109,101]⟩:ByteArray):=Zae HKB.out;subst e0)
   |(have e0:wo=(⟨#[102,105,110,100]⟩:ByteArray):=Zae HKB.out;subst e0)
   |(have e0:wo=(⟨#[112,114,111,116,101,99,116]⟩:ByteArray):=Zae HKB.out;subst e0)
   |(have e0:wo=(⟨#[111,112,101,110]⟩:ByteArray):=Zae HKB.out;subst e0)
   |(have e0:wo=(⟨#[99,101,108,108]⟩:ByteArray):=Zae HKB.out;subst e0)
   |(have e0:wo=(⟨#[97,100,109,105,116]⟩:ByteArray):=Zae HKB.out;subst e0)
   |(have e0:wo=(⟨#[114,101,108,101,97,115,101]⟩:ByteArray):=Zae HKB.out;subst e0)
   |(have e0:wo=(⟨#[112,111,119,101,114]⟩:ByteArray):=Zae HKB.out;subst e0)
   |(have e0:wo=(⟨#[115,101,110,100]⟩:ByteArray):=Zae HKB.out;subst e0)
   |(have e0:wo=(⟨#[104,101,97,114]⟩:ByteArray):=Zae HKB.out;subst e0)
   |(have e0:wo=(⟨#[102,111,114,103,101,116]⟩:ByteArray):=Zae HKB.out;subst e0))
  all_goals
   go_enter Tryz.func150,Tryz.ntmps150
   go_wp2_with fail
   go_ret2
   exact⟨rfl,rfl⟩
end Go.Proofs.YtcjihfongfefoaaGreatDoor
