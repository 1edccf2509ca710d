/- Ye Yf -/
import Derived.Test.YtcjihfongfefoaaGreatDoorJ25
import Derived.Test.YtcjihfongfefoaaGreatDoorJ28
import Derived.Test.YtcjihfongfefoaaGreatDoorShlf
namespace Go.Proofs.YtcjihfongfefoaaGreatDoor
open Go.RowKit
set_option maxHeartbeats 25600000
set_option maxRecDepth 100000
theorem Zgf {w w':World} {r:Option ByteArray} {e:Ending} (h:Zdx w r e w') (hr:r=none):e= .returned (.tuple #[.string ⟨#[]⟩,.bool false])∧Below w.heap.size w w':=by subst hr;exact h
theorem Ze1 {w w':World} {r:Option ByteArray} {e:Ending} {s:ByteArray} (h:Zdx w r e w') (hr:r=some s):e= .returned (.tuple #[.string s,.bool true])∧Below w.heap.size w w':=by subst hr;exact h
theorem Zakk {w w':World} {r:Option (Int×Int×Int)} {e:Ending} (h:Zey w r e w') (hr:r=none):e= .returned (.tuple #[.agg #[.int .i64 0,.int .i64 0,.int .i64 0],.bool false])∧Below w.heap.size w w':=by subst hr;exact h
theorem Zaet {w w':World} {r:Option (Int×Int×Int)} {e:Ending} {s t x:Int} (h:Zey w r e w') (hr:r=some (s,t,x)):e= .returned (.tuple #[.agg #[.int .i64 s,.int .i64 t,.int .i64 x],.bool true])∧Below w.heap.size w w':=by subst hr;exact h
theorem Zx2 {w:World} {b g c:Nat} {m:Mch} (h:EnvW w b m):Calls Tryz.prog 135 #[.pointer (some ⟨b,0,none⟩),.string (⟨#[112,101,114,105,111,100]⟩:ByteArray),.slice (some ⟨g,0,none⟩) 0 c] w (RetM w b m (some (m,decT (perR m.s m.t m.x)++⟨#[32]⟩++decT (Zfn m.s m.t m.x)))):=by
 obtain⟨ao,n,c',bo,k,d,hP0⟩:=h.rad
 have hI1:=Zux m.s m.t m.x
 have hI2:=Zpt m.s m.t m.x
 obtain⟨p,hp⟩:∃p,perR m.s m.t m.x=p:=⟨_,rfl⟩
 obtain⟨l,hl⟩:∃l,Zfn m.s m.t m.x=l:=⟨_,rfl⟩
 rw[hp]at hI1 ⊢
 rw[hl]at hI2 ⊢
 have HP:=Lib.hid hp
 have HL:=Lib.hid hl
 clear hp hl
 have z1:=Zde hI1
 have z2:=Zde hI2
 have n1:¬(decT p).size+1>9223372036854775807:=by omega
 have n1':¬9223372036854775807<(decT p).size+1:=by omega
 have n1'':¬9223372036854775807≤(decT p).size:=by omega
 have n2:¬(decT p).size+1+(decT l).size>9223372036854775807:=by omega
 have n2':¬9223372036854775807<(decT p).size+1+(decT l).size:=by omega
 have hba:Below w.heap.size w w.drew:=(Below.refl _ _).drew
 have hP:=hP0.below hba
 have hT:=h.tab.below hba
 have C:=hP.reg
 clear hP0
 go_enter Tryz.func135,Tryz.ntmps135
 go_wp2_with fail
 go_region_held3 (fun w'=>w'.cell? ⟨b,0,none⟩=some (.int .i64 m.s)∧w'.cell? ⟨b,1,none⟩=some (.int .i64 m.t)∧w'.cell? ⟨b,2,none⟩=some (.int .i64 m.x)) (first|with_reducible exact C) (first|(go_at_call 54;refine(Zob _ _ (by first|exact hI1|exact hI2) hT).mono ?_;rintro e w5 ⟨rfl,hb5⟩;have hT:=hT.below hb5;have hba:=hba.trans (hb5.mono hba.size);have hP:=hP.below hb5;have C:=hP.reg)|(go_at_call 30;refine(Zn4 _ _ _ _).mono ?_;rintro e w5 ⟨rfl,hb5⟩;rw[HP.out];have hT:=hT.below hb5;have hba:=hba.trans (hb5.mono hba.size);have hP:=hP.below hb5;have C:=hP.reg)|(go_at_call 31;refine(Z4i _ _ _ _).mono ?_;rintro e w5 ⟨rfl,hb5⟩;rw[HL.out];have hT:=hT.below hb5;have hba:=hba.trans (hb5.mono hba.size);have hP:=hP.below hb5;have C:=hP.reg))
 all_goals
  clear C
  go_wp2_with fail
  go_ret2
  exact Zbh rfl hP.w (Zad hba _)
theorem Z5w {w:World} {b g c:Nat} {m:Mch} {a:ByteArray} (h:EnvW w b m) (hf:RdT w (some ⟨g,0,none⟩) 1 [a]) (hz:∀p∈[a],p.size≤20000):
 Calls Tryz.prog 135 #[.pointer (some ⟨b,0,none⟩),.string (⟨#[98,105,116,115]⟩:ByteArray),.slice (some ⟨g,0,none⟩) 1 c] w (RetM w b m ((numT a).bind fun n=>m.say ((rnR m.s m.t m.x n).map Zaf))):=by
 have HZ:=Lib.hid (show ∀p∈[a],p.size≤1099511627776 from fun p hp=>Nat.le_trans (hz p hp) (by omega))
 clear hz
 rcases hn:numT a with _|x
 ·have HA:=Lib.hid (Zds hn)
  clear hn
  go_enter Tryz.func135,Tryz.ntmps135
  go_wp2_with fail
  refine(Zai hf HZ.out).mono ?_;intro e w1 hret;rw[HA.out]at hret;obtain⟨ao1,n1,c1,rfl,_,hb1⟩:=hret.none
  go_wp2_with fail
  go_ret2
  exact Za5 rfl (h.rad.below hb1) (Zad hb1 _)
 ·have HA:=Lib.hid (Zdr hn)
  clear hn
  rcases hj:rnR m.s m.t m.x x with _|s
  ·have HJ:=Lib.hid hj
   have HR:=Lib.hid (show(some x).bind (fun n=>m.say ((rnR m.s m.t m.x n).map Zaf))=none by show m.say ((rnR m.s m.t m.x x).map Zaf)=none;rw[hj];rfl)
   clear hj
   go_enter Tryz.func135,Tryz.ntmps135
   go_wp2_with fail
   refine(Zai hf HZ.out).mono ?_;intro e w1 hret;rw[HA.out]at hret;obtain⟨ao1,n1,c1,rfl,ho,hb1⟩:=hret.some
   obtain rfl:n1=1:=ho.1
   obtain⟨g1,rfl,hg1,hg1',hc1,hcl⟩:=Za9 ho (by omega)
   have e0:w1.cell? ⟨g1,0,none⟩=some (.int .i64 x):=hcl 0 (by simp)
   obtain⟨ao,n,c',bo,k,d,hP⟩:=(h.below hb1).rad
   obtain⟨d0,d1,d2⟩:=hP.reg
   clear hcl ho hret
   go_wp2_with fail
   have hbd:Below w.heap.size w w1.drew:=hb1.drew
   go_region_with (first|(go_at_call 81;refine(Zgw _ _ _ x _).mono ?_;intro e w3 hq;obtain⟨rfl,hb3⟩:=Zgf hq HJ.out;have hb13:=hbd.trans (hb3.mono hbd.size)))
   all_goals
    go_wp2_with fail
    refine(Zcg _ _).mono ?_;rintro e w' ⟨rfl,rfl⟩
    go_wp2_with fail
    go_ret2
    exact Za5 HR.out (h.rad.below hb13) (Zad hb13 _)
  ·have HJ:=Lib.hid hj
   have HR:=Lib.hid (show(some x).bind (fun n=>m.say ((rnR m.s m.t m.x n).map Zaf))=some (m,Zaf s)by show m.say ((rnR m.s m.t m.x x).map Zaf)=_;rw[hj];rfl)
   clear hj
   go_enter Tryz.func135,Tryz.ntmps135
   go_wp2_with fail
   refine(Zai hf HZ.out).mono ?_;intro e w1 hret;rw[HA.out]at hret;obtain⟨ao1,n1,c1,rfl,ho,hb1⟩:=hret.some
   obtain rfl:n1=1:=ho.1
   obtain⟨g1,rfl,hg1,hg1',hc1,hcl⟩:=Za9 ho (by omega)
   have e0:w1.cell? ⟨g1,0,none⟩=some (.int .i64 x):=hcl 0 (by simp)
   obtain⟨ao,n,c',bo,k,d,hP⟩:=(h.below hb1).rad
   obtain⟨d0,d1,d2⟩:=hP.reg
   clear hcl ho hret
   go_wp2_with fail
   have hbd:Below w.heap.size w w1.drew:=hb1.drew
   go_region_with (first|(go_at_call 81;refine(Zgw _ _ _ x _).mono ?_;intro e w3 hq;obtain⟨rfl,hb3⟩:=Ze1 hq HJ.out;have hb13:=hbd.trans (hb3.mono hbd.size)))
   all_goals
    go_wp2_with fail
    refine(Zcg _ _).mono ?_;rintro e w' ⟨rfl,rfl⟩
    go_wp2_with fail
    go_ret2
    exact Zbh HR.out (h.rad.below hb13) (Zad hb13 _)
theorem Z62 {w:World} {b g c:Nat} {m:Mch} {a a2:ByteArray} (h:EnvW w b m) (hf:RdT w (some ⟨g,0,none⟩) 2 [a,a2]) (hz:∀p∈[a,a2],p.size≤20000):
 Calls Tryz.prog 135 #[.pointer (some ⟨b,0,none⟩),.string (⟨#[104,111,112,115]⟩:ByteArray),.slice (some ⟨g,0,none⟩) 2 c] w (RetM w b m ((numT a).bind fun p=>(numT a2).bind fun q=>m.say ((Zcz m.s m.t m.x p q).map nmsT))):=by
 have HZ:=Lib.hid (show ∀p∈[a,a2],p.size≤1099511627776 from fun p hp=>Nat.le_trans (hz p hp) (by omega))
 clear hz
 rcases Ziu a a2 with hn|⟨x,y,hn,hn2⟩
 ·have HA:=Lib.hid (Zky hn)
  have HR:=Lib.hid (show((numT a).bind fun p=>(numT a2).bind fun q=>m.say ((Zcz m.s m.t m.x p q).map nmsT))=none by
   rcases hn with e|e
   ·rw[e];rfl
   ·rw[e];cases numT a<;>rfl)
  clear hn
  go_enter Tryz.func135,Tryz.ntmps135
  go_wp2_with fail
  refine(Zai hf HZ.out).mono ?_;intro e w1 hret;rw[HA.out]at hret;obtain⟨ao1,n1,c1,rfl,_,hb1⟩:=hret.none
  go_wp2_with fail
  go_ret2
  exact Za5 HR.out (h.rad.below hb1) (Zad hb1 _)
 ·have HA:=Lib.hid (Zkh hn hn2)
  rcases hj:Zcz m.s m.t m.x x y with _|l
  ·have HJ:=Lib.hid hj
   have HR:=Lib.hid (show((numT a).bind fun p=>(numT a2).bind fun q=>m.say ((Zcz m.s m.t m.x p q).map nmsT))=none by rw[hn,hn2];show m.say ((Zcz m.s m.t m.x x y).map nmsT)=none;rw[hj];rfl)
   clear hj hn hn2
   go_enter Tryz.func135,Tryz.ntmps135
   go_wp2_with fail
   refine(Zai hf HZ.out).mono ?_;intro e w1 hret;rw[HA.out]at hret;obtain⟨ao1,n1,c1,rfl,ho,hb1⟩:=hret.some
   obtain rfl:n1=2:=ho.1
   obtain⟨g1,rfl,hg1,hg1',hc1,hcl⟩:=Za9 ho (by omega)
   have e0:w1.cell? ⟨g1,0,none⟩=some (.int .i64 x):=hcl 0 (by simp)
   have e1:w1.cell? ⟨g1,1,none⟩=some (.int .i64 y):=hcl 1 (by simp)
   obtain⟨ao,n,c',bo,k,d,hP⟩:=(h.below hb1).rad
   obtain⟨d0,d1,d2⟩:=hP.reg
   clear hcl ho hret
   go_wp2_with fail
   have hbd:Below w.heap.size w w1.drew:=hb1.drew
   have hTd:=h.tab.below hbd
   go_region_with (first|(go_at_call 28;refine(Zi0 _ _ _ x y _).mono ?_;intro e w3 hq;rw[HJ.out]at hq;obtain⟨ao3,n3,c3,rfl,ho3,hb3⟩:=hq.none;have hb13:=hbd.trans (hb3.mono hbd.size);have hT3:=hTd.below hb3;have hR3:=ho3.rd;have hz3:n3≤1000000:=by rw[ho3.1];simp))
   all_goals
    go_wp2_with fail
    refine(Zcx hR3 (fun x hx=>by cases hx) hz3 hT3).mono ?_;rintro e w4 ⟨rfl,hb4⟩
    have hb14:=hb13.trans (hb4.mono hb13.size)
    go_wp2_with fail
    go_ret2
    exact Za5 HR.out (h.rad.below hb14) (Zad hb14 _)
  ·have HJ:=Lib.hid hj
   have HR:=Lib.hid (show((numT a).bind fun p=>(numT a2).bind fun q=>m.say ((Zcz m.s m.t m.x p q).map nmsT))=some (m,nmsT l)by rw[hn,hn2];show m.say ((Zcz m.s m.t m.x x y).map nmsT)=_;rw[hj];rfl)
   have hk:=Zmx hj
   clear hj hn hn2
   go_enter Tryz.func135,Tryz.ntmps135
   go_wp2_with fail
   refine(Zai hf HZ.out).mono ?_;intro e w1 hret;rw[HA.out]at hret;obtain⟨ao1,n1,c1,rfl,ho,hb1⟩:=hret.some
   obtain rfl:n1=2:=ho.1
   obtain⟨g1,rfl,hg1,hg1',hc1,hcl⟩:=Za9 ho (by omega)
   have e0:w1.cell? ⟨g1,0,none⟩=some (.int .i64 x):=hcl 0 (by simp)
   have e1:w1.cell? ⟨g1,1,none⟩=some (.int .i64 y):=hcl 1 (by simp)
   obtain⟨ao,n,c',bo,k,d,hP⟩:=(h.below hb1).rad
   obtain⟨d0,d1,d2⟩:=hP.reg
   have HK:=Lib.hid hk
   clear hcl ho hret hk
   go_wp2_with fail
   have hbd:Below w.heap.size w w1.drew:=hb1.drew
   have hTd:=h.tab.below hbd
   go_region_with (first|(go_at_call 28;refine(Zi0 _ _ _ x y _).mono ?_;intro e w3 hq;rw[HJ.out]at hq;obtain⟨ao3,n3,c3,rfl,ho3,hb3⟩:=hq.some;have hb13:=hbd.trans (hb3.mono hbd.size);have hT3:=hTd.below hb3;have hR3:=ho3.rd;have hz3:n3≤1000000:=by rw[ho3.1];exact Nat.le_trans HK.out.1 (by omega)))
   all_goals
    go_wp2_with fail
    refine(Zcx hR3 HK.out.2 hz3 hT3).mono ?_;rintro e w4 ⟨rfl,hb4⟩
    have hb14:=hb13.trans (hb4.mono hb13.size)
    go_wp2_with fail
    go_ret2
    exact Zbh HR.out (h.rad.below hb14) (Zad hb14 _)
theorem Zso {w:World} {b g c:Nat} {m:Mch} {a:ByteArray} (h:EnvW w b m) (hf:RdT w (some ⟨g,0,none⟩) 1 [a]):
 Calls Tryz.prog 135 #[.pointer (some ⟨b,0,none⟩),.string (⟨#[115,104,111,114,116,101,115,116]⟩:ByteArray),.slice (some ⟨g,0,none⟩) 1 c] w (RetM w b m (m.say ((shR a).map fun r=>rgT r.1 r.2.1 r.2.2))):=by
 have F0:w.cell? ⟨g,0,none⟩=some (.string a):=Zak hf (j:=0) (by simp)
 have hg:=Zaa F0
 rcases hj:shR a with _|⟨s,t,x⟩
 ·have HJ:=Lib.hid hj
  clear hj
  go_enter Tryz.func135,Tryz.ntmps135
  go_wp2_with fail
  refine(Zex a _).mono ?_;intro e w1 hq;obtain⟨rfl,hb1⟩:=Zakk hq HJ.out
  have hba:=hb1.alloc hb1.size (.cells #[.int .i64 0,.int .i64 0,.int .i64 0] 46)
  have hT1:=h.tab.below hba
  go_wp2_with fail
  refine(Zb8 0 0 0 _ hT1).mono ?_;rintro e w2 ⟨rfl,hb2⟩
  have hb12:=hba.trans (hb2.mono hba.size)
  go_wp2_with fail
  go_ret2
  exact Za5 rfl (h.rad.below hb12) (Zad hb12 _)
 ·have HJ:=Lib.hid hj
  clear hj
  go_enter Tryz.func135,Tryz.ntmps135
  go_wp2_with fail
  refine(Zex a _).mono ?_;intro e w1 hq;obtain⟨rfl,hb1⟩:=Zaet hq HJ.out
  have hba:=hb1.alloc hb1.size (.cells #[.int .i64 s,.int .i64 t,.int .i64 x] 46)
  have hT1:=h.tab.below hba
  go_wp2_with fail
  refine(Zb8 s t x _ hT1).mono ?_;rintro e w2 ⟨rfl,hb2⟩
  have hb12:=hba.trans (hb2.mono hba.size)
  go_wp2_with fail
  go_ret2
  exact Zbh rfl (h.rad.below hb12) (Zad hb12 _)
theorem Zuy {w:World} {b g c:Nat} {m:Mch} {a:ByteArray} (h:EnvW w b m) (hf:RdT w (some ⟨g,0,none⟩) 1 [a]) (hz:∀p∈[a],p.size≤20000):
 Calls Tryz.prog 135 #[.pointer (some ⟨b,0,none⟩),.string (⟨#[109,97,120,105,109,97,108]⟩:ByteArray),.slice (some ⟨g,0,none⟩) 1 c] w (RetM w b m ((numT a).bind fun n=>if mxtR n=[]then none else some (m,nmsT (mxtR n)))):=by
 have HZ:=Lib.hid (show ∀p∈[a],p.size≤1099511627776 from fun p hp=>Nat.le_trans (hz p hp) (by omega))
 clear hz
 rcases hn:numT a with _|x
 ·have HA:=Lib.hid (Zds hn)
  clear hn
  go_enter Tryz.func135,Tryz.ntmps135
  go_wp2_with fail
  refine(Zai hf HZ.out).mono ?_;intro e w1 hret;rw[HA.out]at hret;obtain⟨ao1,n1,c1,rfl,_,hb1⟩:=hret.none
  go_wp2_with fail
  go_ret2
  exact Za5 rfl (h.rad.below hb1) (Zad hb1 _)
 ·have HA:=Lib.hid (Zdr hn)
  clear hn
  have HK:=Lib.hid (Z4l x)
  by_cases he:mxtR x=[]
  ·have HR:=Lib.hid (show(some x).bind (fun n=>if mxtR n=[]then none else some (m,nmsT (mxtR n)))=none by show(if mxtR x=[]then none else some (m,nmsT (mxtR x)))=none;rw[if_pos he])
   have HE:=Lib.hid he
   clear he
   go_enter Tryz.func135,Tryz.ntmps135
   go_wp2_with fail
   refine(Zai hf HZ.out).mono ?_;intro e w1 hret;rw[HA.out]at hret;obtain⟨ao1,n1,c1,rfl,ho,hb1⟩:=hret.some
   obtain rfl:n1=1:=ho.1
   obtain⟨g1,rfl,hg1,hg1',hc1,hcl⟩:=Za9 ho (by omega)
   have e0:w1.cell? ⟨g1,0,none⟩=some (.int .i64 x):=hcl 0 (by simp)
   clear hcl ho hret
   have hT1:=h.tab.below hb1
   go_wp2_with fail
   refine(Zmm x _).mono ?_;rintro e w3 ⟨ao3,n3,c3,rfl,ho3,hb3⟩
   have hb13:=hb1.trans (hb3.mono hb1.size)
   have hT3:=hT1.below hb3
   have hR3:=ho3.rd
   obtain rfl:n3=0:=by rw[ho3.1,HE.out];rfl
   go_wp2_with fail
   refine(Zcx hR3 HK.out.2 (by omega) hT3).mono ?_;rintro e w4 ⟨rfl,hb4⟩
   have hb14:=hb13.trans (hb4.mono hb13.size)
   go_wp2_with fail
   go_ret2
   exact Za5 HR.out (h.rad.below hb14) (Zad hb14 _)
  ·have HR:=Lib.hid (show(some x).bind (fun n=>if mxtR n=[]then none else some (m,nmsT (mxtR n)))=some (m,nmsT (mxtR x))by show(if mxtR x=[]then none else some (m,nmsT (mxtR x)))=_;rw[if_neg he])
   have HE:=Lib.hid he
   clear he
   go_enter Tryz.func135,Tryz.ntmps135
   go_wp2_with fail
   refine(Zai hf HZ.out).mono ?_;intro e w1 hret;rw[HA.out]at hret;obtain⟨ao1,n1,c1,rfl,ho,hb1⟩:=hret.some
   obtain rfl:n1=1:=ho.1
   obtain⟨g1,rfl,hg1,hg1',hc1,hcl⟩:=Za9 ho (by omega)
   have e0:w1.cell? ⟨g1,0,none⟩=some (.int .i64 x):=hcl 0 (by simp)
   clear hcl ho hret
   have hT1:=h.tab.below hb1
   go_wp2_with fail
   refine(Zmm x _).mono ?_;rintro e w3 ⟨ao3,n3,c3,rfl,ho3,hb3⟩
   have hb13:=hb1.trans (hb3.mono hb1.size)
   have hT3:=hT1.below hb3
   have hR3:=ho3.rd
   have hz3:n3≤300:=by rw[ho3.1];exact HK.out.1
   have hp3:0<n3:=by rw[ho3.1];exact List.length_pos_iff.2 HE.out
   have hq3:(0:Int)<(n3:Int):=by omega
   go_wp2_with fail
   refine(Zcx hR3 HK.out.2 (by omega) hT3).mono ?_;rintro e w4 ⟨rfl,hb4⟩
   have hb14:=hb13.trans (hb4.mono hb13.size)
   go_wp2_with fail
   go_ret2
   exact Zbh HR.out (h.rad.below hb14) (Zad hb14 _)
def RetO (w:World) (r:Option ByteArray) (e:Ending) (w':World):Prop:=∃o,e= .returned (.tuple #[.string o,.bool r.isSome])∧(∀p,r=some p→p=o)∧Below w.heap.size w w'
theorem Zfo {w w':World} {r:Option ByteArray} {o:ByteArray} (hr:r=none) (hb:Below w.heap.size w w'):RetO w r (.returned (.tuple #[.string o,.bool false])) w':=by subst hr;exact⟨o,rfl,(fun p hp=>by cases hp),hb⟩
theorem Zjp {w w':World} {r:Option ByteArray} {o:ByteArray} (hr:r=some o) (hb:Below w.heap.size w w'):RetO w r (.returned (.tuple #[.string o,.bool true])) w':=by subst hr;exact⟨o,rfl,(fun p hp=>by cases hp;rfl),hb⟩
theorem RetO.m {w w':World} {b:Nat} {m:Mch} {r:Option ByteArray} {e:Ending} (h:RetO w r e w') (hr:RadW w b m):RetM w b m (m.say r) e w':=by
 obtain⟨o,rfl,h2,hb⟩:=h
 refine⟨o,?_,?_,?_,Zad hb _⟩
 ·unfold Mch.say;rw[Option.isSome_map]
 ·intro p hp
  unfold Mch.say at hp
  obtain⟨q,hq,rfl⟩:=Option.map_eq_some_iff.1 hp
  exact h2 _ hq
 ·unfold Mch.say
  cases r<;>exact hr.below hb
theorem c2_b {w w':World} {a b:Addr} {x y:Value} (hb:Below w.heap.size w w') (h:w.cell? a=some x∧w.cell? b=some y):w'.cell? a=some x∧w'.cell? b=some y:=
 ⟨(hb.cell (Zaa h.1)).trans h.1,(hb.cell (Zaa h.2)).trans h.2⟩
theorem c3_b {w w':World} {a b c:Addr} {x y z:Value} (hb:Below w.heap.size w w') (h:w.cell? a=some x∧w.cell? b=some y∧w.cell? c=some z):w'.cell? a=some x∧w'.cell? b=some y∧w'.cell? c=some z:=
 ⟨(hb.cell (Zaa h.1)).trans h.1,c2_b hb h.2⟩
theorem c4_b {w w':World} {a b c d:Addr} {x y z t:Value} (hb:Below w.heap.size w w') (h:w.cell? a=some x∧w.cell? b=some y∧w.cell? c=some z∧w.cell? d=some t):w'.cell? a=some x∧w'.cell? b=some y∧w'.cell? c=some z∧w'.cell? d=some t:=
 ⟨(hb.cell (Zaa h.1)).trans h.1,c3_b hb h.2⟩
theorem c5_b {w w':World} {a b c d e:Addr} {x y z t u:Value} (hb:Below w.heap.size w w') (h:w.cell? a=some x∧w.cell? b=some y∧w.cell? c=some z∧w.cell? d=some t∧w.cell? e=some u):w'.cell? a=some x∧w'.cell? b=some y∧w'.cell? c=some z∧w'.cell? d=some t∧w'.cell? e=some u:=
 ⟨(hb.cell (Zaa h.1)).trans h.1,c4_b hb h.2⟩
theorem Zc2 (w:World):Below w.heap.size w w.drew:=(Below.refl _ _).drew
theorem rd1 (w:World) (a:ByteArray):RdT (w.alloc (.cells #[.string a] 9)) (some ⟨w.heap.size,0,none⟩) 1 [a]:=Z9t w [a] 9 (by simp)
theorem Z0l (a b c d:ByteArray):(numT a=none∨numT b=none∨numT c=none∨numT d=none)∨∃x y z t,numT a=some x∧numT b=some y∧numT c=some z∧numT d=some t:=by
 rcases h:numT a with _|x
 ·exact .inl (.inl rfl)
 ·rcases h':numT b with _|y
  ·exact .inl (.inr (.inl rfl))
  ·rcases h2:numT c with _|z
   ·exact .inl (.inr (.inr (.inl rfl)))
   ·rcases h3:numT d with _|t
    ·exact .inl (.inr (.inr (.inr rfl)))
    ·exact .inr ⟨x,y,z,t,rfl,rfl,rfl,rfl⟩
theorem Z6b {a b c d:ByteArray} (h:numT a=none∨numT b=none∨numT c=none∨numT d=none):allO numT [a,b,c,d]=none:=by
 rcases h with h|h|h|h
 ·exact Zjx (k:=0) (by simp) h
 ·exact Zjx (k:=1) (by simp) h
 ·exact Zjx (k:=2) (by simp) h
 ·exact Zjx (k:=3) (by simp) h
theorem Z5r {a b c d:ByteArray} {x y z t:Int} (h:numT a=some x) (h':numT b=some y) (h2:numT c=some z) (h3:numT d=some t):allO numT [a,b,c,d]=some [x,y,z,t]:=by
 rw[Zpg (fun j hj=>by
  rcases(show j=0∨j=1∨j=2∨j=3 by simp at hj;omega)with rfl|rfl|rfl|rfl
  ·show(numT a).isSome=true
   rw[h];rfl
  ·show(numT b).isSome=true
   rw[h'];rfl
  ·show(numT c).isSome=true
   rw[h2];rfl
  ·show(numT d).isSome=true
   rw[h3];rfl)]
 simp[numZ,h,h',h2,h3]
theorem Zm5 {w:World} {ao:Option Addr} {n:Nat} {l:List Int} (h:Rd w ao n l) (hs:sigB l=true):n≤1000000:=by have:=Zhe hs;have:=h.1;omega
theorem Zx9 {w:World} {g c:Nat} {a a2 a3:ByteArray} (htab:TabW w) (hf:RdT w (some ⟨g,0,none⟩) 3 [a,a2,a3]) (hz:∀p∈[a,a2,a3],p.size≤20000):
 Calls Tryz.prog 136 #[.string (⟨#[99,114,111,115,115]⟩:ByteArray),.slice (some ⟨g,0,none⟩) 3 c] w (RetO w ((numT a3).bind fun n=>(crsR a a2 n).map decT)):=by
 have F0:w.cell? ⟨g,0,none⟩=some (.string a):=Zak hf (j:=0) (by simp)
 have F1:w.cell? ⟨g,1,none⟩=some (.string a2):=Zak hf (j:=1) (by simp)
 have F2:w.cell? ⟨g,2,none⟩=some (.string a3):=Zak hf (j:=2) (by simp)
 have HZ:=Lib.hid (show ∀p∈[a3],p.size≤1099511627776 from fun p hp=>Nat.le_trans (hz p (by simp at hp;simp[hp])) (by omega))
 have hbA:Below w.heap.size w (w.alloc (.cells #[.string a3] 9)):=(Below.refl _ _).alloc (Nat.le_refl _) _
 have hR1:=rd1 w a3
 clear hz
 rcases hn:numT a3 with _|x
 ·have HA:=Lib.hid (Zds hn)
  clear hn
  go_enter Tryz.func136,Tryz.ntmps136
  go_wp2_with fail
  refine(Zai hR1 HZ.out).mono ?_;intro e w1 hret;rw[HA.out]at hret;obtain⟨ao1,n1,c1,rfl,_,hb1⟩:=hret.none
  have hbB:=hbA.trans (hb1.mono hbA.size)
  go_wp2_with fail
  go_ret2
  exact Zfo rfl hbB
 ·have HA:=Lib.hid (Zdr hn)
  clear hn
  rcases hj:crsR a a2 x with _|v
  ·have HJ:=Lib.hid hj
   have HR:=Lib.hid (show(some x).bind (fun n=>(crsR a a2 n).map decT)=none by show(crsR a a2 x).map decT=none;rw[hj];rfl)
   clear hj
   go_enter Tryz.func136,Tryz.ntmps136
   go_wp2_with fail
   refine(Zai hR1 HZ.out).mono ?_;intro e w1 hret;rw[HA.out]at hret;obtain⟨ao1,n1,c1,rfl,ho,hb1⟩:=hret.some
   have hbB:=hbA.trans (hb1.mono hbA.size)
   obtain rfl:n1=1:=ho.1
   obtain⟨g1,rfl,hg1,hg1',hc1,hcl⟩:=Za9 ho (by omega)
   have e0:w1.cell? ⟨g1,0,none⟩=some (.int .i64 x):=hcl 0 (by simp)
   have C0:=(hbB.cell (Zaa F0)).trans F0
   have C1:=(hbB.cell (Zaa F1)).trans F1
   clear hcl ho hret F0 F1 F2 hbA hb1 hR1
   go_wp2_with fail
   have hbd:Below w.heap.size w w1.drew:=hbB.drew
   have hTd:=htab.below hbd
   have C:=c3_b (Zc2 _) ⟨C0,C1,e0⟩
   go_region_held3 (fun w'=>w'.cell? ⟨g,0,none⟩=some (.string a)∧w'.cell? ⟨g,1,none⟩=some (.string a2)∧w'.cell? ⟨g1,0,none⟩=some (.int .i64 x)) (first|with_reducible exact C) (first|(go_at_call 204;refine(Zx3 a a2 x _).mono ?_;rintro e w3 ⟨rfl,hb3⟩;rw[HJ.out];have C:=c3_b hb3 C;have hb13:=hbd.trans (hb3.mono hbd.size);have hT3:=hTd.below hb3))
   all_goals
    clear C
    go_wp2_with fail
    refine(Zob _ _ ⟨by decide,by decide⟩ hT3).mono ?_;rintro e w4 ⟨rfl,hb4⟩
    have hb14:=hb13.trans (hb4.mono hb13.size)
    go_wp2_with fail
    go_ret2
    exact Zfo HR.out hb14
  ·have HJ:=Lib.hid hj
   have hI:=Z1r hj
   have HR:=Lib.hid (show(some x).bind (fun n=>(crsR a a2 n).map decT)=some (decT v)by show(crsR a a2 x).map decT=_;rw[hj];rfl)
   clear hj
   go_enter Tryz.func136,Tryz.ntmps136
   go_wp2_with fail
   refine(Zai hR1 HZ.out).mono ?_;intro e w1 hret;rw[HA.out]at hret;obtain⟨ao1,n1,c1,rfl,ho,hb1⟩:=hret.some
   have hbB:=hbA.trans (hb1.mono hbA.size)
   obtain rfl:n1=1:=ho.1
   obtain⟨g1,rfl,hg1,hg1',hc1,hcl⟩:=Za9 ho (by omega)
   have e0:w1.cell? ⟨g1,0,none⟩=some (.int .i64 x):=hcl 0 (by simp)
   have C0:=(hbB.cell (Zaa F0)).trans F0
   have C1:=(hbB.cell (Zaa F1)).trans F1
   clear hcl ho hret F0 F1 F2 hbA hb1 hR1
   go_wp2_with fail
   have hbd:Below w.heap.size w w1.drew:=hbB.drew
   have hTd:=htab.below hbd
   have C:=c3_b (Zc2 _) ⟨C0,C1,e0⟩
   go_region_held3 (fun w'=>w'.cell? ⟨g,0,none⟩=some (.string a)∧w'.cell? ⟨g,1,none⟩=some (.string a2)∧w'.cell? ⟨g1,0,none⟩=some (.int .i64 x)) (first|with_reducible exact C) (first|(go_at_call 204;refine(Zx3 a a2 x _).mono ?_;rintro e w3 ⟨rfl,hb3⟩;rw[HJ.out];have C:=c3_b hb3 C;have hb13:=hbd.trans (hb3.mono hbd.size);have hT3:=hTd.below hb3))
   all_goals
    clear C
    go_wp2_with fail
    refine(Zob _ _ hI hT3).mono ?_;rintro e w4 ⟨rfl,hb4⟩
    have hb14:=hb13.trans (hb4.mono hb13.size)
    go_wp2_with fail
    go_ret2
    exact Zjp HR.out hb14
theorem Z09 {w:World} {g c:Nat} {a a2:ByteArray} (htab:TabW w) (hf:RdT w (some ⟨g,0,none⟩) 2 [a,a2]):
 Calls Tryz.prog 136 #[.string (⟨#[112,101,97,107]⟩:ByteArray),.slice (some ⟨g,0,none⟩) 2 c] w (RetO w (if Zhz a a2<0 then none else some (decT (Zhz a a2)))):=by
 have F0:w.cell? ⟨g,0,none⟩=some (.string a):=Zak hf (j:=0) (by simp)
 have F1:w.cell? ⟨g,1,none⟩=some (.string a2):=Zak hf (j:=1) (by simp)
 have hI:=Z3s a a2
 have hbd:Below w.heap.size w w.drew:=(Below.refl _ _).drew
 have hTd:=htab.below hbd
 obtain⟨v,hv⟩:∃v,Zhz a a2=v:=⟨_,rfl⟩
 rw[hv]at hI ⊢
 have HV:=Lib.hid hv
 clear hv
 by_cases h0:v<0
 ·have HR:=Lib.hid (show(if v<0 then none else some (decT v))=none from if_pos h0)
  have hd0:decide (0≤v)=false:=decide_eq_false (by omega)
  rw[HR.out]
  clear h0
  go_enter Tryz.func136,Tryz.ntmps136
  go_wp2_with fail
  have C:=c2_b (Zc2 _) ⟨F0,F1⟩
  go_region_held3 (fun w'=>w'.cell? ⟨g,0,none⟩=some (.string a)∧w'.cell? ⟨g,1,none⟩=some (.string a2)) (first|with_reducible exact C) (first|(go_at_call 205;refine(Z3i a a2 _).mono ?_;rintro e w3 ⟨rfl,hb3⟩;rw[HV.out];have C:=c2_b hb3 C;have hb13:=hbd.trans (hb3.mono hbd.size);have hT3:=hTd.below hb3))
  all_goals
   clear C
   go_wp2_with fail
   refine(Zob _ _ hI hT3).mono ?_;rintro e w4 ⟨rfl,hb4⟩
   have hb14:=hb13.trans (hb4.mono hb13.size)
   go_wp2_with fail
   go_ret2
   exact Zfo rfl hb14
 ·have HR:=Lib.hid (show(if v<0 then none else some (decT v))=some (decT v)from if_neg h0)
  have hd0:decide (0≤v)=true:=decide_eq_true (by omega)
  rw[HR.out]
  clear h0
  go_enter Tryz.func136,Tryz.ntmps136
  go_wp2_with fail
  have C:=c2_b (Zc2 _) ⟨F0,F1⟩
  go_region_held3 (fun w'=>w'.cell? ⟨g,0,none⟩=some (.string a)∧w'.cell? ⟨g,1,none⟩=some (.string a2)) (first|with_reducible exact C) (first|(go_at_call 205;refine(Z3i a a2 _).mono ?_;rintro e w3 ⟨rfl,hb3⟩;rw[HV.out];have C:=c2_b hb3 C;have hb13:=hbd.trans (hb3.mono hbd.size);have hT3:=hTd.below hb3))
  all_goals
   clear C
   go_wp2_with fail
   refine(Zob _ _ hI hT3).mono ?_;rintro e w4 ⟨rfl,hb4⟩
   have hb14:=hb13.trans (hb4.mono hb13.size)
   go_wp2_with fail
   go_ret2
   exact Zjp rfl hb14
theorem Z1o {w:World} {g c:Nat} {a:ByteArray} (hf:RdT w (some ⟨g,0,none⟩) 1 [a]):
 Calls Tryz.prog 136 #[.string (⟨#[116,114,101,101]⟩:ByteArray),.slice (some ⟨g,0,none⟩) 1 c] w (RetO w (treR (Zar a))):=by
 have F0:w.cell? ⟨g,0,none⟩=some (.string a):=Zak hf (j:=0) (by simp)
 rcases hj:treR (Zar a)with _|s
 ·have HJ:=Lib.hid hj
  clear hj
  go_enter Tryz.func136,Tryz.ntmps136
  go_wp2_with fail
  refine(Zci a _).mono ?_;rintro e w1 ⟨rfl,rfl⟩
  go_wp2_with fail
  refine(Zoc _ _).mono ?_;intro e w3 hq;obtain⟨rfl,hb3⟩:=Zgf hq HJ.out
  go_wp2_with fail
  go_ret2
  exact Zfo rfl hb3
 ·have HJ:=Lib.hid hj
  clear hj
  go_enter Tryz.func136,Tryz.ntmps136
  go_wp2_with fail
  refine(Zci a _).mono ?_;rintro e w1 ⟨rfl,rfl⟩
  go_wp2_with fail
  refine(Zoc _ _).mono ?_;intro e w3 hq;obtain⟨rfl,hb3⟩:=Ze1 hq HJ.out
  go_wp2_with fail
  go_ret2
  exact Zjp rfl hb3
theorem Z0v {w:World} {g c:Nat} {a a2 a3 a4:ByteArray} (hf:RdT w (some ⟨g,0,none⟩) 4 [a,a2,a3,a4]) (hz:∀p∈[a,a2,a3,a4],p.size≤20000):
 Calls Tryz.prog 136 #[.string (⟨#[103,111,108,100]⟩:ByteArray),.slice (some ⟨g,0,none⟩) 4 c] w (RetO w ((numT a).bind fun p=>(numT a2).bind fun q=>(numT a3).bind fun r=>(numT a4).bind fun s=>Zgo p q r s)):=by
 have HZ:=Lib.hid (show ∀p∈[a,a2,a3,a4],p.size≤1099511627776 from fun p hp=>Nat.le_trans (hz p hp) (by omega))
 clear hz
 rcases Z0l a a2 a3 a4 with hn|⟨x,y,z,t,hn,hn2,hn3,hn4⟩
 ·have HA:=Lib.hid (Z6b hn)
  have HR:=Lib.hid (show((numT a).bind fun p=>(numT a2).bind fun q=>(numT a3).bind fun r=>(numT a4).bind fun s=>Zgo p q r s)=none by
   rcases hn with e|e|e|e
   ·rw[e];rfl
   ·rw[e];cases numT a<;>rfl
   ·rw[e];cases numT a<;>cases numT a2<;>rfl
   ·rw[e];cases numT a<;>cases numT a2<;>cases numT a3<;>rfl)
  clear hn
  go_enter Tryz.func136,Tryz.ntmps136
  go_wp2_with fail
  refine(Zai hf HZ.out).mono ?_;intro e w1 hret;rw[HA.out]at hret;obtain⟨ao1,n1,c1,rfl,_,hb1⟩:=hret.none
  go_wp2_with fail
  go_ret2
  exact Zfo HR.out hb1
 ·have HA:=Lib.hid (Z5r hn hn2 hn3 hn4)
  have HR:=Lib.hid (show((numT a).bind fun p=>(numT a2).bind fun q=>(numT a3).bind fun r=>(numT a4).bind fun s=>Zgo p q r s)=Zgo x y z t by rw[hn,hn2,hn3,hn4];rfl)
  rw[HR.out]
  clear hn hn2 hn3 hn4 HR
  rcases hj:Zgo x y z t with _|s
  ·have HJ:=Lib.hid hj
   clear hj
   go_enter Tryz.func136,Tryz.ntmps136
   go_wp2_with fail
   refine(Zai hf HZ.out).mono ?_;intro e w1 hret;rw[HA.out]at hret;obtain⟨ao1,n1,c1,rfl,ho,hb1⟩:=hret.some
   obtain rfl:n1=4:=ho.1
   obtain⟨g1,rfl,hg1,hg1',hc1,hcl⟩:=Za9 ho (by omega)
   have e0:w1.cell? ⟨g1,0,none⟩=some (.int .i64 x):=hcl 0 (by simp)
   have e1:w1.cell? ⟨g1,1,none⟩=some (.int .i64 y):=hcl 1 (by simp)
   have e2:w1.cell? ⟨g1,2,none⟩=some (.int .i64 z):=hcl 2 (by simp)
   have e3:w1.cell? ⟨g1,3,none⟩=some (.int .i64 t):=hcl 3 (by simp)
   clear hcl ho hret
   go_wp2_with fail
   have hbd:Below w.heap.size w w1.drew:=hb1.drew
   have C:=c4_b (Zc2 _) ⟨e0,e1,e2,e3⟩
   go_region_held3 (fun w'=>w'.cell? ⟨g1,0,none⟩=some (.int .i64 x)∧w'.cell? ⟨g1,1,none⟩=some (.int .i64 y)∧w'.cell? ⟨g1,2,none⟩=some (.int .i64 z)∧w'.cell? ⟨g1,3,none⟩=some (.int .i64 t)) (first|with_reducible exact C) (first|(go_at_call 207;refine(Zth x y z t _).mono ?_;intro e w3 hq;obtain⟨rfl,hb3⟩:=Zgf hq HJ.out;have C:=c4_b hb3 C;have hb13:=hbd.trans (hb3.mono hbd.size)))
   all_goals
    go_wp2_with fail
    go_ret2
    exact Zfo rfl hb13
  ·have HJ:=Lib.hid hj
   clear hj
   go_enter Tryz.func136,Tryz.ntmps136
   go_wp2_with fail
   refine(Zai hf HZ.out).mono ?_;intro e w1 hret;rw[HA.out]at hret;obtain⟨ao1,n1,c1,rfl,ho,hb1⟩:=hret.some
   obtain rfl:n1=4:=ho.1
   obtain⟨g1,rfl,hg1,hg1',hc1,hcl⟩:=Za9 ho (by omega)
   have e0:w1.cell? ⟨g1,0,none⟩=some (.int .i64 x):=hcl 0 (by simp)
   have e1:w1.cell? ⟨g1,1,none⟩=some (.int .i64 y):=hcl 1 (by simp)
   have e2:w1.cell? ⟨g1,2,none⟩=some (.int .i64 z):=hcl 2 (by simp)
   have e3:w1.cell? ⟨g1,3,none⟩=some (.int .i64 t):=hcl 3 (by simp)
   clear hcl ho hret
   go_wp2_with fail
   have hbd:Below w.heap.size w w1.drew:=hb1.drew
   have C:=c4_b (Zc2 _) ⟨e0,e1,e2,e3⟩
   go_region_held3 (fun w'=>w'.cell? ⟨g1,0,none⟩=some (.int .i64 x)∧w'.cell? ⟨g1,1,none⟩=some (.int .i64 y)∧w'.cell? ⟨g1,2,none⟩=some (.int .i64 z)∧w'.cell? ⟨g1,3,none⟩=some (.int .i64 t)) (first|with_reducible exact C) (first|(go_at_call 207;refine(Zth x y z t _).mono ?_;intro e w3 hq;obtain⟨rfl,hb3⟩:=Ze1 hq HJ.out;have C:=c4_b hb3 C;have hb13:=hbd.trans (hb3.mono hbd.size)))
   all_goals
    go_wp2_with fail
    go_ret2
    exact Zjp rfl hb13
theorem Zy7 {w:World} {g c:Nat} {a a2:ByteArray} (hf:RdT w (some ⟨g,0,none⟩) 2 [a,a2]) (hz:∀p∈[a,a2],p.size≤20000):
 Calls Tryz.prog 136 #[.string (⟨#[119,97,108,115,104]⟩:ByteArray),.slice (some ⟨g,0,none⟩) 2 c] w (RetO w ((numT a).bind fun p=>(numT a2).bind fun q=>walR p q)):=by
 have HZ:=Lib.hid (show ∀p∈[a,a2],p.size≤1099511627776 from fun p hp=>Nat.le_trans (hz p hp) (by omega))
 clear hz
 rcases Ziu a a2 with hn|⟨x,y,hn,hn2⟩
 ·have HA:=Lib.hid (Zky hn)
  have HR:=Lib.hid (show((numT a).bind fun p=>(numT a2).bind fun q=>walR p q)=none by
   rcases hn with e|e
   ·rw[e];rfl
   ·rw[e];cases numT a<;>rfl)
  clear hn
  go_enter Tryz.func136,Tryz.ntmps136
  go_wp2_with fail
  refine(Zai hf HZ.out).mono ?_;intro e w1 hret;rw[HA.out]at hret;obtain⟨ao1,n1,c1,rfl,_,hb1⟩:=hret.none
  go_wp2_with fail
  go_ret2
  exact Zfo HR.out hb1
 ·have HA:=Lib.hid (Zkh hn hn2)
  have HR:=Lib.hid (show((numT a).bind fun p=>(numT a2).bind fun q=>walR p q)=walR x y by rw[hn,hn2];rfl)
  rw[HR.out]
  clear hn hn2 HR
  rcases hj:walR x y with _|s
  ·have HJ:=Lib.hid hj
   clear hj
   go_enter Tryz.func136,Tryz.ntmps136
   go_wp2_with fail
   refine(Zai hf HZ.out).mono ?_;intro e w1 hret;rw[HA.out]at hret;obtain⟨ao1,n1,c1,rfl,ho,hb1⟩:=hret.some
   obtain rfl:n1=2:=ho.1
   obtain⟨g1,rfl,hg1,hg1',hc1,hcl⟩:=Za9 ho (by omega)
   have e0:w1.cell? ⟨g1,0,none⟩=some (.int .i64 x):=hcl 0 (by simp)
   have e1:w1.cell? ⟨g1,1,none⟩=some (.int .i64 y):=hcl 1 (by simp)
   clear hcl ho hret
   go_wp2_with fail
   have hbd:Below w.heap.size w w1.drew:=hb1.drew
   have C:=c2_b (Zc2 _) ⟨e0,e1⟩
   go_region_held3 (fun w'=>w'.cell? ⟨g1,0,none⟩=some (.int .i64 x)∧w'.cell? ⟨g1,1,none⟩=some (.int .i64 y)) (first|with_reducible exact C) (first|(go_at_call 208;refine(Zp5 x y _).mono ?_;intro e w3 hq;obtain⟨rfl,hb3⟩:=Zgf hq HJ.out;have C:=c2_b hb3 C;have hb13:=hbd.trans (hb3.mono hbd.size)))
   all_goals
    go_wp2_with fail
    go_ret2
    exact Zfo rfl hb13
  ·have HJ:=Lib.hid hj
   clear hj
   go_enter Tryz.func136,Tryz.ntmps136
   go_wp2_with fail
   refine(Zai hf HZ.out).mono ?_;intro e w1 hret;rw[HA.out]at hret;obtain⟨ao1,n1,c1,rfl,ho,hb1⟩:=hret.some
   obtain rfl:n1=2:=ho.1
   obtain⟨g1,rfl,hg1,hg1',hc1,hcl⟩:=Za9 ho (by omega)
   have e0:w1.cell? ⟨g1,0,none⟩=some (.int .i64 x):=hcl 0 (by simp)
   have e1:w1.cell? ⟨g1,1,none⟩=some (.int .i64 y):=hcl 1 (by simp)
   clear hcl ho hret
   go_wp2_with fail
   have hbd:Below w.heap.size w w1.drew:=hb1.drew
   have C:=c2_b (Zc2 _) ⟨e0,e1⟩
   go_region_held3 (fun w'=>w'.cell? ⟨g1,0,none⟩=some (.int .i64 x)∧w'.cell? ⟨g1,1,none⟩=some (.int .i64 y)) (first|with_reducible exact C) (first|(go_at_call 208;refine(Zp5 x y _).mono ?_;intro e w3 hq;obtain⟨rfl,hb3⟩:=Ze1 hq HJ.out;have C:=c2_b hb3 C;have hb13:=hbd.trans (hb3.mono hbd.size)))
   all_goals
    go_wp2_with fail
    go_ret2
    exact Zjp rfl hb13
end Go.Proofs.YtcjihfongfefoaaGreatDoor
