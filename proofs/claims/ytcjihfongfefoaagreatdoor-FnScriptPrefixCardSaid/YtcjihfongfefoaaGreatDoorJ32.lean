/- Yi -/
import Derived.Test.YtcjihfongfefoaaGreatDoorJ30
import Derived.Test.YtcjihfongfefoaaGreatDoorShlf
namespace Go.Proofs.YtcjihfongfefoaaGreatDoor
open Go.RowKit
set_option maxHeartbeats 25600000
set_option maxRecDepth 100000
theorem Z6s {w:World} {b g c:Nat} {m:Mch} (h:EnvW w b m):Calls Tryz.prog 139 #[.pointer (some ⟨b,0,none⟩),.string (⟨#[99,101,108,108]⟩:ByteArray),.slice (some ⟨g,0,none⟩) 0 c] w (RetM w b m (some (m,fmtT m.C))):=by
 obtain⟨ao,n,c',bo,k,d,hP⟩:=h.rad
 have d3:=hP.cel
 have hT:=h.tab
 have hR:=hP.2.1
 have hcap:=hP.2.2.1
 go_enter Tryz.func139,Tryz.ntmps139
 go_wp2_with fail
 refine(Zoq hR hcap hT).mono ?_;rintro e w2 ⟨rfl,hb2⟩
 go_wp2_with fail
 go_ret2
 exact Zbh rfl (hP.below hb2).w (Zad hb2 _)
theorem Z9r {w:World} {b g n c:Nat} {m:Mch} {fs:List ByteArray} (h:EnvW w b m) (hf:RdT w (some ⟨g,0,none⟩) n fs) (hc:n≤c) (hn:n≤20001) (h0:0<n) (hz:∀p∈fs,p.size≤20000):
 Calls Tryz.prog 139 #[.pointer (some ⟨b,0,none⟩),.string (⟨#[99,101,108,108]⟩:ByteArray),.slice (some ⟨g,0,none⟩) n c] w (RetM w b m ((parT (Zbi 32 fs)).map fun l=>(m.setC l,sokT))):=by
 have hjz:(Zbi 32 fs).size≤1000000000:=by
  have h1:=Zgc (c:=32) hz
  have h2:fs.length*20001≤20001*20001:=Nat.mul_le_mul_right _ (by have:=hf.1;omega)
  omega
 have HJ:=Lib.hid (Zab0 32 hf hc (by omega) hz)
 have hne:((n:Int)==0)=false:=by rw[beq_eq_false_iff_ne];omega
 have hne':(n==0)=false:=by rw[beq_eq_false_iff_ne];omega
 generalize Zbi 32 fs=J at*
 rcases hp:parT J with _|l
 ·have HP:=Lib.hid hp
  clear hp
  go_enter Tryz.func139,Tryz.ntmps139
  go_wp2_with fail
  refine HJ.out.mono ?_;rintro e w1 ⟨rfl,hb1⟩
  have h1:=h.below hb1
  go_wp2_with fail
  refine(Zr3 J _ h1.mx hjz).mono ?_;intro e w2 hq;obtain⟨ao2,n2,c2,rfl,hb2⟩:=Zpe hq HP.out
  have hb12:=hb1.trans (hb2.mono hb1.size)
  go_wp2_with fail
  refine setCell_n.mono ?_;rintro e w3 ⟨rfl,hb3⟩
  have hb13:=hb12.trans (hb3.mono hb12.size)
  go_wp2_with fail
  go_ret2
  exact Za5 rfl (h.rad.below hb13) (Zad hb13 _)
 ·have HP:=Lib.hid hp
  clear hp
  go_enter Tryz.func139,Tryz.ntmps139
  go_wp2_with fail
  refine HJ.out.mono ?_;rintro e w1 ⟨rfl,hb1⟩
  have h1:=h.below hb1
  go_wp2_with fail
  refine(Zr3 J _ h1.mx hjz).mono ?_;intro e w2 hq;obtain⟨ao2,n2,c2,rfl,ho2,hb2⟩:=Zm9 hq HP.out
  have h2:=h1.below hb2
  have hb12:=hb1.trans (hb2.mono hb1.size)
  have hR2:=ho2.rd
  have hc2:=ho2.cap'.1
  have hne2:=Zu1 ho2
  go_wp2_with fail
  refine(Zmy h2.rad hR2 hc2 hne2 h2.tab h2.gb).mono ?_;rintro e w3 ⟨rfl,hr3,hg3⟩
  go_wp2_with fail
  go_ret2
  exact Zbh rfl hr3 (Zel (Zad hb12 _) hg3)
theorem Zvq {w:World} {b g c:Nat} {m:Mch} {a:ByteArray} (h:EnvW w b m) (hf:RdT w (some ⟨g,0,none⟩) 1 [a]):
 Calls Tryz.prog 139 #[.pointer (some ⟨b,0,none⟩),.string (⟨#[114,101,108,101,97,115,101]⟩:ByteArray),.slice (some ⟨g,0,none⟩) 1 c] w (RetM w b m (m.toC (relR m.C a))):=by
 have F0:w.cell? ⟨g,0,none⟩=some (.string a):=Zak hf (j:=0) (by simp)
 have hbd:Below w.heap.size w w.drew:=Zc2 w
 have hd:=h.below hbd
 obtain⟨ao,n,c',bo,k,d,hP⟩:=h.rad
 have d3:=hP.cel
 have hRS:=hP.2.1.below (Zc2 w)
 have hcap:=hP.2.2.1
 clear hP
 rcases hj:relR m.C a with _|l
 ·have HJ:=Lib.hid hj
  clear hj
  go_enter Tryz.func139,Tryz.ntmps139
  go_wp2_with fail
  go_region_with (first|(go_at_call 19;refine(Zi3 a hRS hcap).mono ?_;intro e w3 hq;obtain⟨ao3,n3,c3,rfl,hb3⟩:=Zpe hq HJ.out;have hb13:=hbd.trans (hb3.mono hbd.size))|(go_at_call 212;refine setCell_n.mono ?_;rintro e w4 ⟨rfl,hb4⟩;have hb14:=hb13.trans (hb4.mono hb13.size)))
  all_goals
   go_wp2_with fail
   go_ret2
   exact Za5 rfl (h.rad.below hb14) (Zad hb14 _)
 ·have HJ:=Lib.hid hj
  clear hj
  go_enter Tryz.func139,Tryz.ntmps139
  go_wp2_with fail
  go_region_with (first|(go_at_call 19;refine(Zi3 a hRS hcap).mono ?_;intro e w3 hq;obtain⟨ao3,n3,c3,rfl,ho3,hb3⟩:=Zm9 hq HJ.out;have hb13:=hbd.trans (hb3.mono hbd.size);have h3:=hd.below hb3;have hR3:=ho3.rd;have hc3:=ho3.cap'.1;have hne3:=Zu1 ho3)|(go_at_call 212;refine(Zmy h3.rad hR3 hc3 hne3 h3.tab h3.gb).mono ?_;rintro e w4 ⟨rfl,hr4,hg4⟩))
  all_goals
   go_wp2_with fail
   go_ret2
   exact Zbh rfl hr4 (Zel (Zad hb13 _) hg4)
theorem Zzr {w:World} {b g c:Nat} {m:Mch} {a:ByteArray} (h:EnvW w b m) (hf:RdT w (some ⟨g,0,none⟩) 1 [a]) (hz:∀p∈[a],p.size≤20000):
 Calls Tryz.prog 139 #[.pointer (some ⟨b,0,none⟩),.string (⟨#[112,111,119,101,114]⟩:ByteArray),.slice (some ⟨g,0,none⟩) 1 c] w (RetM w b m ((numT a).bind fun t=>m.toC (Zfq m.C t))):=by
 have F0:w.cell? ⟨g,0,none⟩=some (.string a):=Zak hf (j:=0) (by simp)
 have HZ:=Lib.hid (show ∀p∈[a],p.size≤1099511627776 from fun p hp=>Nat.le_trans (hz p hp) (by omega))
 have hbA:Below w.heap.size w (w.alloc (.cells #[.string a] 9)):=(Below.refl _ _).alloc (Nat.le_refl _) _
 have hR1:=rd1 w a
 clear hz
 rcases hn:numT a with _|x
 ·have HA:=Lib.hid (Zds hn)
  clear hn
  go_enter Tryz.func139,Tryz.ntmps139
  go_wp2_with fail
  refine(Zai hR1 HZ.out).mono ?_;intro e w1 hret;rw[HA.out]at hret;obtain⟨ao1,n1,c1,rfl,_,hb1⟩:=hret.none
  have hbB:=hbA.trans (hb1.mono hbA.size)
  go_wp2_with fail
  go_ret2
  exact Za5 rfl (h.rad.below hbB) (Zad hbB _)
 ·have HA:=Lib.hid (Zdr hn)
  clear hn
  rcases hj:Zfq m.C x with _|l
  ·have HJ:=Lib.hid hj
   have HR:=Lib.hid (show(some x).bind (fun t=>m.toC (Zfq m.C t))=none by show m.toC (Zfq m.C x)=none;rw[hj];rfl)
   clear hj
   go_enter Tryz.func139,Tryz.ntmps139
   go_wp2_with fail
   refine(Zai hR1 HZ.out).mono ?_;intro e w1 hret;rw[HA.out]at hret;obtain⟨ao1,n1,c1,rfl,ho,hb1⟩:=hret.some
   have hbB:=hbA.trans (hb1.mono hbA.size)
   obtain rfl:n1=1:=ho.1
   obtain⟨g1,rfl,hg1,hg1',hc1,hcl⟩:=Za9 ho (by omega)
   have e0:w1.cell? ⟨g1,0,none⟩=some (.int .i64 x):=hcl 0 (by simp)
   have hbd:Below w.heap.size w w1.drew:=hbB.drew
   obtain⟨ao,n,c',bo,k,d,hP⟩:=(h.below hbB).rad
   have d3:=hP.cel
   have hRS:=hP.2.1.below (Zc2 w1)
   have hcap:=hP.2.2.1
   clear hcl ho hret F0 hbA hb1 hR1 hP
   go_wp2_with fail
   go_region_with (first|(go_at_call 18;refine(Zqj x hRS hcap).mono ?_;intro e w3 hq;obtain⟨ao3,n3,c3,rfl,hb3⟩:=Zpe hq HJ.out;have hb13:=hbd.trans (hb3.mono hbd.size))|(go_at_call 212;refine setCell_n.mono ?_;rintro e w4 ⟨rfl,hb4⟩;have hb14:=hb13.trans (hb4.mono hb13.size)))
   all_goals
    go_wp2_with fail
    go_ret2
    exact Za5 HR.out (h.rad.below hb14) (Zad hb14 _)
  ·have HJ:=Lib.hid hj
   have HR:=Lib.hid (show(some x).bind (fun t=>m.toC (Zfq m.C t))=some (m.setC l,fmtT l)by show m.toC (Zfq m.C x)=_;rw[hj];rfl)
   clear hj
   go_enter Tryz.func139,Tryz.ntmps139
   go_wp2_with fail
   refine(Zai hR1 HZ.out).mono ?_;intro e w1 hret;rw[HA.out]at hret;obtain⟨ao1,n1,c1,rfl,ho,hb1⟩:=hret.some
   have hbB:=hbA.trans (hb1.mono hbA.size)
   obtain rfl:n1=1:=ho.1
   obtain⟨g1,rfl,hg1,hg1',hc1,hcl⟩:=Za9 ho (by omega)
   have e0:w1.cell? ⟨g1,0,none⟩=some (.int .i64 x):=hcl 0 (by simp)
   have hbd:Below w.heap.size w w1.drew:=hbB.drew
   have hd:=h.below hbd
   obtain⟨ao,n,c',bo,k,d,hP⟩:=(h.below hbB).rad
   have d3:=hP.cel
   have hRS:=hP.2.1.below (Zc2 w1)
   have hcap:=hP.2.2.1
   clear hcl ho hret F0 hbA hb1 hR1 hP
   go_wp2_with fail
   go_region_with (first|(go_at_call 18;refine(Zqj x hRS hcap).mono ?_;intro e w3 hq;obtain⟨ao3,n3,c3,rfl,ho3,hb3⟩:=Zm9 hq HJ.out;have hb13:=hbd.trans (hb3.mono hbd.size);have h3:=hd.below hb3;have hR3:=ho3.rd;have hc3:=ho3.cap'.1;have hne3:=Zu1 ho3)|(go_at_call 212;refine(Zmy h3.rad hR3 hc3 hne3 h3.tab h3.gb).mono ?_;rintro e w4 ⟨rfl,hr4,hg4⟩))
   all_goals
    go_wp2_with fail
    go_ret2
    exact Zbh HR.out hr4 (Zel (Zad hb13 _) hg4)
theorem Z57 {w:World} {b g c:Nat} {m:Mch} {a a2:ByteArray} (h:EnvW w b m) (hf:RdT w (some ⟨g,0,none⟩) 2 [a,a2]) (hc:2≤c) (hz:∀p∈[a,a2],p.size≤20000):
 Calls Tryz.prog 139 #[.pointer (some ⟨b,0,none⟩),.string (⟨#[104,101,97,114]⟩:ByteArray),.slice (some ⟨g,0,none⟩) 2 c] w (RetM w b m ((numT a2).bind fun n=>m.say ((crcR m.C m.S a n).map Zaf))):=by
 have F0:w.cell? ⟨g,0,none⟩=some (.string a):=Zak hf (j:=0) (by simp)
 have HZ:=Lib.hid (show ∀p∈[a2],p.size≤1099511627776 from fun p hp=>Nat.le_trans (hz p (by simp at hp;simp[hp])) (by omega))
 have hR1:RdT w (some ⟨g,1,none⟩) 1 [a2]:=by have:=RdF.drop hf (k:=1) (by omega);rwa [Nat.zero_add]at this
 clear hz
 rcases hn:numT a2 with _|x
 ·have HA:=Lib.hid (Zds hn)
  clear hn
  go_enter Tryz.func139,Tryz.ntmps139
  go_wp2_with fail
  refine(Zai hR1 HZ.out).mono ?_;intro e w1 hret;rw[HA.out]at hret;obtain⟨ao1,n1,c1,rfl,_,hb1⟩:=hret.none
  go_wp2_with fail
  go_ret2
  exact Za5 rfl (h.rad.below hb1) (Zad hb1 _)
 ·have HA:=Lib.hid (Zdr hn)
  clear hn
  rcases hj:crcR m.C m.S a x with _|s
  ·have HJ:=Lib.hid hj
   have HR:=Lib.hid (show(some x).bind (fun n=>m.say ((crcR m.C m.S a n).map Zaf))=none by show m.say ((crcR m.C m.S a x).map Zaf)=none;rw[hj];rfl)
   clear hj
   go_enter Tryz.func139,Tryz.ntmps139
   go_wp2_with fail
   refine(Zai hR1 HZ.out).mono ?_;intro e w1 hret;rw[HA.out]at hret;obtain⟨ao1,n1,c1,rfl,ho,hb1⟩:=hret.some
   obtain rfl:n1=1:=ho.1
   obtain⟨g1,rfl,hg1,hg1',hc1,hcl⟩:=Za9 ho (by omega)
   have e0:w1.cell? ⟨g1,0,none⟩=some (.int .i64 x):=hcl 0 (by simp)
   have C0:=(hb1.cell (Zaa F0)).trans F0
   have hbd:Below w.heap.size w w1.drew:=hb1.drew
   obtain⟨ao,n,c',bo,k,d,hP⟩:=(h.below hb1).rad
   have C:=c4_b (Zc2 _) ⟨hP.cel,hP.sig,C0,e0⟩
   have hRC:=hP.2.1.below (Zc2 w1)
   have hcap:=hP.2.2.1
   have hRS:=hP.2.2.2.1.below (Zc2 w1)
   clear hcl ho hret F0 hR1 hP C0 e0
   go_wp2_with fail
   go_region_held3 (fun w'=>w'.cell? ⟨b,3,none⟩=some (.slice ao n c')∧w'.cell? ⟨b,4,none⟩=some (.slice bo k d)∧w'.cell? ⟨g,0,none⟩=some (.string a)∧w'.cell? ⟨g1,0,none⟩=some (.int .i64 x)) (first|with_reducible exact C) (first|(go_at_call 16;refine(Zl0 a x hRC hcap hRS).mono ?_;intro e w3 hq;obtain⟨rfl,hb3⟩:=Zgf hq HJ.out;have C:=c4_b hb3 C;have hb13:=hbd.trans (hb3.mono hbd.size)))
   all_goals
    clear C
    go_wp2_with fail
    refine(Zcg _ _).mono ?_;rintro e w' ⟨rfl,rfl⟩
    go_wp2_with fail
    go_ret2
    exact Za5 HR.out (h.rad.below hb13) (Zad hb13 _)
  ·have HJ:=Lib.hid hj
   have HR:=Lib.hid (show(some x).bind (fun n=>m.say ((crcR m.C m.S a n).map Zaf))=some (m,Zaf s)by show m.say ((crcR m.C m.S a x).map Zaf)=_;rw[hj];rfl)
   clear hj
   go_enter Tryz.func139,Tryz.ntmps139
   go_wp2_with fail
   refine(Zai hR1 HZ.out).mono ?_;intro e w1 hret;rw[HA.out]at hret;obtain⟨ao1,n1,c1,rfl,ho,hb1⟩:=hret.some
   obtain rfl:n1=1:=ho.1
   obtain⟨g1,rfl,hg1,hg1',hc1,hcl⟩:=Za9 ho (by omega)
   have e0:w1.cell? ⟨g1,0,none⟩=some (.int .i64 x):=hcl 0 (by simp)
   have C0:=(hb1.cell (Zaa F0)).trans F0
   have hbd:Below w.heap.size w w1.drew:=hb1.drew
   obtain⟨ao,n,c',bo,k,d,hP⟩:=(h.below hb1).rad
   have C:=c4_b (Zc2 _) ⟨hP.cel,hP.sig,C0,e0⟩
   have hRC:=hP.2.1.below (Zc2 w1)
   have hcap:=hP.2.2.1
   have hRS:=hP.2.2.2.1.below (Zc2 w1)
   clear hcl ho hret F0 hR1 hP C0 e0
   go_wp2_with fail
   go_region_held3 (fun w'=>w'.cell? ⟨b,3,none⟩=some (.slice ao n c')∧w'.cell? ⟨b,4,none⟩=some (.slice bo k d)∧w'.cell? ⟨g,0,none⟩=some (.string a)∧w'.cell? ⟨g1,0,none⟩=some (.int .i64 x)) (first|with_reducible exact C) (first|(go_at_call 16;refine(Zl0 a x hRC hcap hRS).mono ?_;intro e w3 hq;obtain⟨rfl,hb3⟩:=Ze1 hq HJ.out;have C:=c4_b hb3 C;have hb13:=hbd.trans (hb3.mono hbd.size)))
   all_goals
    clear C
    go_wp2_with fail
    refine(Zcg _ _).mono ?_;rintro e w' ⟨rfl,rfl⟩
    go_wp2_with fail
    go_ret2
    exact Zbh HR.out (h.rad.below hb13) (Zad hb13 _)
theorem RadP.zero {w:World} {b:Nat} {m:Mch} {ao bo:Option Addr} {n c k d:Nat} (h:RadP w b m ao n c bo k d):
 RadP (((((w.setCell ⟨b,0,none⟩ (.int .i64 3)).setCell ⟨b,1,none⟩ (.int .i64 3)).setCell ⟨b,2,none⟩ (.int .i64 1)).setCell ⟨b,3,none⟩ (.slice none 0 0)).setCell ⟨b,4,none⟩ (.slice none 0 0)) b mch0 none 0 0 none 0 0:=
 ⟨((((h.1.set2 0 (.int .i64 3)).set2 1 (.int .i64 3)).set2 2 (.int .i64 1)).set2 3 (.slice none 0 0)).set2 4 (.slice none 0 0),RdS.nil _,Nat.le_refl _,Rd.nil _,Tg.none _ _,Tg.none _ _⟩
theorem Zajk (w:World) (b:Nat) (x y z t u:Value):w.grownBy (((((w.setCell ⟨b,0,none⟩ x).setCell ⟨b,1,none⟩ y).setCell ⟨b,2,none⟩ z).setCell ⟨b,3,none⟩ t).setCell ⟨b,4,none⟩ u) (some b):=
 Zel (Zel (Z8v w b x y z) (Za1 b 3 t)) (Za1 b 4 u)
theorem Zxz {w:World} {b g c:Nat} {m:Mch} (h:EnvW w b m):Calls Tryz.prog 139 #[.pointer (some ⟨b,0,none⟩),.string (⟨#[102,111,114,103,101,116]⟩:ByteArray),.slice (some ⟨g,0,none⟩) 0 c] w (RetM w b m (some (mch0,sokT))):=by
 go_enter Tryz.func139,Tryz.ntmps139
 go_wp2_with fail
 refine(Zs4 _).mono ?_;rintro e w1 ⟨rfl,hb1⟩
 obtain⟨ao,n,c',bo,k,d,hP⟩:=(h.below hb1).rad
 have d0:=hP.reg.1
 have d1:=hP.reg.2.1
 have d2:=hP.reg.2.2
 have d3:=hP.cel
 have d4:=hP.sig
 have f0:=hP.1.free 0
 have f1:=hP.1.free 1
 have f2:=hP.1.free 2
 have f3:=hP.1.free 3
 have f4:=hP.1.free 4
 have hZ:=hP.zero
 go_wp2_with fail
 go_ret2
 exact Zbh rfl hZ.w (Zel (Zad hb1 _) (Zajk w1 b _ _ _ _ _))
theorem Z5f {w:World} {b g n c:Nat} {m:Mch} {fs:List ByteArray} (h:EnvW w b m) (hf:RdT w (some ⟨g,0,none⟩) n fs) (hn6:n≤1000000):
 Calls Tryz.prog 139 #[.pointer (some ⟨b,0,none⟩),.string (⟨#[115,101,110,100]⟩:ByteArray),.slice (some ⟨g,0,none⟩) n c] w (RetM w b m (m.toS (csgR m.C (fs.map Zar)))):=by
 have HN:=Lib.hid hf.1
 have HML:=Lib.hid (show(fs.map Zar).length=n by rw[List.length_map];exact HN.out.symm)
 obtain⟨r,hr⟩:∃r,csgR m.C (fs.map Zar)=r:=⟨_,rfl⟩
 rw[hr]
 have HC:=Lib.hid hr
 clear hr
 go_enter Tryz.func139,Tryz.ntmps139
 go_wp2_with (at_make;refine Zcd 24 9 16 ByteArray.empty Tryz.underlying24 Zd2 rfl (by decide) w rfl _ _ rfl .i64 .i64 n rfl rfl (by omega) ?_;intro w2 hownF hbF)
 have hF:=FillF.start (L:=fs.map Zar) hownF HML.out (by simp)
 have hb2:=hbF
 clear hownF
 obtain⟨G,hG⟩:∃G,G=w.heap.size:=⟨_,rfl⟩
 rw[←hG]at hF hb2 hbF ⊢
 have HG:=Lib.hid hG
 clear hG
 go_wp2_with fail
 go_loopw [70] (fun i wr=>∃k:Nat,k≤n∧i= .int .i64 k∧Zaaj wr G G n (fs.map Zar) (List.replicate n ByteArray.empty) k∧Below G w wr) (fun i _=>n-(intOf i).toNat)
 case atStart=>exact⟨0,Nat.zero_le _,rfl,hF,hb2⟩
 case round=>
  clear hF hb2 hbF
  obtain⟨k,hk,rfl,hF,hb⟩:=hrel
  obtain⟨wo,hwo⟩:∃wo:World,wo=wr:=⟨_,rfl⟩
  subst hwo
  have hbG:Below w.heap.size w wo:=by rw[←HG.out];exact hb
  have hS:=hf.below hbG
  by_cases hlt:k<n
  ·have hkl:k<fs.length:=by have:=HN.out;omega
   have s0:=Zak hS hkl
   have HGT:=Lib.hid (show ∀hl':k<(fs.map Zar).length,(fs.map Zar)[k]'hl'=Zar fs[k]from fun hl'=>List.getElem_map _)
   generalize fs[k]=st at*
   obtain⟨z,hcz⟩:=hF.cell hlt
   have hfz:=hF.free k
   have hst2:=hF.step hlt (y:=.string (Zar st)) (fun hl'=>by rw[HGT.out hl'])
   have hbw2:=hF.below hb (.string (Zar st))
   clear hF hb hS
   go_wp2_with fail
   refine(Zci _ _).mono ?_;rintro e w5 ⟨rfl,rfl⟩
   go_wp2_with fail
   go_roundw
   case rel=>exact⟨k+1,by omega,by go_num,hst2,hbw2⟩
   case measure=>simp[intOf];omega
  ·obtain rfl:k=n:=by omega
   have hd:=hF.done (Nat.le_refl k)
   obtain⟨ao3,n3,c3,hv3,ho3⟩:=hd.own (by rw[HML.out];omega)
   cases hv3
   have hRd:=ho3.rd
   have h1:=h.below hbG
   obtain⟨ao,n',c',bo,k',d,hP⟩:=h1.rad
   have d3:=hP.cel
   have hRC:=hP.2.1
   have hcap:=hP.2.2.1
   clear hF hd ho3 hS
   rcases r with _|l
   ·go_wp2_with fail
    refine(Zod hRC hcap hRd).mono ?_;intro e w3 hq;rw[HC.out]at hq;obtain⟨ao4,n4,c4,rfl,ho4,hb4⟩:=hq.none
    have hb14:=hbG.trans (hb4.mono hbG.size)
    go_wp2_with fail
    refine setSignal_n.mono ?_;rintro e w5 ⟨rfl,hb5⟩
    have hb15:=hb14.trans (hb5.mono hb14.size)
    go_wp2_with fail
    go_ret2
    exact Za5 rfl (h.rad.below hb15) (Zad hb15 _)
   ·have HSG:=Lib.hid (Z0m HC.out)
    go_wp2_with fail
    refine(Zod hRC hcap hRd).mono ?_;intro e w3 hq;rw[HC.out]at hq;obtain⟨ao4,n4,c4,rfl,ho4,hb4⟩:=hq.some
    have hb14:=hbG.trans (hb4.mono hbG.size)
    have h4:=h1.below hb4
    have hR4:=ho4.rd
    have hne4:=Zack ho4
    have hk4:=Zm5 hR4 HSG.out
    go_wp2_with fail
    refine(Zlr h4.rad hR4 (Znf HSG.out) hk4 hne4 h4.tab h4.gb).mono ?_;rintro e w5 ⟨rfl,hr5,hg5⟩
    go_wp2_with fail
    go_ret2
    exact Zbh rfl hr5 (Zel (Zad hb14 _) hg5)
end Go.Proofs.YtcjihfongfefoaaGreatDoor
