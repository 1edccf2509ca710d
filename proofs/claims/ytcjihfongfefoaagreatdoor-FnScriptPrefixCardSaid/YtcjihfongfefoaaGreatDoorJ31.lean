/- Yg Yh -/
import Derived.Test.YtcjihfongfefoaaGreatDoorJ29
import Derived.Test.YtcjihfongfefoaaGreatDoorJ30
import Derived.Test.YtcjihfongfefoaaGreatDoorShlf
namespace Go.Proofs.YtcjihfongfefoaaGreatDoor
open Go.RowKit
set_option maxHeartbeats 25600000
set_option maxRecDepth 100000
theorem Z5h {w:World} {b g c:Nat} {m:Mch} (h:EnvW w b m):Calls Tryz.prog 137 #[.pointer (some ⟨b,0,none⟩),.string (⟨#[115,105,103,110,97,108]⟩:ByteArray),.slice (some ⟨g,0,none⟩) 0 c] w (RetM w b m (some (m,nmsT m.S))):=by
 obtain⟨ao,n,c',bo,k,d,hP⟩:=h.rad
 have d4:=hP.sig
 have hT:=h.tab
 have hR:=hP.2.2.2.1
 have HI:=Lib.hid (Znf h.ok.2.2)
 have hk:=Zm5 hR h.ok.2.2
 go_enter Tryz.func137,Tryz.ntmps137
 go_wp2_with fail
 refine(Zcx hR HI.out hk hT).mono ?_;rintro e w2 ⟨rfl,hb2⟩
 go_wp2_with fail
 go_ret2
 exact Zbh rfl (hP.below hb2).w (Zad hb2 _)
theorem Zyj {w:World} {b g c:Nat} {m:Mch} {a a2:ByteArray} (h:EnvW w b m) (hf:RdT w (some ⟨g,0,none⟩) 2 [a,a2]):
 Calls Tryz.prog 137 #[.pointer (some ⟨b,0,none⟩),.string (⟨#[115,112,114,101,97,100]⟩:ByteArray),.slice (some ⟨g,0,none⟩) 2 c] w (RetM w b m (m.toS (sprR (Zar a) a2))):=by
 have F0:w.cell? ⟨g,0,none⟩=some (.string a):=Zak hf (j:=0) (by simp)
 have F1:w.cell? ⟨g,1,none⟩=some (.string a2):=Zak hf (j:=1) (by simp)
 have hbd:Below w.heap.size w w.drew:=(Below.refl _ _).drew
 have hd:=h.below hbd
 rcases hj:sprR (Zar a) a2 with _|l
 ·have HJ:=Lib.hid hj
  clear hj
  go_enter Tryz.func137,Tryz.ntmps137
  go_wp2_with fail
  go_region_with (first|(go_at_call 206;refine(Zci a _).mono ?_;rintro e w1 ⟨rfl,rfl⟩)|(go_at_call 38;refine(Zjz _ _ _).mono ?_;intro e w3 hq;rw[HJ.out]at hq;obtain⟨ao3,n3,c3,rfl,ho3,hb3⟩:=hq.none;have hb13:=hbd.trans (hb3.mono hbd.size))|(go_at_call 209;refine setSignal_n.mono ?_;rintro e w4 ⟨rfl,hb4⟩;have hb14:=hb13.trans (hb4.mono hb13.size)))
  all_goals
   go_wp2_with fail
   go_ret2
   exact Za5 rfl (h.rad.below hb14) (Zad hb14 _)
 ·have HJ:=Lib.hid hj
  have HS:=Lib.hid (Zno hj)
  clear hj
  go_enter Tryz.func137,Tryz.ntmps137
  go_wp2_with fail
  go_region_with (first|(go_at_call 206;refine(Zci a _).mono ?_;rintro e w1 ⟨rfl,rfl⟩)|(go_at_call 38;refine(Zjz _ _ _).mono ?_;intro e w3 hq;rw[HJ.out]at hq;obtain⟨ao3,n3,c3,rfl,ho3,hb3⟩:=hq.some;have hb13:=hbd.trans (hb3.mono hbd.size);have h3:=hd.below hb3;have hR3:=ho3.rd;have hne3:=Zack ho3;have hk3:=Zm5 hR3 HS.out)|(go_at_call 209;refine(Zlr h3.rad hR3 (Znf HS.out) hk3 hne3 h3.tab h3.gb).mono ?_;rintro e w4 ⟨rfl,hr4,hg4⟩))
  all_goals
   go_wp2_with fail
   go_ret2
   exact Zbh rfl hr4 (Zel (Zad hb13 _) hg4)
theorem Z5p {w:World} {b g c:Nat} {m:Mch} {a:ByteArray} (h:EnvW w b m) (hf:RdT w (some ⟨g,0,none⟩) 1 [a]) (hz:∀p∈[a],p.size≤20000):
 Calls Tryz.prog 137 #[.pointer (some ⟨b,0,none⟩),.string (⟨#[103,97,105,110]⟩:ByteArray),.slice (some ⟨g,0,none⟩) 1 c] w (RetM w b m ((numT a).bind fun n=>m.toS (sclR m.S n))):=by
 have F0:w.cell? ⟨g,0,none⟩=some (.string a):=Zak hf (j:=0) (by simp)
 have HZ:=Lib.hid (show ∀p∈[a],p.size≤1099511627776 from fun p hp=>Nat.le_trans (hz p hp) (by omega))
 have hbA:Below w.heap.size w (w.alloc (.cells #[.string a] 9)):=(Below.refl _ _).alloc (Nat.le_refl _) _
 have hR1:=rd1 w a
 clear hz
 rcases hn:numT a with _|x
 ·have HA:=Lib.hid (Zds hn)
  clear hn
  go_enter Tryz.func137,Tryz.ntmps137
  go_wp2_with fail
  refine(Zai hR1 HZ.out).mono ?_;intro e w1 hret;rw[HA.out]at hret;obtain⟨ao1,n1,c1,rfl,_,hb1⟩:=hret.none
  have hbB:=hbA.trans (hb1.mono hbA.size)
  go_wp2_with fail
  go_ret2
  exact Za5 rfl (h.rad.below hbB) (Zad hbB _)
 ·have HA:=Lib.hid (Zdr hn)
  clear hn
  rcases hj:sclR m.S x with _|l
  ·have HJ:=Lib.hid hj
   have HR:=Lib.hid (show(some x).bind (fun n=>m.toS (sclR m.S n))=none by show m.toS (sclR m.S x)=none;rw[hj];rfl)
   clear hj
   go_enter Tryz.func137,Tryz.ntmps137
   go_wp2_with fail
   refine(Zai hR1 HZ.out).mono ?_;intro e w1 hret;rw[HA.out]at hret;obtain⟨ao1,n1,c1,rfl,ho,hb1⟩:=hret.some
   have hbB:=hbA.trans (hb1.mono hbA.size)
   obtain rfl:n1=1:=ho.1
   obtain⟨g1,rfl,hg1,hg1',hc1,hcl⟩:=Za9 ho (by omega)
   have e0:w1.cell? ⟨g1,0,none⟩=some (.int .i64 x):=hcl 0 (by simp)
   have hbd:Below w.heap.size w w1.drew:=hbB.drew
   obtain⟨ao,n,c',bo,k,d,hP⟩:=(h.below hbB).rad
   have d4:=hP.sig
   have hRS:=hP.2.2.2.1.below (show Below w1.heap.size w1 w1.drew from(Below.refl _ _).drew)
   clear hcl ho hret F0 hbA hb1 hR1 hP
   go_wp2_with fail
   go_region_with (first|(go_at_call 41;refine(Ziw x hRS).mono ?_;intro e w3 hq;rw[HJ.out]at hq;obtain⟨ao3,n3,c3,rfl,ho3,hb3⟩:=hq.none;have hb13:=hbd.trans (hb3.mono hbd.size))|(go_at_call 209;refine setSignal_n.mono ?_;rintro e w4 ⟨rfl,hb4⟩;have hb14:=hb13.trans (hb4.mono hb13.size)))
   all_goals
    go_wp2_with fail
    go_ret2
    exact Za5 HR.out (h.rad.below hb14) (Zad hb14 _)
  ·have HJ:=Lib.hid hj
   have HS:=Lib.hid (Z1k hj)
   have HR:=Lib.hid (show(some x).bind (fun n=>m.toS (sclR m.S n))=some (m.setS l,nmsT l)by show m.toS (sclR m.S x)=_;rw[hj];rfl)
   clear hj
   go_enter Tryz.func137,Tryz.ntmps137
   go_wp2_with fail
   refine(Zai hR1 HZ.out).mono ?_;intro e w1 hret;rw[HA.out]at hret;obtain⟨ao1,n1,c1,rfl,ho,hb1⟩:=hret.some
   have hbB:=hbA.trans (hb1.mono hbA.size)
   obtain rfl:n1=1:=ho.1
   obtain⟨g1,rfl,hg1,hg1',hc1,hcl⟩:=Za9 ho (by omega)
   have e0:w1.cell? ⟨g1,0,none⟩=some (.int .i64 x):=hcl 0 (by simp)
   have hbd:Below w.heap.size w w1.drew:=hbB.drew
   have hd:=h.below hbd
   obtain⟨ao,n,c',bo,k,d,hP⟩:=(h.below hbB).rad
   have d4:=hP.sig
   have hRS:=hP.2.2.2.1.below (show Below w1.heap.size w1 w1.drew from(Below.refl _ _).drew)
   clear hcl ho hret F0 hbA hb1 hR1 hP
   go_wp2_with fail
   go_region_with (first|(go_at_call 41;refine(Ziw x hRS).mono ?_;intro e w3 hq;rw[HJ.out]at hq;obtain⟨ao3,n3,c3,rfl,ho3,hb3⟩:=hq.some;have hb13:=hbd.trans (hb3.mono hbd.size);have h3:=hd.below hb3;have hR3:=ho3.rd;have hne3:=Zack ho3;have hk3:=Zm5 hR3 HS.out)|(go_at_call 209;refine(Zlr h3.rad hR3 (Znf HS.out) hk3 hne3 h3.tab h3.gb).mono ?_;rintro e w4 ⟨rfl,hr4,hg4⟩))
   all_goals
    go_wp2_with fail
    go_ret2
    exact Zbh HR.out hr4 (Zel (Zad hb13 _) hg4)
theorem Zsm {w:World} {b g c:Nat} {m:Mch} {a a2:ByteArray} (h:EnvW w b m) (hf:RdT w (some ⟨g,0,none⟩) 2 [a,a2]) (hc:2≤c) (hz:∀p∈[a,a2],p.size≤20000):
 Calls Tryz.prog 137 #[.pointer (some ⟨b,0,none⟩),.string (⟨#[100,101,115,112,114,101,97,100]⟩:ByteArray),.slice (some ⟨g,0,none⟩) 2 c] w (RetM w b m ((numT a2).bind fun n=>m.say ((dspR m.S a n).map nmsT))):=by
 have F0:w.cell? ⟨g,0,none⟩=some (.string a):=Zak hf (j:=0) (by simp)
 have HZ:=Lib.hid (show ∀p∈[a2],p.size≤1099511627776 from fun p hp=>Nat.le_trans (hz p (by simp at hp;simp[hp])) (by omega))
 have hR1:RdT w (some ⟨g,1,none⟩) 1 [a2]:=by have:=RdF.drop hf (k:=1) (by omega);rwa [Nat.zero_add]at this
 clear hz
 rcases hn:numT a2 with _|x
 ·have HA:=Lib.hid (Zds hn)
  clear hn
  go_enter Tryz.func137,Tryz.ntmps137
  go_wp2_with fail
  refine(Zai hR1 HZ.out).mono ?_;intro e w1 hret;rw[HA.out]at hret;obtain⟨ao1,n1,c1,rfl,_,hb1⟩:=hret.none
  go_wp2_with fail
  go_ret2
  exact Za5 rfl (h.rad.below hb1) (Zad hb1 _)
 ·have HA:=Lib.hid (Zdr hn)
  clear hn
  rcases hj:dspR m.S a x with _|l
  ·have HJ:=Lib.hid hj
   have HR:=Lib.hid (show(some x).bind (fun n=>m.say ((dspR m.S a n).map nmsT))=none by show m.say ((dspR m.S a x).map nmsT)=none;rw[hj];rfl)
   clear hj
   go_enter Tryz.func137,Tryz.ntmps137
   go_wp2_with fail
   refine(Zai hR1 HZ.out).mono ?_;intro e w1 hret;rw[HA.out]at hret;obtain⟨ao1,n1,c1,rfl,ho,hb1⟩:=hret.some
   obtain rfl:n1=1:=ho.1
   obtain⟨g1,rfl,hg1,hg1',hc1,hcl⟩:=Za9 ho (by omega)
   have e0:w1.cell? ⟨g1,0,none⟩=some (.int .i64 x):=hcl 0 (by simp)
   have C0:=(hb1.cell (Zaa F0)).trans F0
   have hbd:Below w.heap.size w w1.drew:=hb1.drew
   have hTd:=h.tab.below hbd
   obtain⟨ao,n,c',bo,k,d,hP⟩:=(h.below hb1).rad
   have d4:=hP.sig
   have hRS:=hP.2.2.2.1.below (show Below w1.heap.size w1 w1.drew from(Below.refl _ _).drew)
   clear hcl ho hret F0 hR1 hP
   go_wp2_with fail
   have C:=c3_b (Zc2 _) ⟨d4,C0,e0⟩
   go_region_held3 (fun w'=>w'.cell? ⟨b,4,none⟩=some (.slice bo k d)∧w'.cell? ⟨g,0,none⟩=some (.string a)∧w'.cell? ⟨g1,0,none⟩=some (.int .i64 x)) (first|with_reducible exact C) (first|(go_at_call 40;refine(Zi4 a x hRS).mono ?_;intro e w3 hq;rw[HJ.out]at hq;obtain⟨ao3,n3,c3,rfl,ho3,hb3⟩:=hq.none;have C:=c3_b hb3 C;have hb13:=hbd.trans (hb3.mono hbd.size);have hT3:=hTd.below hb3;have hR3:=ho3.rd;have hk3:n3≤1000000:=by rw[ho3.1];simp))
   all_goals
    clear C
    go_wp2_with fail
    refine(Zcx hR3 (fun x hx=>by cases hx) hk3 hT3).mono ?_;rintro e w4 ⟨rfl,hb4⟩
    have hb14:=hb13.trans (hb4.mono hb13.size)
    go_wp2_with fail
    go_ret2
    exact Za5 HR.out (h.rad.below hb14) (Zad hb14 _)
  ·have HJ:=Lib.hid hj
   have HK:=Lib.hid (Zxs hj)
   have HR:=Lib.hid (show(some x).bind (fun n=>m.say ((dspR m.S a n).map nmsT))=some (m,nmsT l)by show m.say ((dspR m.S a x).map nmsT)=_;rw[hj];rfl)
   clear hj
   go_enter Tryz.func137,Tryz.ntmps137
   go_wp2_with fail
   refine(Zai hR1 HZ.out).mono ?_;intro e w1 hret;rw[HA.out]at hret;obtain⟨ao1,n1,c1,rfl,ho,hb1⟩:=hret.some
   obtain rfl:n1=1:=ho.1
   obtain⟨g1,rfl,hg1,hg1',hc1,hcl⟩:=Za9 ho (by omega)
   have e0:w1.cell? ⟨g1,0,none⟩=some (.int .i64 x):=hcl 0 (by simp)
   have C0:=(hb1.cell (Zaa F0)).trans F0
   have hbd:Below w.heap.size w w1.drew:=hb1.drew
   have hTd:=h.tab.below hbd
   obtain⟨ao,n,c',bo,k,d,hP⟩:=(h.below hb1).rad
   have d4:=hP.sig
   have hRS:=hP.2.2.2.1.below (show Below w1.heap.size w1 w1.drew from(Below.refl _ _).drew)
   clear hcl ho hret F0 hR1 hP
   go_wp2_with fail
   have C:=c3_b (Zc2 _) ⟨d4,C0,e0⟩
   go_region_held3 (fun w'=>w'.cell? ⟨b,4,none⟩=some (.slice bo k d)∧w'.cell? ⟨g,0,none⟩=some (.string a)∧w'.cell? ⟨g1,0,none⟩=some (.int .i64 x)) (first|with_reducible exact C) (first|(go_at_call 40;refine(Zi4 a x hRS).mono ?_;intro e w3 hq;rw[HJ.out]at hq;obtain⟨ao3,n3,c3,rfl,ho3,hb3⟩:=hq.some;have C:=c3_b hb3 C;have hb13:=hbd.trans (hb3.mono hbd.size);have hT3:=hTd.below hb3;have hR3:=ho3.rd;have hk3:n3≤1000000:=by rw[ho3.1];exact Nat.le_trans HK.out.1 (by omega)))
   all_goals
    clear C
    go_wp2_with fail
    refine(Zcx hR3 HK.out.2 hk3 hT3).mono ?_;rintro e w4 ⟨rfl,hb4⟩
    have hb14:=hb13.trans (hb4.mono hb13.size)
    go_wp2_with fail
    go_ret2
    exact Zbh HR.out (h.rad.below hb14) (Zad hb14 _)
theorem Zwc {w:World} {b g c:Nat} {m:Mch} {a a2 a3:ByteArray} (h:EnvW w b m) (hf:RdT w (some ⟨g,0,none⟩) 3 [a,a2,a3]) (hc:3≤c) (hz:∀p∈[a,a2,a3],p.size≤20000):
 Calls Tryz.prog 137 #[.pointer (some ⟨b,0,none⟩),.string (⟨#[114,101,99,101,105,118,101]⟩:ByteArray),.slice (some ⟨g,0,none⟩) 3 c] w (RetM w b m ((numT a2).bind fun d=>(numT a3).bind fun n=>m.say ((rcvR m.S a d n).map Zaf))):=by
 have F0:w.cell? ⟨g,0,none⟩=some (.string a):=Zak hf (j:=0) (by simp)
 have HZ:=Lib.hid (show ∀p∈[a2,a3],p.size≤1099511627776 from fun p hp=>Nat.le_trans (hz p (by simp at hp;rcases hp with rfl|rfl<;>simp)) (by omega))
 have hR1:RdT w (some ⟨g,1,none⟩) 2 [a2,a3]:=by have:=RdF.drop hf (k:=1) (by omega);rwa [Nat.zero_add]at this
 clear hz
 rcases Ziu a2 a3 with hn|⟨x,y,hn,hn2⟩
 ·have HA:=Lib.hid (Zky hn)
  have HR:=Lib.hid (show((numT a2).bind fun d=>(numT a3).bind fun n=>m.say ((rcvR m.S a d n).map Zaf))=none by
   rcases hn with e|e
   ·rw[e];rfl
   ·rw[e];cases numT a2<;>rfl)
  clear hn
  go_enter Tryz.func137,Tryz.ntmps137
  go_wp2_with fail
  refine(Zai hR1 HZ.out).mono ?_;intro e w1 hret;rw[HA.out]at hret;obtain⟨ao1,n1,c1,rfl,_,hb1⟩:=hret.none
  go_wp2_with fail
  go_ret2
  exact Za5 HR.out (h.rad.below hb1) (Zad hb1 _)
 ·have HA:=Lib.hid (Zkh hn hn2)
  rw[hn,hn2]
  clear hn hn2
  rcases hj:rcvR m.S a x y with _|s
  ·have HJ:=Lib.hid hj
   have HR:=Lib.hid (show((some x).bind fun d=>(some y).bind fun n=>m.say ((rcvR m.S a d n).map Zaf))=none by show m.say ((rcvR m.S a x y).map Zaf)=none;rw[hj];rfl)
   clear hj
   go_enter Tryz.func137,Tryz.ntmps137
   go_wp2_with fail
   refine(Zai hR1 HZ.out).mono ?_;intro e w1 hret;rw[HA.out]at hret;obtain⟨ao1,n1,c1,rfl,ho,hb1⟩:=hret.some
   obtain rfl:n1=2:=ho.1
   obtain⟨g1,rfl,hg1,hg1',hc1,hcl⟩:=Za9 ho (by omega)
   have e0:w1.cell? ⟨g1,0,none⟩=some (.int .i64 x):=hcl 0 (by simp)
   have e1:w1.cell? ⟨g1,1,none⟩=some (.int .i64 y):=hcl 1 (by simp)
   have C0:=(hb1.cell (Zaa F0)).trans F0
   have hbd:Below w.heap.size w w1.drew:=hb1.drew
   obtain⟨ao,n,c',bo,k,d,hP⟩:=(h.below hb1).rad
   have d4:=hP.sig
   have hRS:=hP.2.2.2.1.below (show Below w1.heap.size w1 w1.drew from(Below.refl _ _).drew)
   clear hcl ho hret F0 hR1 hP
   go_wp2_with fail
   have C:=c4_b (Zc2 _) ⟨d4,C0,e0,e1⟩
   go_region_held3 (fun w'=>w'.cell? ⟨b,4,none⟩=some (.slice bo k d)∧w'.cell? ⟨g,0,none⟩=some (.string a)∧w'.cell? ⟨g1,0,none⟩=some (.int .i64 x)∧w'.cell? ⟨g1,1,none⟩=some (.int .i64 y)) (first|with_reducible exact C) (first|(go_at_call 57;refine(Zio a x y hRS).mono ?_;intro e w3 hq;obtain⟨rfl,hb3⟩:=Zgf hq HJ.out;have C:=c4_b hb3 C;have hb13:=hbd.trans (hb3.mono hbd.size)))
   all_goals
    clear C
    go_wp2_with fail
    refine(Zcg _ _).mono ?_;rintro e w' ⟨rfl,rfl⟩
    go_wp2_with fail
    go_ret2
    exact Za5 HR.out (h.rad.below hb13) (Zad hb13 _)
  ·have HJ:=Lib.hid hj
   have HR:=Lib.hid (show((some x).bind fun d=>(some y).bind fun n=>m.say ((rcvR m.S a d n).map Zaf))=some (m,Zaf s)by show m.say ((rcvR m.S a x y).map Zaf)=_;rw[hj];rfl)
   clear hj
   go_enter Tryz.func137,Tryz.ntmps137
   go_wp2_with fail
   refine(Zai hR1 HZ.out).mono ?_;intro e w1 hret;rw[HA.out]at hret;obtain⟨ao1,n1,c1,rfl,ho,hb1⟩:=hret.some
   obtain rfl:n1=2:=ho.1
   obtain⟨g1,rfl,hg1,hg1',hc1,hcl⟩:=Za9 ho (by omega)
   have e0:w1.cell? ⟨g1,0,none⟩=some (.int .i64 x):=hcl 0 (by simp)
   have e1:w1.cell? ⟨g1,1,none⟩=some (.int .i64 y):=hcl 1 (by simp)
   have C0:=(hb1.cell (Zaa F0)).trans F0
   have hbd:Below w.heap.size w w1.drew:=hb1.drew
   obtain⟨ao,n,c',bo,k,d,hP⟩:=(h.below hb1).rad
   have d4:=hP.sig
   have hRS:=hP.2.2.2.1.below (show Below w1.heap.size w1 w1.drew from(Below.refl _ _).drew)
   clear hcl ho hret F0 hR1 hP
   go_wp2_with fail
   have C:=c4_b (Zc2 _) ⟨d4,C0,e0,e1⟩
   go_region_held3 (fun w'=>w'.cell? ⟨b,4,none⟩=some (.slice bo k d)∧w'.cell? ⟨g,0,none⟩=some (.string a)∧w'.cell? ⟨g1,0,none⟩=some (.int .i64 x)∧w'.cell? ⟨g1,1,none⟩=some (.int .i64 y)) (first|with_reducible exact C) (first|(go_at_call 57;refine(Zio a x y hRS).mono ?_;intro e w3 hq;obtain⟨rfl,hb3⟩:=Ze1 hq HJ.out;have C:=c4_b hb3 C;have hb13:=hbd.trans (hb3.mono hbd.size)))
   all_goals
    clear C
    go_wp2_with fail
    refine(Zcg _ _).mono ?_;rintro e w' ⟨rfl,rfl⟩
    go_wp2_with fail
    go_ret2
    exact Zbh HR.out (h.rad.below hb13) (Zad hb13 _)
theorem Z0n {w:World} {b g c:Nat} {m:Mch} {a:ByteArray} (h:EnvW w b m) (hf:RdT w (some ⟨g,0,none⟩) 1 [a]):
 Calls Tryz.prog 138 #[.pointer (some ⟨b,0,none⟩),.string (⟨#[102,114,97,109,101]⟩:ByteArray),.slice (some ⟨g,0,none⟩) 1 c] w (RetM w b m (m.say (Zhy (Zar a)))):=by
 have F0:w.cell? ⟨g,0,none⟩=some (.string a):=Zak hf (j:=0) (by simp)
 rcases hj:Zhy (Zar a)with _|s
 ·have HJ:=Lib.hid hj
  clear hj
  go_enter Tryz.func138,Tryz.ntmps138
  go_wp2_with fail
  refine(Zci a _).mono ?_;rintro e w1 ⟨rfl,rfl⟩
  go_wp2_with fail
  refine(Zfr _ _).mono ?_;intro e w3 hq;obtain⟨rfl,hb3⟩:=Zgf hq HJ.out
  go_wp2_with fail
  go_ret2
  exact Za5 rfl (h.rad.below hb3) (Zad hb3 _)
 ·have HJ:=Lib.hid hj
  clear hj
  go_enter Tryz.func138,Tryz.ntmps138
  go_wp2_with fail
  refine(Zci a _).mono ?_;rintro e w1 ⟨rfl,rfl⟩
  go_wp2_with fail
  refine(Zfr _ _).mono ?_;intro e w3 hq;obtain⟨rfl,hb3⟩:=Ze1 hq HJ.out
  go_wp2_with fail
  go_ret2
  exact Zbh rfl (h.rad.below hb3) (Zad hb3 _)
theorem Zua {w:World} {b g c:Nat} {m:Mch} {a a2:ByteArray} (h:EnvW w b m) (hf:RdT w (some ⟨g,0,none⟩) 2 [a,a2]) (hz:∀p∈[a,a2],p.size≤20000):
 Calls Tryz.prog 138 #[.pointer (some ⟨b,0,none⟩),.string (⟨#[112,114,111,116,101,99,116]⟩:ByteArray),.slice (some ⟨g,0,none⟩) 2 c] w (RetM w b m ((numT a2).bind fun n=>m.say (prR (Zar a) n m.s m.t m.x))):=by
 have F0:w.cell? ⟨g,0,none⟩=some (.string a):=Zak hf (j:=0) (by simp)
 have F1:w.cell? ⟨g,1,none⟩=some (.string a2):=Zak hf (j:=1) (by simp)
 have HZ:=Lib.hid (show ∀p∈[a2],p.size≤1099511627776 from fun p hp=>Nat.le_trans (hz p (by simp at hp;simp[hp])) (by omega))
 have hbA:Below w.heap.size w (w.alloc (.cells #[.string a2] 9)):=(Below.refl _ _).alloc (Nat.le_refl _) _
 have hR1:=rd1 w a2
 clear hz
 rcases hn:numT a2 with _|x
 ·have HA:=Lib.hid (Zds hn)
  clear hn
  go_enter Tryz.func138,Tryz.ntmps138
  go_wp2_with fail
  refine(Zai hR1 HZ.out).mono ?_;intro e w1 hret;rw[HA.out]at hret;obtain⟨ao1,n1,c1,rfl,_,hb1⟩:=hret.none
  have hbB:=hbA.trans (hb1.mono hbA.size)
  go_wp2_with fail
  go_ret2
  exact Za5 rfl (h.rad.below hbB) (Zad hbB _)
 ·have HA:=Lib.hid (Zdr hn)
  clear hn
  rcases hj:prR (Zar a) x m.s m.t m.x with _|s
  ·have HJ:=Lib.hid hj
   have HR:=Lib.hid (show(some x).bind (fun n=>m.say (prR (Zar a) n m.s m.t m.x))=none by show m.say (prR (Zar a) x m.s m.t m.x)=none;rw[hj];rfl)
   clear hj
   go_enter Tryz.func138,Tryz.ntmps138
   go_wp2_with fail
   refine(Zai hR1 HZ.out).mono ?_;intro e w1 hret;rw[HA.out]at hret;obtain⟨ao1,n1,c1,rfl,ho,hb1⟩:=hret.some
   have hbB:=hbA.trans (hb1.mono hbA.size)
   obtain rfl:n1=1:=ho.1
   obtain⟨g1,rfl,hg1,hg1',hc1,hcl⟩:=Za9 ho (by omega)
   have e0:w1.cell? ⟨g1,0,none⟩=some (.int .i64 x):=hcl 0 (by simp)
   have C0:=(hbB.cell (Zaa F0)).trans F0
   have hbd:Below w.heap.size w w1.drew:=hbB.drew
   obtain⟨ao,n,c',bo,k,d,hP⟩:=(h.below hbB).rad
   obtain⟨d0,d1,d2⟩:=hP.reg
   clear hcl ho hret F0 F1 hbA hb1 hR1
   go_wp2_with fail
   have C:=c5_b (Zc2 _) ⟨d0,d1,d2,C0,e0⟩
   go_region_held3 (fun w'=>w'.cell? ⟨b,0,none⟩=some (.int .i64 m.s)∧w'.cell? ⟨b,1,none⟩=some (.int .i64 m.t)∧w'.cell? ⟨b,2,none⟩=some (.int .i64 m.x)∧w'.cell? ⟨g,0,none⟩=some (.string a)∧w'.cell? ⟨g1,0,none⟩=some (.int .i64 x)) (first|with_reducible exact C) (first|(go_at_call 206;refine(Zci a _).mono ?_;rintro e w2 ⟨rfl,rfl⟩)|(go_at_call 33;refine(Zeh _ _ _ _ _ _).mono ?_;intro e w3 hq;obtain⟨rfl,hb3⟩:=Zgf hq HJ.out;have C:=c5_b hb3 C;have hb13:=hbd.trans (hb3.mono hbd.size)))
   all_goals
    go_wp2_with fail
    go_ret2
    exact Za5 HR.out (h.rad.below hb13) (Zad hb13 _)
  ·have HJ:=Lib.hid hj
   have HR:=Lib.hid (show(some x).bind (fun n=>m.say (prR (Zar a) n m.s m.t m.x))=some (m,s)by show m.say (prR (Zar a) x m.s m.t m.x)=_;rw[hj];rfl)
   clear hj
   go_enter Tryz.func138,Tryz.ntmps138
   go_wp2_with fail
   refine(Zai hR1 HZ.out).mono ?_;intro e w1 hret;rw[HA.out]at hret;obtain⟨ao1,n1,c1,rfl,ho,hb1⟩:=hret.some
   have hbB:=hbA.trans (hb1.mono hbA.size)
   obtain rfl:n1=1:=ho.1
   obtain⟨g1,rfl,hg1,hg1',hc1,hcl⟩:=Za9 ho (by omega)
   have e0:w1.cell? ⟨g1,0,none⟩=some (.int .i64 x):=hcl 0 (by simp)
   have C0:=(hbB.cell (Zaa F0)).trans F0
   have hbd:Below w.heap.size w w1.drew:=hbB.drew
   obtain⟨ao,n,c',bo,k,d,hP⟩:=(h.below hbB).rad
   obtain⟨d0,d1,d2⟩:=hP.reg
   clear hcl ho hret F0 F1 hbA hb1 hR1
   go_wp2_with fail
   have C:=c5_b (Zc2 _) ⟨d0,d1,d2,C0,e0⟩
   go_region_held3 (fun w'=>w'.cell? ⟨b,0,none⟩=some (.int .i64 m.s)∧w'.cell? ⟨b,1,none⟩=some (.int .i64 m.t)∧w'.cell? ⟨b,2,none⟩=some (.int .i64 m.x)∧w'.cell? ⟨g,0,none⟩=some (.string a)∧w'.cell? ⟨g1,0,none⟩=some (.int .i64 x)) (first|with_reducible exact C) (first|(go_at_call 206;refine(Zci a _).mono ?_;rintro e w2 ⟨rfl,rfl⟩)|(go_at_call 33;refine(Zeh _ _ _ _ _ _).mono ?_;intro e w3 hq;obtain⟨rfl,hb3⟩:=Ze1 hq HJ.out;have C:=c5_b hb3 C;have hb13:=hbd.trans (hb3.mono hbd.size)))
   all_goals
    go_wp2_with fail
    go_ret2
    exact Zbh HR.out (h.rad.below hb13) (Zad hb13 _)
theorem Z5d {w:World} {b g c:Nat} {m:Mch} {a a2:ByteArray} (h:EnvW w b m) (hf:RdT w (some ⟨g,0,none⟩) 2 [a,a2]) (hz:∀p∈[a,a2],p.size≤20000):
 Calls Tryz.prog 138 #[.pointer (some ⟨b,0,none⟩),.string (⟨#[111,112,101,110]⟩:ByteArray),.slice (some ⟨g,0,none⟩) 2 c] w (RetM w b m ((numT a2).bind fun n=>m.say ((opR a n m.s m.t m.x).map Zaf))):=by
 have F0:w.cell? ⟨g,0,none⟩=some (.string a):=Zak hf (j:=0) (by simp)
 have F1:w.cell? ⟨g,1,none⟩=some (.string a2):=Zak hf (j:=1) (by simp)
 have HZ:=Lib.hid (show ∀p∈[a2],p.size≤1099511627776 from fun p hp=>Nat.le_trans (hz p (by simp at hp;simp[hp])) (by omega))
 have hbA:Below w.heap.size w (w.alloc (.cells #[.string a2] 9)):=(Below.refl _ _).alloc (Nat.le_refl _) _
 have hR1:=rd1 w a2
 clear hz
 rcases hn:numT a2 with _|x
 ·have HA:=Lib.hid (Zds hn)
  clear hn
  go_enter Tryz.func138,Tryz.ntmps138
  go_wp2_with fail
  refine(Zai hR1 HZ.out).mono ?_;intro e w1 hret;rw[HA.out]at hret;obtain⟨ao1,n1,c1,rfl,_,hb1⟩:=hret.none
  have hbB:=hbA.trans (hb1.mono hbA.size)
  go_wp2_with fail
  go_ret2
  exact Za5 rfl (h.rad.below hbB) (Zad hbB _)
 ·have HA:=Lib.hid (Zdr hn)
  clear hn
  rcases hj:opR a x m.s m.t m.x with _|s
  ·have HJ:=Lib.hid hj
   have HR:=Lib.hid (show(some x).bind (fun n=>m.say ((opR a n m.s m.t m.x).map Zaf))=none by show m.say ((opR a x m.s m.t m.x).map Zaf)=none;rw[hj];rfl)
   clear hj
   go_enter Tryz.func138,Tryz.ntmps138
   go_wp2_with fail
   refine(Zai hR1 HZ.out).mono ?_;intro e w1 hret;rw[HA.out]at hret;obtain⟨ao1,n1,c1,rfl,ho,hb1⟩:=hret.some
   have hbB:=hbA.trans (hb1.mono hbA.size)
   obtain rfl:n1=1:=ho.1
   obtain⟨g1,rfl,hg1,hg1',hc1,hcl⟩:=Za9 ho (by omega)
   have e0:w1.cell? ⟨g1,0,none⟩=some (.int .i64 x):=hcl 0 (by simp)
   have C0:=(hbB.cell (Zaa F0)).trans F0
   have hbd:Below w.heap.size w w1.drew:=hbB.drew
   obtain⟨ao,n,c',bo,k,d,hP⟩:=(h.below hbB).rad
   obtain⟨d0,d1,d2⟩:=hP.reg
   clear hcl ho hret F0 F1 hbA hb1 hR1
   go_wp2_with fail
   have C:=c5_b (Zc2 _) ⟨d0,d1,d2,C0,e0⟩
   go_region_held3 (fun w'=>w'.cell? ⟨b,0,none⟩=some (.int .i64 m.s)∧w'.cell? ⟨b,1,none⟩=some (.int .i64 m.t)∧w'.cell? ⟨b,2,none⟩=some (.int .i64 m.x)∧w'.cell? ⟨g,0,none⟩=some (.string a)∧w'.cell? ⟨g1,0,none⟩=some (.int .i64 x)) (first|with_reducible exact C) (first|(go_at_call 211;refine(Zmu _ _ _ _ _ _).mono ?_;intro e w3 hq;obtain⟨rfl,hb3⟩:=Zgf hq HJ.out;have C:=c5_b hb3 C;have hb13:=hbd.trans (hb3.mono hbd.size)))
   all_goals
    clear C
    go_wp2_with fail
    refine(Zcg _ _).mono ?_;rintro e w' ⟨rfl,rfl⟩
    go_wp2_with fail
    go_ret2
    exact Za5 HR.out (h.rad.below hb13) (Zad hb13 _)
  ·have HJ:=Lib.hid hj
   have HR:=Lib.hid (show(some x).bind (fun n=>m.say ((opR a n m.s m.t m.x).map Zaf))=some (m,Zaf s)by show m.say ((opR a x m.s m.t m.x).map Zaf)=_;rw[hj];rfl)
   clear hj
   go_enter Tryz.func138,Tryz.ntmps138
   go_wp2_with fail
   refine(Zai hR1 HZ.out).mono ?_;intro e w1 hret;rw[HA.out]at hret;obtain⟨ao1,n1,c1,rfl,ho,hb1⟩:=hret.some
   have hbB:=hbA.trans (hb1.mono hbA.size)
   obtain rfl:n1=1:=ho.1
   obtain⟨g1,rfl,hg1,hg1',hc1,hcl⟩:=Za9 ho (by omega)
   have e0:w1.cell? ⟨g1,0,none⟩=some (.int .i64 x):=hcl 0 (by simp)
   have C0:=(hbB.cell (Zaa F0)).trans F0
   have hbd:Below w.heap.size w w1.drew:=hbB.drew
   obtain⟨ao,n,c',bo,k,d,hP⟩:=(h.below hbB).rad
   obtain⟨d0,d1,d2⟩:=hP.reg
   clear hcl ho hret F0 F1 hbA hb1 hR1
   go_wp2_with fail
   have C:=c5_b (Zc2 _) ⟨d0,d1,d2,C0,e0⟩
   go_region_held3 (fun w'=>w'.cell? ⟨b,0,none⟩=some (.int .i64 m.s)∧w'.cell? ⟨b,1,none⟩=some (.int .i64 m.t)∧w'.cell? ⟨b,2,none⟩=some (.int .i64 m.x)∧w'.cell? ⟨g,0,none⟩=some (.string a)∧w'.cell? ⟨g1,0,none⟩=some (.int .i64 x)) (first|with_reducible exact C) (first|(go_at_call 211;refine(Zmu _ _ _ _ _ _).mono ?_;intro e w3 hq;obtain⟨rfl,hb3⟩:=Ze1 hq HJ.out;have C:=c5_b hb3 C;have hb13:=hbd.trans (hb3.mono hbd.size)))
   all_goals
    clear C
    go_wp2_with fail
    refine(Zcg _ _).mono ?_;rintro e w' ⟨rfl,rfl⟩
    go_wp2_with fail
    go_ret2
    exact Zbh HR.out (h.rad.below hb13) (Zad hb13 _)
def FillC (w:World) (lo g n c:Nat) (L Z:List ByteArray) (k:Nat):Prop:=
 w.ownsRow lo 9 1 (.slice (some ⟨g,0,none⟩) n c) n ((L.take k++Z.drop k).map Value.string)∧L.length=n∧Z.length=n
theorem FillC.cell {w:World} {lo g n c k:Nat} {L Z:List ByteArray} (h:FillC w lo g n c L Z k) (hk:k<n):∃hz:k<Z.length,w.cell? ⟨g,k,none⟩=some (.string Z[k]):=by
 obtain⟨ho,hL,hZ⟩:=h
 refine⟨by omega,?_⟩
 rw[ho.cellAt k (by omega),List.getElem?_map,List.getElem?_append,List.length_take,Nat.min_eq_left (by omega),if_neg (by omega),List.getElem?_drop,Nat.sub_self,Nat.add_zero]
 simp[show k<Z.length by omega]
theorem FillC.step {w:World} {lo g n c k:Nat} {L Z:List ByteArray} (h:FillC w lo g n c L Z k) (hk:k<n) {y:Value} (hy:∀hl:k<L.length,Value.string (L[k]'hl)=y):FillC (w.setCell ⟨g,k,none⟩ y) lo g n c L Z (k+1):=by
 obtain⟨ho,hL,hZ⟩:=h
 have hl:k<L.length:=by omega
 have h2:=(ho.stored k y).1
 rw[←hy hl,Zs6 hl (by omega)]at h2
 rw[←hy hl]
 exact⟨h2,hL,hZ⟩
theorem FillC.done {w:World} {lo g n c k:Nat} {L Z:List ByteArray} (h:FillC w lo g n c L Z k) (hk:n≤k):Zjo w lo (.slice (some ⟨g,0,none⟩) n c) L:=by
 obtain⟨ho,hL,hZ⟩:=h
 subst hL
 rw[List.take_of_length_le hk,List.drop_of_length_le (by omega),List.append_nil]at ho
 exact ho
theorem Z5s {w:World} {b g c:Nat} {m:Mch} {a:ByteArray} (h:EnvW w b m) (hf:RdT w (some ⟨g,0,none⟩) 1 [a]) (hz:a.size≤20000):
 Calls Tryz.prog 138 #[.pointer (some ⟨b,0,none⟩),.string (⟨#[102,105,110,100]⟩:ByteArray),.slice (some ⟨g,0,none⟩) 1 c] w (RetM w b m (if allR a=[]then none else some (m,Zbi 32 ((allR a).map Zaf)))):=by
 have F0:w.cell? ⟨g,0,none⟩=some (.string a):=Zak hf (j:=0) (by simp)
 have hsz:∀p∈allR a,p.size≤100:=fun p hp=>Zv7 a _ _ p hp
 have hln:(allR a).length≤a.size+1:=Zo8 a _ _
 obtain⟨P,hP⟩:∃P,allR a=P:=⟨_,rfl⟩
 rw[hP]at hsz hln ⊢
 have HP:=Lib.hid hP
 clear hP
 by_cases he:P=[]
 ·have HE:=Lib.hid he
  have HR:=Lib.hid (show(if P=[]then none else some (m,Zbi 32 (P.map Zaf)))=none from if_pos he)
  rw[HR.out]
  clear he
  go_enter Tryz.func138,Tryz.ntmps138
  go_wp2_with fail
  refine(Zqt a _ (by omega)).mono ?_;rintro e w1 ⟨ao1,n1,c1,rfl,ho,hb1⟩
  rw[HP.out]at ho
  obtain rfl:n1=0:=by rw[ho.1,HE.out];rfl
  go_wp2_with fail
  go_loopw [32] (fun i wr=>i= .int .i64 0∧wr=w1) (fun _ _=>0)
  case atStart=>exact⟨rfl,rfl⟩
  case round=>
   obtain⟨rfl,rfl⟩:=hrel
   go_wp2_with fail
   refine(Tryz.strings_Join_none _ _ _ _).mono ?_;rintro e w' ⟨rfl,rfl⟩
   go_wp2_with fail
   go_ret2
   exact Za5 rfl (h.rad.below hb1) (Zad hb1 _)
 ·have HE:=Lib.hid he
  have HR:=Lib.hid (show(if P=[]then none else some (m,Zbi 32 (P.map Zaf)))=some (m,Zbi 32 (P.map Zaf))from if_neg he)
  rw[HR.out]
  have hp0:0<P.length:=List.length_pos_iff.2 he
  have HSZ:=Lib.hid hsz
  clear he hsz
  go_enter Tryz.func138,Tryz.ntmps138
  go_wp2_with fail
  refine(Zqt a _ (by omega)).mono ?_;rintro e w1 ⟨ao1,n1,c1,rfl,ho,hb1⟩
  rw[HP.out]at ho
  have hn1:n1=P.length:=ho.1
  have hcap:=ho.cap
  obtain⟨G,rfl⟩:∃G,ao1=some ⟨G,0,none⟩:=by
   rcases ho.2.2.2 with ⟨h1,h2⟩|⟨G,cap,cur,hv,_⟩
   ·have h2':n1=0:=h2
    omega
   ·cases hv;exact⟨G,rfl⟩
  have hGlt:=(ho.lt _ rfl)
  have hF:FillC w1 w.heap.size G n1 c1 (P.map Zaf) P 0:=⟨by simpa using ho.2.2,by rw[List.length_map];exact hn1.symm,hn1.symm⟩
  have HN1:=Lib.hid hn1
  have hn9:n1≤20001:=by omega
  have hn0:0<n1:=by omega
  have hq0:(0:Int)<(n1:Int):=by omega
  have hbB:=hb1
  clear ho hn1 hln hp0
  go_wp2_with fail
  go_loopw [32] (fun i wr=>∃k:Nat,k≤n1∧i= .int .i64 k∧FillC wr w.heap.size G n1 c1 (P.map Zaf) P k∧Below w.heap.size w wr) (fun i _=>n1-(intOf i).toNat)
  case atStart=>exact⟨0,Nat.zero_le _,rfl,hF,hb1⟩
  case round=>
   clear hF hb1
   obtain⟨k,hk,rfl,hF,hb⟩:=hrel
   obtain⟨wo,hwo⟩:∃wo:World,wo=wr:=⟨_,rfl⟩
   subst hwo
   by_cases hlt:k<n1
   ·obtain⟨hkz,s0⟩:=hF.cell hlt
    have hfz:=hF.1.frozenAt k
    have HGT:=Lib.hid (show ∀hl':k<(P.map Zaf).length,(P.map Zaf)[k]'hl'=Zaf P[k]from fun hl'=>List.getElem_map _)
    generalize P[k]=st at*
    have hst2:=hF.step hlt (y:=.string (Zaf st)) (fun hl'=>by rw[HGT.out hl'])
    have hbw2:Below w.heap.size w (wo.setCell ⟨G,k,none⟩ (.string (Zaf st))):=hb.setCell hGlt.1 _
    clear hF hb
    go_wp2_with fail
    refine(Zcg _ _).mono ?_;rintro e w5 ⟨rfl,rfl⟩
    go_wp2_with fail
    go_roundw
    case rel=>exact⟨k+1,by omega,by go_num,hst2,hbw2⟩
    case measure=>simp[intOf];omega
   ·obtain rfl:k=n1:=by omega
    have hd:=hF.done (Nat.le_refl k)
    obtain⟨ao3,n3,c3,hv3,ho3⟩:=hd.own (by rw[List.length_map,←HN1.out];omega)
    cases hv3
    have hRd:=ho3.rd
    have HSD:=Lib.hid (show ∀p∈P.map Zaf,p.size≤20000 from fun p hp=>by
     obtain⟨q,hq,rfl⟩:=List.mem_map.1 hp
     have:=Zhp q
     have:=HSZ.out q hq
     omega)
    clear hF hd ho3
    go_wp2_with fail
    refine(Zab0 32 hRd hcap (by omega) HSD.out).mono ?_;rintro e w6 ⟨rfl,hb6⟩
    have hbE:=hb.trans (hb6.mono hb.size)
    go_wp2_with fail
    go_ret2
    exact Zbh rfl (h.rad.below hbE) (Zad hbE _)
end Go.Proofs.YtcjihfongfefoaaGreatDoor
