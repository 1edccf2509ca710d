/- Yj -/
import Derived.Test.YtcjihfongfefoaaGreatDoorJ27
import Derived.Test.YtcjihfongfefoaaGreatDoorJ30
import Derived.Test.YtcjihfongfefoaaGreatDoorShlf
namespace Go.Proofs.YtcjihfongfefoaaGreatDoor
open Go.RowKit
set_option maxHeartbeats 25600000
set_option maxRecDepth 100000
theorem Z00 {w:World} {b g c:Nat} {m:Mch} {a a2 a3:ByteArray} (h:EnvW w b m) (hf:RdT w (some ⟨g,0,none⟩) 3 [a,a2,a3]) (hc:3≤c) (hz:∀p∈[a,a2,a3],p.size≤20000):
 Calls Tryz.prog 139 #[.pointer (some ⟨b,0,none⟩),.string (⟨#[97,100,109,105,116]⟩:ByteArray),.slice (some ⟨g,0,none⟩) 3 c] w (RetM w b m ((numT a2).bind fun d=>(numT a3).bind fun l=>m.toC (admR m.C a d l))):=by
 have F0:w.cell? ⟨g,0,none⟩=some (.string a):=Zak hf (j:=0) (by simp)
 have HZ:=Lib.hid (show ∀p∈[a2,a3],p.size≤1099511627776 from fun p hp=>Nat.le_trans (hz p (by simp at hp;rcases hp with rfl|rfl<;>simp)) (by omega))
 have hR1:RdT w (some ⟨g,1,none⟩) 2 [a2,a3]:=by have:=RdF.drop hf (k:=1) (by omega);rwa [Nat.zero_add]at this
 clear hz
 rcases Ziu a2 a3 with hn|⟨x,y,hn,hn2⟩
 ·have HA:=Lib.hid (Zky hn)
  have HR:=Lib.hid (show((numT a2).bind fun d=>(numT a3).bind fun l=>m.toC (admR m.C a d l))=none by
   rcases hn with e|e
   ·rw[e];rfl
   ·rw[e];cases numT a2<;>rfl)
  clear hn
  go_enter Tryz.func139,Tryz.ntmps139
  go_wp2_with fail
  refine(Zai hR1 HZ.out).mono ?_;intro e w1 hret;rw[HA.out]at hret;obtain⟨ao1,n1,c1,rfl,_,hb1⟩:=hret.none
  go_wp2_with fail
  go_ret2
  exact Za5 HR.out (h.rad.below hb1) (Zad hb1 _)
 ·have HA:=Lib.hid (Zkh hn hn2)
  rw[hn,hn2]
  clear hn hn2
  rcases hj:admR m.C a x y with _|l
  ·have HJ:=Lib.hid hj
   have HR:=Lib.hid (show((some x).bind fun d=>(some y).bind fun l=>m.toC (admR m.C a d l))=none by show m.toC (admR m.C a x y)=none;rw[hj];rfl)
   clear hj
   go_enter Tryz.func139,Tryz.ntmps139
   go_wp2_with fail
   refine(Zai hR1 HZ.out).mono ?_;intro e w1 hret;rw[HA.out]at hret;obtain⟨ao1,n1,c1,rfl,ho,hb1⟩:=hret.some
   obtain rfl:n1=2:=ho.1
   obtain⟨g1,rfl,hg1,hg1',hc1,hcl⟩:=Za9 ho (by omega)
   have e0:w1.cell? ⟨g1,0,none⟩=some (.int .i64 x):=hcl 0 (by simp)
   have e1:w1.cell? ⟨g1,1,none⟩=some (.int .i64 y):=hcl 1 (by simp)
   have C0:=(hb1.cell (Zaa F0)).trans F0
   obtain⟨ao,n,c',bo,k,d,hP⟩:=(h.below hb1).rad
   have d3:=hP.cel
   have hRC:=hP.2.1
   have hcap:=hP.2.2.1
   clear hcl ho hret F0 hR1 hP
   go_wp2_with fail
   refine Zcn (by kernel_rfl) ?_
   refine wpAny_take (i:=0) (v:=.pointer (some ⟨b,0,none⟩)) rfl (by kernel_rfl) (by kernel_rfl) (by kernel_rfl) (fun _ _ _ h=>h) (Or.inl ⟨by kernel_rfl,fun _=>by kernel_rfl⟩) ?_
   refine Zdb 1 14 100 (fun _ w'=>Below w1.heap.size w1 w') (by kernel_rfl) rfl (Zc2 w1) ?_
   simp only[List.take_succ_cons,List.take_zero,List.drop_zero,List.drop_succ_cons]
   refine sk (.pointer (some ⟨b,0,none⟩)) ?_
   refine sk (.pointer (some ⟨b,0,none⟩)) ?_
   refine sk (.pointer (some ⟨b,3,none⟩)) ?_
   refine sv (.slice ao n c') (fun b w1 hs=>?_) ?_
   ·have k3:=(hs.cell (Zaa d3)).trans d3
    go_simp
   refine sk (.slice (some ⟨g,0,none⟩) 3 c) ?_
   refine sv (.pointer (some ⟨g,0,none⟩)) (fun b w1 hs=>?_) ?_
   ·go_simp
   refine sv (.string a) (fun b w1 hs=>?_) ?_
   ·have k3:=(hs.cell (Zaa C0)).trans C0
    go_simp
   refine sk (.slice (some ⟨g1,0,none⟩) 2 c1) ?_
   refine sv (.pointer (some ⟨g1,0,none⟩)) (fun b w1 hs=>?_) ?_
   ·go_simp
   refine sv (.int .i64 x) (fun b w1 hs=>?_) ?_
   ·have k3:=(hs.cell (Zaa e0)).trans e0
    go_simp
   refine sk (.slice (some ⟨g1,0,none⟩) 2 c1) ?_
   refine sv (.pointer (some ⟨g1,1,none⟩)) (fun b w1 hs=>?_) ?_
   ·go_simp
   refine sv (.int .i64 y) (fun b w1 hs=>?_) ?_
   ·have k3:=(hs.cell (Zaa e1)).trans e1
    go_simp
   refine Zbo fun w2 hs=>?_
   have hb2:Below w.heap.size w w2:=hb1.trans (hs.mono hb1.size)
   refine Zd3 14 _ 214 #[.slice ao n c',.string a,.int .i64 x,.int .i64 y] (by kernel_rfl) rfl rfl (by kernel_rfl) (by kernel_rfl) ?_
   refine(Zk9 a x y (hRC.below hs) hcap).mono ?_;intro e w3 hq;obtain⟨ao3,n3,c3,rfl,hb3⟩:=Zpe hq HJ.out;have hb13:=hb2.trans (hb3.mono hb2.size)
   refine⟨_,rfl,?_⟩
   refine Zdb 15 17 100 (fun _ w'=>w'=w3) (by kernel_rfl) rfl rfl ?_
   simp only[List.take_succ_cons,List.take_zero,List.drop_zero,List.drop_succ_cons]
   refine sk (.slice ao3 n3 c3) ?_
   refine sk (.bool false) ?_
   refine Zbo ?_
   rintro w' rfl
   refine Zd3 17 _ 212 #[.pointer (some ⟨b,0,none⟩),.slice ao3 n3 c3,.bool false] (by kernel_rfl) rfl rfl (by kernel_rfl) (by kernel_rfl) ?_
   refine setCell_n.mono ?_;rintro e w4 ⟨rfl,hb4⟩;have hb14:=hb13.trans (hb4.mono hb13.size)
   refine⟨_,rfl,?_⟩
   refine Zdp 18 100 (fun _ w'=>w'=w4) (by kernel_rfl) rfl rfl rfl ?_
   simp only[List.drop_succ_cons,List.drop_zero]
   refine sk (.string ⟨#[]⟩) ?_
   refine sk (.bool false) ?_
   refine sk (.string ⟨#[]⟩) ?_
   refine sk (.bool false) ?_
   refine Zbo ?_
   rintro w' rfl
   go_wp2_with fail
   refine bodyPost_ret (v:=.tuple #[.string ⟨#[]⟩,.bool false]) (by simp[results,Tryz.results139,go_sem]) rfl ?_
   exact Za5 HR.out (h.rad.below hb14) (Zad hb14 _)
  ·have HJ:=Lib.hid hj
   have HR:=Lib.hid (show((some x).bind fun d=>(some y).bind fun l=>m.toC (admR m.C a d l))=some (m.setC l,fmtT l)by show m.toC (admR m.C a x y)=_;rw[hj];rfl)
   clear hj
   go_enter Tryz.func139,Tryz.ntmps139
   go_wp2_with fail
   refine(Zai hR1 HZ.out).mono ?_;intro e w1 hret;rw[HA.out]at hret;obtain⟨ao1,n1,c1,rfl,ho,hb1⟩:=hret.some
   obtain rfl:n1=2:=ho.1
   obtain⟨g1,rfl,hg1,hg1',hc1,hcl⟩:=Za9 ho (by omega)
   have e0:w1.cell? ⟨g1,0,none⟩=some (.int .i64 x):=hcl 0 (by simp)
   have e1:w1.cell? ⟨g1,1,none⟩=some (.int .i64 y):=hcl 1 (by simp)
   have C0:=(hb1.cell (Zaa F0)).trans F0
   obtain⟨ao,n,c',bo,k,d,hP⟩:=(h.below hb1).rad
   have d3:=hP.cel
   have hRC:=hP.2.1
   have hcap:=hP.2.2.1
   clear hcl ho hret F0 hR1 hP
   go_wp2_with fail
   refine Zcn (by kernel_rfl) ?_
   refine wpAny_take (i:=0) (v:=.pointer (some ⟨b,0,none⟩)) rfl (by kernel_rfl) (by kernel_rfl) (by kernel_rfl) (fun _ _ _ h=>h) (Or.inl ⟨by kernel_rfl,fun _=>by kernel_rfl⟩) ?_
   refine Zdb 1 14 100 (fun _ w'=>Below w1.heap.size w1 w') (by kernel_rfl) rfl (Zc2 w1) ?_
   simp only[List.take_succ_cons,List.take_zero,List.drop_zero,List.drop_succ_cons]
   refine sk (.pointer (some ⟨b,0,none⟩)) ?_
   refine sk (.pointer (some ⟨b,0,none⟩)) ?_
   refine sk (.pointer (some ⟨b,3,none⟩)) ?_
   refine sv (.slice ao n c') (fun b w1 hs=>?_) ?_
   ·have k3:=(hs.cell (Zaa d3)).trans d3
    go_simp
   refine sk (.slice (some ⟨g,0,none⟩) 3 c) ?_
   refine sv (.pointer (some ⟨g,0,none⟩)) (fun b w1 hs=>?_) ?_
   ·go_simp
   refine sv (.string a) (fun b w1 hs=>?_) ?_
   ·have k3:=(hs.cell (Zaa C0)).trans C0
    go_simp
   refine sk (.slice (some ⟨g1,0,none⟩) 2 c1) ?_
   refine sv (.pointer (some ⟨g1,0,none⟩)) (fun b w1 hs=>?_) ?_
   ·go_simp
   refine sv (.int .i64 x) (fun b w1 hs=>?_) ?_
   ·have k3:=(hs.cell (Zaa e0)).trans e0
    go_simp
   refine sk (.slice (some ⟨g1,0,none⟩) 2 c1) ?_
   refine sv (.pointer (some ⟨g1,1,none⟩)) (fun b w1 hs=>?_) ?_
   ·go_simp
   refine sv (.int .i64 y) (fun b w1 hs=>?_) ?_
   ·have k3:=(hs.cell (Zaa e1)).trans e1
    go_simp
   refine Zbo fun w2 hs=>?_
   have hb2:Below w.heap.size w w2:=hb1.trans (hs.mono hb1.size)
   refine Zd3 14 _ 214 #[.slice ao n c',.string a,.int .i64 x,.int .i64 y] (by kernel_rfl) rfl rfl (by kernel_rfl) (by kernel_rfl) ?_
   refine(Zk9 a x y (hRC.below hs) hcap).mono ?_;intro e w3 hq;obtain⟨ao3,n3,c3,rfl,ho3,hb3⟩:=Zm9 hq HJ.out;have hb13:=hb2.trans (hb3.mono hb2.size);have h3:=h.below hb13;have hR3:=ho3.rd;have hc3:=ho3.cap'.1;have hne3:=Zu1 ho3
   refine⟨_,rfl,?_⟩
   refine Zdb 15 17 100 (fun _ w'=>w'=w3) (by kernel_rfl) rfl rfl ?_
   simp only[List.take_succ_cons,List.take_zero,List.drop_zero,List.drop_succ_cons]
   refine sk (.slice ao3 n3 c3) ?_
   refine sk (.bool true) ?_
   refine Zbo ?_
   rintro w' rfl
   refine Zd3 17 _ 212 #[.pointer (some ⟨b,0,none⟩),.slice ao3 n3 c3,.bool true] (by kernel_rfl) rfl rfl (by kernel_rfl) (by kernel_rfl) ?_
   refine(Zmy h3.rad hR3 hc3 hne3 h3.tab h3.gb).mono ?_;rintro e w4 ⟨rfl,hr4,hg4⟩
   refine⟨_,rfl,?_⟩
   refine Zdp 18 100 (fun _ w'=>w'=w4) (by kernel_rfl) rfl rfl rfl ?_
   simp only[List.drop_succ_cons,List.drop_zero]
   refine sk (.string (fmtT l)) ?_
   refine sk (.bool true) ?_
   refine sk (.string (fmtT l)) ?_
   refine sk (.bool true) ?_
   refine Zbo ?_
   rintro w' rfl
   go_wp2_with fail
   refine bodyPost_ret (v:=.tuple #[.string (fmtT l),.bool true]) (by simp[results,Tryz.results139,go_sem]) rfl ?_
   exact Zbh HR.out hr4 (Zel (Zad hb13 _) hg4)
end Go.Proofs.YtcjihfongfefoaaGreatDoor
