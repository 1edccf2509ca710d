/- Xm -/
import Derived.Test.YtcjihfongfefoaaGreatDoorJ46
import Derived.Test.YtcjihfongfefoaaGreatDoorJ47
import Derived.Test.YtcjihfongfefoaaGreatDoorShlf
namespace Go.Proofs.YtcjihfongfefoaaGreatDoor
open Go.RowKit
set_option maxHeartbeats 25600000
set_option maxRecDepth 100000
def Zk7 (m:Mch) (wo:ByteArray) (P:List ByteArray):Mch×ByteArray:=
 match wrd wo with
 |some K=>if Zce K P.length=true then(cmd m K P).getD (m,noT)else(m,whatT)
 |none=>(m,whatT)
theorem Z5g {m:Mch} {l r:ByteArray} (h:Zfu l=some r):exec m l=Zk7 m (Zf8 l) (cutT 32 r):=by
 unfold exec Zk7
 rw[Zac2 h]
 cases wrd (Zf8 l)<;>rfl
theorem Zmf {m:Mch} {wo:ByteArray} {P:List ByteArray} {K:Nat} (hk:wrd wo=some K) (hf:Zce K P.length=true):Zk7 m wo P=(cmd m K P).getD (m,noT):=by
 unfold Zk7
 rw[hk]
 simp only[]
 rw[if_pos hf]
theorem Zlm {m:Mch} {wo:ByteArray} {P:List ByteArray} (h:∀K,wrd wo=some K→Zce K P.length=false):Zk7 m wo P=(m,whatT):=by
 unfold Zk7
 cases hk:wrd wo with
 |none=>rfl
 |some K=>
  simp only[]
  rw[if_neg (by rw[h K hk];decide)]
theorem Zf7 {rest:ByteArray} (h:rest.size≤20000):1≤(cutT 32 rest).length∧(cutT 32 rest).length≤20001:=by
 have h1:=Zf5 32 rest
 have h2:=List.count_le_length (a:=(32:UInt8)) (l:=bts rest)
 rw[Zbz]at h2
 omega
theorem Zade {p:ByteArray} {s t x:Int} (h:parG p=some (s,t,x)):regB s t x=true:=by
 unfold parG at h
 split at h
 ·split at h
  ·split at h
   ·next hr=>cases h;exact hr
   ·cases h
  ·cases h
 ·cases h
theorem Zada {p:ByteArray} {l:List Stn} (h:spT p=some l):Zay l=true:=by rw[Zag0]at h;exact Zpo h
theorem Zqq {w:World} {ao:Option Addr} {n c:Nat} {bo:Option Addr} {k d:Nat} {m:Mch} (rest:ByteArray) (h:StW w ao n c bo k d m) (hz:rest.size≤20000):
 Calls Tryz.prog 70 #[stV m ao n c bo k d,.string (⟨#[114,101,103,105,115,116,101,114]⟩:ByteArray),.string rest] w (Zfz w ao n bo k (Zk7 m (⟨#[114,101,103,105,115,116,101,114]⟩:ByteArray) (cutT 32 rest))):=by
 have hT:=Two.start (w:=w) (v0:=.int .i64 m.s) (v1:=.int .i64 m.t) (v2:=.int .i64 m.x) (v3:=.slice ao n c) (v4:=.slice bo k d) (u0:=.int .i64 0) (u1:=.int .i64 0) (u2:=.int .i64 0) (u3:=.slice none 0 0) (u4:=.slice none 0 0)
 have hl:=Zf7 hz
 have hcmd:cmd m 0 (cutT 32 rest)=(parG rest).map fun r=>(m.setR r,sokT):=by
  have h1:cmd m 0 (cutT 32 rest)=_:=if_neg (show ¬(cutT 32 rest).length=0 by omega)
  rw[h1,Zji]
 rw[Zmf (K:=0) (by decide) (Zwe (.inl rfl) hl.1 hl.2),hcmd]
 clear hcmd hl
 rcases hX:parG rest with _|⟨s,t,x⟩
 ·have HX:=Lib.hid hX
  clear hX
  unfold stV
  go_enter Tryz.func70,Tryz.ntmps70
  go_wp2_with fail
  generalize ((w.alloc (.cells #[.int .i64 m.s,.int .i64 m.t,.int .i64 m.x,.slice ao n c,.slice bo k d] 97)).alloc (.cells #[.int .i64 0,.int .i64 0,.int .i64 0,.slice none 0 0,.slice none 0 0] 97))=w1 at*
  refine(Zi5 rest _ (by omega)).mono ?_;intro e w3 hr;rw[HX.out]at hr;obtain⟨rfl,hb3⟩:=hr
  have hB3:=Box.new w3 #[.int .i64 0,.int .i64 0,.int .i64 0] 46
  have k0:=hB3.cell (i:=0) rfl
  have k1:=hB3.cell (i:=1) rfl
  have k2:=hB3.cell (i:=2) rfl
  have hT3:=(hT.below hb3).below ((Below.refl _ _).alloc (Nat.le_refl _) (.cells #[.int .i64 0,.int .i64 0,.int .i64 0] 46))
  clear hT hb3 hB3
  have hT4:=hT3
  go_wp2_with fail
  generalize w3.alloc (.cells #[.int .i64 0,.int .i64 0,.int .i64 0] 46)=w4 at*
  refine Zau 3 (Two w (.int .i64 m.s) (.int .i64 m.t) (.int .i64 m.x) (.slice ao n c) (.slice bo k d)) (by kernel_rfl) (by kernel_rfl) hT4.drew ?_
  refine sv (.agg #[.int .i64 m.s,.int .i64 m.t,.int .i64 m.x,.slice ao n c,.slice bo k d]) (fun b w1 hs=>?_) ?_
  ·obtain⟨q0,q1,q2,q3,q4⟩:=hs.cells
   go_simp
  refine sk (.bool false) ?_
  refine sc (.string (noT++nlT)) 147 (#[.bool false,.string (⟨#[111,107]⟩:ByteArray)]) (fun b w1 hs=>?_) ?_
  ·exact(Zc4 _ _ _ (by decide)).mono fun e w2 hr=>⟨by rw[hr.1];rfl,by rw[hr.2];exact hs⟩
  refine Zc3 (by kernel_rfl) rfl rfl (fun w1 hs=>?_) ?_
  ·obtain⟨u0,u1,u2,u3,u4,hu⟩:=hs.frees
   exact⟨_,Zf4 rfl (by kernel_rfl) (by kernel_rfl) hu,hs.store⟩
  refine sk (.string (noT++nlT)) ?_
  refine Zbo fun w5 hs=>?_
  obtain⟨o0,o1,o2,o3,o4⟩:=Two.outs hs
  have hbl:=hs.bl
  clear hs
  go_wp2_with fail
  refine bodyPost_ret (v:=.tuple #[.agg #[.int .i64 m.s,.int .i64 m.t,.int .i64 m.x,.slice ao n c,.slice bo k d],.string (noT++nlT)]) (by simp[results,Tryz.results70,go_sem,o0,o1,o2,o3,o4]) rfl ?_
  exact⟨ao,n,c,bo,k,d,rfl,h.below hbl,hbl,.inl ⟨rfl,rfl⟩,.inl ⟨rfl,rfl⟩⟩
 ·have HX:=Lib.hid hX
  have hreg:regB s t x=true:=Zade hX
  clear hX
  unfold stV
  go_enter Tryz.func70,Tryz.ntmps70
  go_wp2_with fail
  generalize ((w.alloc (.cells #[.int .i64 m.s,.int .i64 m.t,.int .i64 m.x,.slice ao n c,.slice bo k d] 97)).alloc (.cells #[.int .i64 0,.int .i64 0,.int .i64 0,.slice none 0 0,.slice none 0 0] 97))=w1 at*
  refine(Zi5 rest _ (by omega)).mono ?_;intro e w3 hr;rw[HX.out]at hr;obtain⟨rfl,hb3⟩:=hr
  have hB3:=Box.new w3 #[.int .i64 s,.int .i64 t,.int .i64 x] 46
  have k0:=hB3.cell (i:=0) rfl
  have k1:=hB3.cell (i:=1) rfl
  have k2:=hB3.cell (i:=2) rfl
  have hT3:=(hT.below hb3).below ((Below.refl _ _).alloc (Nat.le_refl _) (.cells #[.int .i64 s,.int .i64 t,.int .i64 x] 46))
  clear hT hb3 hB3
  obtain⟨c0,c1,c2,_,_⟩:=hT3.cells
  have f0:=hT3.b0.free 0
  have f1:=hT3.b0.free 1
  have f2:=hT3.b0.free 2
  have hT4:=hT3.reg (.int .i64 s) (.int .i64 t) (.int .i64 x)
  unfold put3 at hT4
  go_wp2_with fail
  generalize (((w3.alloc (.cells #[.int .i64 s,.int .i64 t,.int .i64 x] 46)).setCell ⟨w.heap.size,0,none⟩ (.int .i64 s)).setCell ⟨w.heap.size,1,none⟩ (.int .i64 t)).setCell ⟨w.heap.size,2,none⟩ (.int .i64 x)=w4 at*
  refine Zau 3 (Two w (.int .i64 s) (.int .i64 t) (.int .i64 x) (.slice ao n c) (.slice bo k d)) (by kernel_rfl) (by kernel_rfl) hT4.drew ?_
  refine sv (.agg #[.int .i64 s,.int .i64 t,.int .i64 x,.slice ao n c,.slice bo k d]) (fun b w1 hs=>?_) ?_
  ·obtain⟨q0,q1,q2,q3,q4⟩:=hs.cells
   go_simp
  refine sk (.bool true) ?_
  refine sc (.string (sokT++nlT)) 147 (#[.bool true,.string (⟨#[111,107]⟩:ByteArray)]) (fun b w1 hs=>?_) ?_
  ·exact(Zc4 _ _ _ (by decide)).mono fun e w2 hr=>⟨by rw[hr.1];rfl,by rw[hr.2];exact hs⟩
  refine Zc3 (by kernel_rfl) rfl rfl (fun w1 hs=>?_) ?_
  ·obtain⟨u0,u1,u2,u3,u4,hu⟩:=hs.frees
   exact⟨_,Zf4 rfl (by kernel_rfl) (by kernel_rfl) hu,hs.store⟩
  refine sk (.string (sokT++nlT)) ?_
  refine Zbo fun w5 hs=>?_
  obtain⟨o0,o1,o2,o3,o4⟩:=Two.outs hs
  have hbl:=hs.bl
  clear hs
  go_wp2_with fail
  refine bodyPost_ret (v:=.tuple #[.agg #[.int .i64 s,.int .i64 t,.int .i64 x,.slice ao n c,.slice bo k d],.string (sokT++nlT)]) (by simp[results,Tryz.results70,go_sem,o0,o1,o2,o3,o4]) rfl ?_
  exact⟨ao,n,c,bo,k,d,rfl,⟨(h.below hbl).cl,h.cap,h.no,(h.below hbl).sg,⟨hreg,h.ok.2.1,h.ok.2.2⟩⟩,hbl,.inl ⟨rfl,rfl⟩,.inl ⟨rfl,rfl⟩⟩
theorem Z0f {w:World} {ao:Option Addr} {n c:Nat} {bo:Option Addr} {k d:Nat} {m:Mch} (rest:ByteArray) (h:StW w ao n c bo k d m) (hz:rest.size≤20000):
 Calls Tryz.prog 70 #[stV m ao n c bo k d,.string (⟨#[99,101,108,108]⟩:ByteArray),.string rest] w (Zfz w ao n bo k (Zk7 m (⟨#[99,101,108,108]⟩:ByteArray) (cutT 32 rest))):=by
 have hT:=Two.start (w:=w) (v0:=.int .i64 m.s) (v1:=.int .i64 m.t) (v2:=.int .i64 m.x) (v3:=.slice ao n c) (v4:=.slice bo k d) (u0:=.int .i64 0) (u1:=.int .i64 0) (u2:=.int .i64 0) (u3:=.slice none 0 0) (u4:=.slice none 0 0)
 have hl:=Zf7 hz
 have hcmd:cmd m 21 (cutT 32 rest)=(spT rest).map fun l=>(m.setC l,sokT):=by
  have h1:cmd m 21 (cutT 32 rest)=_:=if_neg (show ¬(cutT 32 rest).length=0 by omega)
  rw[h1,Zji,Zag0]
 rw[Zmf (K:=21) (by decide) (Zwe (.inr (.inl rfl)) hl.1 hl.2),hcmd]
 clear hcmd hl
 rcases hX:spT rest with _|l
 ·have HX:=Lib.hid hX
  clear hX
  unfold stV
  go_enter Tryz.func70,Tryz.ntmps70
  go_wp2_with fail
  generalize ((w.alloc (.cells #[.int .i64 m.s,.int .i64 m.t,.int .i64 m.x,.slice ao n c,.slice bo k d] 97)).alloc (.cells #[.int .i64 0,.int .i64 0,.int .i64 0,.slice none 0 0,.slice none 0 0] 97))=w1 at*
  have hrz:w.heap.size+1<w1.heap.size:=by obtain⟨cs,hcs,_,_⟩:=hT.b1;exact hcs.lt
  refine(Zog rest _ (by omega)).mono ?_;intro e w3 hr;rw[HX.out]at hr;obtain⟨ao3,n3,c3,rfl,ho3,hb3⟩:=hr
  have hT3:=hT.below hb3
  have hT4:=hT3
  clear hT hb3 ho3 hT3
  go_wp2_with fail
  refine Zau 3 (Two w (.int .i64 m.s) (.int .i64 m.t) (.int .i64 m.x) (.slice ao n c) (.slice bo k d)) (by kernel_rfl) (by kernel_rfl) hT4.drew ?_
  refine sv (.agg #[.int .i64 m.s,.int .i64 m.t,.int .i64 m.x,.slice ao n c,.slice bo k d]) (fun b w1 hs=>?_) ?_
  ·obtain⟨q0,q1,q2,q3,q4⟩:=hs.cells
   go_simp
  refine sk (.bool false) ?_
  refine sc (.string (noT++nlT)) 147 (#[.bool false,.string (⟨#[111,107]⟩:ByteArray)]) (fun b w1 hs=>?_) ?_
  ·exact(Zc4 _ _ _ (by decide)).mono fun e w2 hr=>⟨by rw[hr.1];rfl,by rw[hr.2];exact hs⟩
  refine Zc3 (by kernel_rfl) rfl rfl (fun w2 hs=>?_) ?_
  ·obtain⟨u0,u1,u2,u3,u4,hu⟩:=hs.frees
   exact⟨_,Zf4 rfl (by kernel_rfl) (by kernel_rfl) hu,hs.store⟩
  refine sk (.string (noT++nlT)) ?_
  refine Zbo fun w5 hs=>?_
  obtain⟨o0,o1,o2,o3,o4⟩:=Two.outs hs
  have hbl:=hs.bl
  clear hs
  go_wp2_with fail
  refine bodyPost_ret (v:=.tuple #[.agg #[.int .i64 m.s,.int .i64 m.t,.int .i64 m.x,.slice ao n c,.slice bo k d],.string (noT++nlT)]) (by simp[results,Tryz.results70,go_sem,o0,o1,o2,o3,o4]) rfl ?_
  exact⟨ao,n,c,bo,k,d,rfl,h.below hbl,hbl,.inl ⟨rfl,rfl⟩,.inl ⟨rfl,rfl⟩⟩
 ·have HX:=Lib.hid hX
  have hgood:Zay l=true:=Zada hX
  clear hX
  unfold stV
  go_enter Tryz.func70,Tryz.ntmps70
  go_wp2_with fail
  generalize ((w.alloc (.cells #[.int .i64 m.s,.int .i64 m.t,.int .i64 m.x,.slice ao n c,.slice bo k d] 97)).alloc (.cells #[.int .i64 0,.int .i64 0,.int .i64 0,.slice none 0 0,.slice none 0 0] 97))=w1 at*
  have hrz:w.heap.size+1<w1.heap.size:=by obtain⟨cs,hcs,_,_⟩:=hT.b1;exact hcs.lt
  refine(Zog rest _ (by omega)).mono ?_;intro e w3 hr;rw[HX.out]at hr;obtain⟨ao3,n3,c3,rfl,ho3,hb3⟩:=hr
  have hT3:=hT.below hb3
  have hR3:RdS w3 ao3 n3 l:=ho3.rd
  have hc3:=ho3.cap'
  have hnew:∀a,ao3=some a→w1.heap.size≤a.block:=Zt9 ho3
  obtain⟨_,_,_,c3',_⟩:=hT3.cells
  have f3:=hT3.b0.free 3
  have hT4:=hT3.cel (.slice ao3 n3 c3)
  have hR4:=hR3.gr (Za1 w.heap.size 3 (.slice ao3 n3 c3)) (fun a ha=>by have:=hnew a ha;omega)
  clear hT hb3 ho3 hR3
  go_wp2_with fail
  generalize w3.setCell ⟨w.heap.size,3,none⟩ (.slice ao3 n3 c3)=w4 at*
  refine Zau 3 (fun b w'=>Two w (.int .i64 m.s) (.int .i64 m.t) (.int .i64 m.x) (.slice ao3 n3 c3) (.slice bo k d) b w'∧RdS w' ao3 n3 l) (by kernel_rfl) (by kernel_rfl) ⟨hT4.drew,hR4.below (Below.refl _ _).drew⟩ ?_
  refine sv (.agg #[.int .i64 m.s,.int .i64 m.t,.int .i64 m.x,.slice ao3 n3 c3,.slice bo k d]) (fun b w1 hs=>?_) ?_
  ·obtain⟨q0,q1,q2,q3,q4⟩:=hs.1.cells
   go_simp
  refine sk (.bool true) ?_
  refine sc (.string (sokT++nlT)) 147 (#[.bool true,.string (⟨#[111,107]⟩:ByteArray)]) (fun b w1 hs=>?_) ?_
  ·exact(Zc4 _ _ _ (by decide)).mono fun e w2 hr=>⟨by rw[hr.1];rfl,by rw[hr.2];exact hs⟩
  refine Zc3 (by kernel_rfl) rfl rfl (fun w2 hs=>?_) ?_
  ·obtain⟨u0,u1,u2,u3,u4,hu⟩:=hs.1.frees
   exact⟨_,Zf4 rfl (by kernel_rfl) (by kernel_rfl) hu,hs.1.store,hs.2.gr (Ze8 w2 (w.heap.size+1) _ _ _ _ _) (fun a ha=>by have:=hnew a ha;omega)⟩
  refine sk (.string (sokT++nlT)) ?_
  refine Zbo fun w5 hs=>?_
  obtain⟨o0,o1,o2,o3,o4⟩:=Two.outs hs.1
  have hbl:=hs.1.bl
  have hR5:=hs.2
  clear hs
  go_wp2_with fail
  refine bodyPost_ret (v:=.tuple #[.agg #[.int .i64 m.s,.int .i64 m.t,.int .i64 m.x,.slice ao3 n3 c3,.slice bo k d],.string (sokT++nlT)]) (by simp[results,Tryz.results70,go_sem,o0,o1,o2,o3,o4]) rfl ?_
  exact⟨ao3,n3,c3,bo,k,d,rfl,⟨hR5,hc3.1,hc3.2,(h.below hbl).sg,⟨h.ok.1,hgood,h.ok.2.2⟩⟩,hbl,.inr (fun a ha=>by have:=hnew a ha;omega),.inl ⟨rfl,rfl⟩⟩
theorem Z0b {w:World} {ao:Option Addr} {n c:Nat} {bo:Option Addr} {k d:Nat} {m:Mch} (rest:ByteArray) (h:StW w ao n c bo k d m) (hz:rest.size≤20000):
 Calls Tryz.prog 70 #[stV m ao n c bo k d,.string (⟨#[115,101,110,100]⟩:ByteArray),.string rest] w (Zfz w ao n bo k (Zk7 m (⟨#[115,101,110,100]⟩:ByteArray) (cutT 32 rest))):=by
 have hT:=Two.start (w:=w) (v0:=.int .i64 m.s) (v1:=.int .i64 m.t) (v2:=.int .i64 m.x) (v3:=.slice ao n c) (v4:=.slice bo k d) (u0:=.int .i64 0) (u1:=.int .i64 0) (u2:=.int .i64 0) (u3:=.slice none 0 0) (u4:=.slice none 0 0)
 have hl:=Zf7 hz
 rw[Zmf (K:=25) (by decide) (Zwe (.inr (.inr rfl)) hl.1 hl.2)]
 clear hl
 obtain⟨d0,d1,d2,d3,d4⟩:=hT.cells
 have HCA:=Lib.hid (fun w1 (hA:StW w1 ao n c bo k d m)=>Zagb rest hA hz)
 unfold stV at HCA ⊢
 go_enter Tryz.func70,Tryz.ntmps70
 go_wp2_with fail
 generalize ((w.alloc (.cells #[.int .i64 m.s,.int .i64 m.t,.int .i64 m.x,.slice ao n c,.slice bo k d] 97)).alloc (.cells #[.int .i64 0,.int .i64 0,.int .i64 0,.slice none 0 0,.slice none 0 0] 97))=w1 at*
 have hrz:w.heap.size+1<w1.heap.size:=by obtain⟨cs,hcs,_,_⟩:=hT.b1;exact hcs.lt
 have hA:=h.below hT.bl
 refine(HCA.out _ hA).mono ?_;rintro e w4 ⟨ao4,n4,c4,bo4,kk4,dd4,rfl,hS4,hb4,ha4,hb5⟩
 have hp4:=sepS (g:=w.heap.size+1) ha4 h.cl (Nat.le_succ _) hrz
 have hq4:=sepI (g:=w.heap.size+1) hb5 h.sg (Nat.le_succ _) hrz
 replace ha4:=ha4.imp_right fun f a e=>Nat.le_trans hT.bl.size (f a e)
 replace hb5:=hb5.imp_right fun f a e=>Nat.le_trans hT.bl.size (f a e)
 clear HCA hA d0 d1 d2 d3 d4
 have hT4:=hT.below hb4
 obtain⟨u0,u1,u2,u3,u4,hu⟩:=hT4.frees
 generalize hRR:(cmd m 25 (cutT 32 rest)).getD (m,noT)=RR at*
 have hbl:=Zcs hT4.bl (Nat.le_succ w.heap.size) (.int .i64 RR.1.s) (.int .i64 RR.1.t) (.int .i64 RR.1.x) (.slice ao4 n4 c4) (.slice bo4 kk4 dd4)
 obtain⟨o0,o1,o2,o3,o4⟩:=out5 hu (.int .i64 RR.1.s) (.int .i64 RR.1.t) (.int .i64 RR.1.x) (.slice ao4 n4 c4) (.slice bo4 kk4 dd4)
 have hS5:=hS4.far (Ze8 w4 (w.heap.size+1) (.int .i64 RR.1.s) (.int .i64 RR.1.t) (.int .i64 RR.1.x) (.slice ao4 n4 c4) (.slice bo4 kk4 dd4)) hp4 hq4
 obtain⟨f0,f1,f2,f3,f4,e0,e1,e2,e3,e4⟩:=fe5 hu
 unfold put5 at hbl o0 o1 o2 o3 o4 hS5
 clear hT4 hb4 hS4
 unfold stV
 go_wp2_with fail
 refine bodyPost_ret (v:=.tuple #[.agg #[.int .i64 RR.1.s,.int .i64 RR.1.t,.int .i64 RR.1.x,.slice ao4 n4 c4,.slice bo4 kk4 dd4],.string (RR.2++nlT)]) (by simp[results,Tryz.results70,go_sem,o0,o1,o2,o3,o4]) rfl ?_
 exact⟨ao4,n4,c4,bo4,kk4,dd4,rfl,hS5,hbl,ha4,hb5⟩
theorem Ztt {w:World} {ao:Option Addr} {n c:Nat} {bo:Option Addr} {k d:Nat} {m:Mch} (wo rest:ByteArray) {P:List ByteArray} {N K:Int} (h:StW w ao n c bo k d m) (hz:rest.size≤20000) (hP:cutT 32 rest=P) (hN:nfW wo=N) (hK:kdW wo=K) (h0:(wo.toList==[114,101,103,105,115,116,101,114])=false) (h1:(wo.toList==[99,101,108,108])=false) (h2:(wo.toList==[115,101,110,100])=false) (hneg:N<0):
 Calls Tryz.prog 70 #[stV m ao n c bo k d,.string wo,.string rest] w (Zfz w ao n bo k (m,whatT)):=by
 have hT:=Two.start (w:=w) (v0:=.int .i64 m.s) (v1:=.int .i64 m.t) (v2:=.int .i64 m.x) (v3:=.slice ao n c) (v4:=.slice bo k d) (u0:=.int .i64 0) (u1:=.int .i64 0) (u2:=.int .i64 0) (u3:=.slice none 0 0) (u4:=.slice none 0 0)
 have HN:=Lib.hid hN
 have HK:=Lib.hid hK
 have HP:=Lib.hid hP
 have hsz:∀p∈P,p.size≤20000:=by rw[←hP];exact fun p hp=>Nat.le_trans (Zdk hp) hz
 have hl:=Zf7 hz
 rw[hP]at hl
 have hln1:=hl.1
 have hln2:=hl.2
 clear hN hK hP hl
 unfold stV
 go_enter Tryz.func70,Tryz.ntmps70
 go_wp2_with fail
 generalize ((w.alloc (.cells #[.int .i64 m.s,.int .i64 m.t,.int .i64 m.x,.slice ao n c,.slice bo k d] 97)).alloc (.cells #[.int .i64 0,.int .i64 0,.int .i64 0,.slice none 0 0,.slice none 0 0] 97))=w1 at*
 have hrz:w.heap.size+1<w1.heap.size:=by obtain⟨cs,hcs,_,_⟩:=hT.b1;exact hcs.lt
 refine(Zhw _ _).mono ?_;rintro e w2 ⟨rfl,rfl⟩
 rw[HN.out,HK.out]
 go_wp2_with fail
 refine(Zho rest 32 32 rfl _ (by omega)).mono ?_;rintro e w3 ⟨ao1,n1,c1,rfl,ho,hb1⟩
 rw[HP.out]at ho
 have hT3:=hT.below hb1
 obtain rfl:n1=P.length:=ho.1
 clear ho hb1 hT
 obtain⟨q0,q1,q2,q3,q4⟩:=hT3.cells
 have hT4:=hT3
 obtain⟨u0,u1,u2,u3,u4,hu⟩:=hT4.frees
 have hbl:=Zcs hT4.bl (Nat.le_succ w.heap.size) (.int .i64 m.s) (.int .i64 m.t) (.int .i64 m.x) (.slice ao n c) (.slice bo k d)
 obtain⟨o0,o1,o2,o3,o4⟩:=out5 hu (.int .i64 m.s) (.int .i64 m.t) (.int .i64 m.x) (.slice ao n c) (.slice bo k d)
 obtain⟨f0,f1,f2,f3,f4,e0,e1,e2,e3,e4⟩:=fe5 hu
 unfold put5 at hbl o0 o1 o2 o3 o4
 clear hT3 hT4
 go_wp2_with fail
 refine bodyPost_ret (v:=.tuple #[.agg #[.int .i64 m.s,.int .i64 m.t,.int .i64 m.x,.slice ao n c,.slice bo k d],.string ⟨#[119,104,97,116,10]⟩]) (by simp[results,Tryz.results70,go_sem,o0,o1,o2,o3,o4]) rfl ?_
 exact⟨ao,n,c,bo,k,d,rfl,h.below hbl,hbl,.inl ⟨rfl,rfl⟩,.inl ⟨rfl,rfl⟩⟩
theorem Z06 {w:World} {ao:Option Addr} {n c:Nat} {bo:Option Addr} {k d:Nat} {m:Mch} (wo rest:ByteArray) {P:List ByteArray} {N K:Int} (h:StW w ao n c bo k d m) (hz:rest.size≤20000) (hP:cutT 32 rest=P) (hN:nfW wo=N) (hK:kdW wo=K) (h0:(wo.toList==[114,101,103,105,115,116,101,114])=false) (h1:(wo.toList==[99,101,108,108])=false) (h2:(wo.toList==[115,101,110,100])=false) (hpos:¬N<0) (hne:¬(P.length:Int)=N):
 Calls Tryz.prog 70 #[stV m ao n c bo k d,.string wo,.string rest] w (Zfz w ao n bo k (m,whatT)):=by
 have hT:=Two.start (w:=w) (v0:=.int .i64 m.s) (v1:=.int .i64 m.t) (v2:=.int .i64 m.x) (v3:=.slice ao n c) (v4:=.slice bo k d) (u0:=.int .i64 0) (u1:=.int .i64 0) (u2:=.int .i64 0) (u3:=.slice none 0 0) (u4:=.slice none 0 0)
 have hne1:((P.length:Int)==N)=false:=by rw[beq_eq_false_iff_ne];omega
 have hne2:((P.length:Int) != N)=true:=by rw[bne,hne1];rfl
 have hpos2:decide (N<0)=false:=decide_eq_false hpos
 have HN:=Lib.hid hN
 have HK:=Lib.hid hK
 have HP:=Lib.hid hP
 have hsz:∀p∈P,p.size≤20000:=by rw[←hP];exact fun p hp=>Nat.le_trans (Zdk hp) hz
 have hl:=Zf7 hz
 rw[hP]at hl
 have hln1:=hl.1
 have hln2:=hl.2
 clear hN hK hP hl
 unfold stV
 go_enter Tryz.func70,Tryz.ntmps70
 go_wp2_with fail
 generalize ((w.alloc (.cells #[.int .i64 m.s,.int .i64 m.t,.int .i64 m.x,.slice ao n c,.slice bo k d] 97)).alloc (.cells #[.int .i64 0,.int .i64 0,.int .i64 0,.slice none 0 0,.slice none 0 0] 97))=w1 at*
 have hrz:w.heap.size+1<w1.heap.size:=by obtain⟨cs,hcs,_,_⟩:=hT.b1;exact hcs.lt
 refine(Zhw _ _).mono ?_;rintro e w2 ⟨rfl,rfl⟩
 rw[HN.out,HK.out]
 go_wp2_with fail
 refine(Zho rest 32 32 rfl _ (by omega)).mono ?_;rintro e w3 ⟨ao1,n1,c1,rfl,ho,hb1⟩
 rw[HP.out]at ho
 have hT3:=hT.below hb1
 obtain rfl:n1=P.length:=ho.1
 clear ho hb1 hT
 obtain⟨q0,q1,q2,q3,q4⟩:=hT3.cells
 have hT4:=hT3
 obtain⟨u0,u1,u2,u3,u4,hu⟩:=hT4.frees
 have hbl:=Zcs hT4.bl (Nat.le_succ w.heap.size) (.int .i64 m.s) (.int .i64 m.t) (.int .i64 m.x) (.slice ao n c) (.slice bo k d)
 obtain⟨o0,o1,o2,o3,o4⟩:=out5 hu (.int .i64 m.s) (.int .i64 m.t) (.int .i64 m.x) (.slice ao n c) (.slice bo k d)
 obtain⟨f0,f1,f2,f3,f4,e0,e1,e2,e3,e4⟩:=fe5 hu
 unfold put5 at hbl o0 o1 o2 o3 o4
 clear hT3 hT4
 go_wp2_with fail
 refine bodyPost_ret (v:=.tuple #[.agg #[.int .i64 m.s,.int .i64 m.t,.int .i64 m.x,.slice ao n c,.slice bo k d],.string ⟨#[119,104,97,116,10]⟩]) (by simp[results,Tryz.results70,go_sem,o0,o1,o2,o3,o4]) rfl ?_
 exact⟨ao,n,c,bo,k,d,rfl,h.below hbl,hbl,.inl ⟨rfl,rfl⟩,.inl ⟨rfl,rfl⟩⟩
theorem Z9w {w:World} {ao:Option Addr} {n c:Nat} {bo:Option Addr} {k d:Nat} {m:Mch} (wo rest:ByteArray) {P:List ByteArray} {N K:Int} (h:StW w ao n c bo k d m) (hz:rest.size≤20000) (hP:cutT 32 rest=P) (hN:nfW wo=N) (hK:kdW wo=K) (h0:(wo.toList==[114,101,103,105,115,116,101,114])=false) (h1:(wo.toList==[99,101,108,108])=false) (h2:(wo.toList==[115,101,110,100])=false) (heq:(P.length:Int)=N) (hk:K=0) {T:ByteArray} {o:ByteArray} (hTT:T=o++nlT) (hcall:∀(w2:World) (G c1:Nat),StW w2 ao n c bo k d m→RdT w2 (some ⟨G,0,none⟩) P.length P→Calls Tryz.prog 151 #[stV m ao n c bo k d,.string wo,.slice (some ⟨G,0,none⟩) P.length c1] w2 fun e w'=>e= .returned (.string T)∧Below w2.heap.size w2 w'):
 Calls Tryz.prog 70 #[stV m ao n c bo k d,.string wo,.string rest] w (Zfz w ao n bo k (m,o)):=by
 have hT:=Two.start (w:=w) (v0:=.int .i64 m.s) (v1:=.int .i64 m.t) (v2:=.int .i64 m.x) (v3:=.slice ao n c) (v4:=.slice bo k d) (u0:=.int .i64 0) (u1:=.int .i64 0) (u2:=.int .i64 0) (u3:=.slice none 0 0) (u4:=.slice none 0 0)
 have heq1:((P.length:Int)==N)=true:=by rw[beq_iff_eq];exact heq
 have heq2:((P.length:Int) != N)=false:=by rw[bne,heq1];rfl
 have hpos2:decide (N<0)=false:=decide_eq_false (by omega)
 have HN:=Lib.hid hN
 have HK:=Lib.hid hK
 have HP:=Lib.hid hP
 have hsz:∀p∈P,p.size≤20000:=by rw[←hP];exact fun p hp=>Nat.le_trans (Zdk hp) hz
 have hl:=Zf7 hz
 rw[hP]at hl
 have hln1:=hl.1
 have hln2:=hl.2
 clear hN hK hP hl
 obtain rfl:=hk
 have HCA:=Lib.hid (fun w2 (G c1:Nat) (hA:StW w2 ao n c bo k d m) (hR:RdT w2 (some ⟨G,0,none⟩) P.length P)=>hcall w2 G c1 hA hR)
 clear hcall
 unfold stV at HCA ⊢
 go_enter Tryz.func70,Tryz.ntmps70
 go_wp2_with fail
 generalize ((w.alloc (.cells #[.int .i64 m.s,.int .i64 m.t,.int .i64 m.x,.slice ao n c,.slice bo k d] 97)).alloc (.cells #[.int .i64 0,.int .i64 0,.int .i64 0,.slice none 0 0,.slice none 0 0] 97))=w1 at*
 have hrz:w.heap.size+1<w1.heap.size:=by obtain⟨cs,hcs,_,_⟩:=hT.b1;exact hcs.lt
 refine(Zhw _ _).mono ?_;rintro e w2 ⟨rfl,rfl⟩
 rw[HN.out,HK.out]
 go_wp2_with fail
 refine(Zho rest 32 32 rfl _ (by omega)).mono ?_;rintro e w3 ⟨ao1,n1,c1,rfl,ho,hb1⟩
 rw[HP.out]at ho
 have hT3:=hT.below hb1
 obtain rfl:n1=P.length:=ho.1
 obtain⟨G,rfl⟩:∃G,ao1=some ⟨G,0,none⟩:=by
  rcases ho.2.2.2 with ⟨h1,h2⟩|⟨G,cap,cur,hv,_⟩
  ·have h2':P.length=0:=h2
   omega
  ·cases hv;exact⟨G,rfl⟩
 have hGr:w.heap.size+1<G:=Nat.lt_of_lt_of_le hrz (ho.lt _ rfl).1
 have hR3:RdT w3 (some ⟨G,0,none⟩) P.length P:=ho.rd
 clear ho hb1 hT
 go_wp2_with fail
 refine Zau 5 (fun b w'=>Two w (.int .i64 m.s) (.int .i64 m.t) (.int .i64 m.x) (.slice ao n c) (.slice bo k d) b w'∧RdT w' (some ⟨G,0,none⟩) P.length P) (by kernel_rfl) (by kernel_rfl) ⟨hT3.drew,hR3.below (Below.refl _ _).drew⟩ ?_
 refine sv (.agg #[.int .i64 m.s,.int .i64 m.t,.int .i64 m.x,.slice ao n c,.slice bo k d]) (fun b w1 hs=>?_) ?_
 ·obtain⟨q0,q1,q2,q3,q4⟩:=hs.1.cells
  go_simp
 refine sv (.agg #[.int .i64 m.s,.int .i64 m.t,.int .i64 m.x,.slice ao n c,.slice bo k d]) (fun b w1 hs=>?_) ?_
 ·obtain⟨q0,q1,q2,q3,q4⟩:=hs.1.cells
  go_simp
 refine sk (.string wo) ?_
 refine sk (.slice (some ⟨G,0,none⟩) P.length c1) ?_
 refine sc (.string T) 151 (#[.agg #[.int .i64 m.s,.int .i64 m.t,.int .i64 m.x,.slice ao n c,.slice bo k d],.string wo,.slice (some ⟨G,0,none⟩) P.length c1]) (fun b w1 hs=>?_) ?_
 ·exact(HCA.out _ G c1 (h.below hs.1.bl) hs.2).mono fun e w2 hr=>⟨hr.1,hs.1.below hr.2,hs.2.below hr.2⟩
 refine Zc3 (by kernel_rfl) rfl rfl (fun w2 hs=>?_) ?_
 ·obtain⟨u0,u1,u2,u3,u4,hu⟩:=hs.1.frees
  exact⟨_,Zf4 rfl (by kernel_rfl) (by kernel_rfl) hu,hs.1.store,hs.2.gr (Ze8 w2 (w.heap.size+1) _ _ _ _ _) (fun a ha _=>by cases ha;show G≠_;omega)⟩
 refine sk (.string T) ?_
 refine Zbo fun w5 hs=>?_
 obtain⟨o0,o1,o2,o3,o4⟩:=Two.outs hs.1
 have hbl:=hs.1.bl
 clear hs
 go_wp2_with fail
 refine bodyPost_ret (v:=.tuple #[.agg #[.int .i64 m.s,.int .i64 m.t,.int .i64 m.x,.slice ao n c,.slice bo k d],.string T]) (by simp[results,Tryz.results70,go_sem,o0,o1,o2,o3,o4]) rfl ?_
 subst hTT
 exact⟨ao,n,c,bo,k,d,rfl,h.below hbl,hbl,.inl ⟨rfl,rfl⟩,.inl ⟨rfl,rfl⟩⟩
theorem Z81 {w:World} {ao:Option Addr} {n c:Nat} {bo:Option Addr} {k d:Nat} {m:Mch} (wo rest:ByteArray) {P:List ByteArray} {N K:Int} (h:StW w ao n c bo k d m) (hz:rest.size≤20000) (hP:cutT 32 rest=P) (hN:nfW wo=N) (hK:kdW wo=K) (h0:(wo.toList==[114,101,103,105,115,116,101,114])=false) (h1:(wo.toList==[99,101,108,108])=false) (h2:(wo.toList==[115,101,110,100])=false) (heq:(P.length:Int)=N) (hk:K=1) {T:ByteArray} {o:ByteArray} (hTT:T=o++nlT) (hcall:∀(w2:World) (G c1:Nat),StW w2 ao n c bo k d m→RdT w2 (some ⟨G,0,none⟩) P.length P→Calls Tryz.prog 152 #[stV m ao n c bo k d,.string wo,.slice (some ⟨G,0,none⟩) P.length c1] w2 fun e w'=>e= .returned (.string T)∧Below w2.heap.size w2 w'):
 Calls Tryz.prog 70 #[stV m ao n c bo k d,.string wo,.string rest] w (Zfz w ao n bo k (m,o)):=by
 have hT:=Two.start (w:=w) (v0:=.int .i64 m.s) (v1:=.int .i64 m.t) (v2:=.int .i64 m.x) (v3:=.slice ao n c) (v4:=.slice bo k d) (u0:=.int .i64 0) (u1:=.int .i64 0) (u2:=.int .i64 0) (u3:=.slice none 0 0) (u4:=.slice none 0 0)
 have heq1:((P.length:Int)==N)=true:=by rw[beq_iff_eq];exact heq
 have heq2:((P.length:Int) != N)=false:=by rw[bne,heq1];rfl
 have hpos2:decide (N<0)=false:=decide_eq_false (by omega)
 have HN:=Lib.hid hN
 have HK:=Lib.hid hK
 have HP:=Lib.hid hP
 have hsz:∀p∈P,p.size≤20000:=by rw[←hP];exact fun p hp=>Nat.le_trans (Zdk hp) hz
 have hl:=Zf7 hz
 rw[hP]at hl
 have hln1:=hl.1
 have hln2:=hl.2
 clear hN hK hP hl
 obtain rfl:=hk
 have HCA:=Lib.hid (fun w2 (G c1:Nat) (hA:StW w2 ao n c bo k d m) (hR:RdT w2 (some ⟨G,0,none⟩) P.length P)=>hcall w2 G c1 hA hR)
 clear hcall
 unfold stV at HCA ⊢
 go_enter Tryz.func70,Tryz.ntmps70
 go_wp2_with fail
 generalize ((w.alloc (.cells #[.int .i64 m.s,.int .i64 m.t,.int .i64 m.x,.slice ao n c,.slice bo k d] 97)).alloc (.cells #[.int .i64 0,.int .i64 0,.int .i64 0,.slice none 0 0,.slice none 0 0] 97))=w1 at*
 have hrz:w.heap.size+1<w1.heap.size:=by obtain⟨cs,hcs,_,_⟩:=hT.b1;exact hcs.lt
 refine(Zhw _ _).mono ?_;rintro e w2 ⟨rfl,rfl⟩
 rw[HN.out,HK.out]
 go_wp2_with fail
 refine(Zho rest 32 32 rfl _ (by omega)).mono ?_;rintro e w3 ⟨ao1,n1,c1,rfl,ho,hb1⟩
 rw[HP.out]at ho
 have hT3:=hT.below hb1
 obtain rfl:n1=P.length:=ho.1
 obtain⟨G,rfl⟩:∃G,ao1=some ⟨G,0,none⟩:=by
  rcases ho.2.2.2 with ⟨h1,h2⟩|⟨G,cap,cur,hv,_⟩
  ·have h2':P.length=0:=h2
   omega
  ·cases hv;exact⟨G,rfl⟩
 have hGr:w.heap.size+1<G:=Nat.lt_of_lt_of_le hrz (ho.lt _ rfl).1
 have hR3:RdT w3 (some ⟨G,0,none⟩) P.length P:=ho.rd
 clear ho hb1 hT
 go_wp2_with fail
 refine Zau 5 (fun b w'=>Two w (.int .i64 m.s) (.int .i64 m.t) (.int .i64 m.x) (.slice ao n c) (.slice bo k d) b w'∧RdT w' (some ⟨G,0,none⟩) P.length P) (by kernel_rfl) (by kernel_rfl) ⟨hT3.drew,hR3.below (Below.refl _ _).drew⟩ ?_
 refine sv (.agg #[.int .i64 m.s,.int .i64 m.t,.int .i64 m.x,.slice ao n c,.slice bo k d]) (fun b w1 hs=>?_) ?_
 ·obtain⟨q0,q1,q2,q3,q4⟩:=hs.1.cells
  go_simp
 refine sv (.agg #[.int .i64 m.s,.int .i64 m.t,.int .i64 m.x,.slice ao n c,.slice bo k d]) (fun b w1 hs=>?_) ?_
 ·obtain⟨q0,q1,q2,q3,q4⟩:=hs.1.cells
  go_simp
 refine sk (.string wo) ?_
 refine sk (.slice (some ⟨G,0,none⟩) P.length c1) ?_
 refine sc (.string T) 152 (#[.agg #[.int .i64 m.s,.int .i64 m.t,.int .i64 m.x,.slice ao n c,.slice bo k d],.string wo,.slice (some ⟨G,0,none⟩) P.length c1]) (fun b w1 hs=>?_) ?_
 ·exact(HCA.out _ G c1 (h.below hs.1.bl) hs.2).mono fun e w2 hr=>⟨hr.1,hs.1.below hr.2,hs.2.below hr.2⟩
 refine Zc3 (by kernel_rfl) rfl rfl (fun w2 hs=>?_) ?_
 ·obtain⟨u0,u1,u2,u3,u4,hu⟩:=hs.1.frees
  exact⟨_,Zf4 rfl (by kernel_rfl) (by kernel_rfl) hu,hs.1.store,hs.2.gr (Ze8 w2 (w.heap.size+1) _ _ _ _ _) (fun a ha _=>by cases ha;show G≠_;omega)⟩
 refine sk (.string T) ?_
 refine Zbo fun w5 hs=>?_
 obtain⟨o0,o1,o2,o3,o4⟩:=Two.outs hs.1
 have hbl:=hs.1.bl
 clear hs
 go_wp2_with fail
 refine bodyPost_ret (v:=.tuple #[.agg #[.int .i64 m.s,.int .i64 m.t,.int .i64 m.x,.slice ao n c,.slice bo k d],.string T]) (by simp[results,Tryz.results70,go_sem,o0,o1,o2,o3,o4]) rfl ?_
 subst hTT
 exact⟨ao,n,c,bo,k,d,rfl,h.below hbl,hbl,.inl ⟨rfl,rfl⟩,.inl ⟨rfl,rfl⟩⟩
theorem Z8h {w:World} {ao:Option Addr} {n c:Nat} {bo:Option Addr} {k d:Nat} {m:Mch} (wo rest:ByteArray) {P:List ByteArray} {N K:Int} (h:StW w ao n c bo k d m) (hz:rest.size≤20000) (hP:cutT 32 rest=P) (hN:nfW wo=N) (hK:kdW wo=K) (h0:(wo.toList==[114,101,103,105,115,116,101,114])=false) (h1:(wo.toList==[99,101,108,108])=false) (h2:(wo.toList==[115,101,110,100])=false) (heq:(P.length:Int)=N) (hk:K=2) {RR:Mch×ByteArray} (hcall:∀(w2:World) (G c1:Nat),StW w2 ao n c bo k d m→RdT w2 (some ⟨G,0,none⟩) P.length P→Calls Tryz.prog 153 #[stV m ao n c bo k d,.string wo,.slice (some ⟨G,0,none⟩) P.length c1] w2 (Zfz w2 ao n bo k RR)):
 Calls Tryz.prog 70 #[stV m ao n c bo k d,.string wo,.string rest] w (Zfz w ao n bo k RR):=by
 have hT:=Two.start (w:=w) (v0:=.int .i64 m.s) (v1:=.int .i64 m.t) (v2:=.int .i64 m.x) (v3:=.slice ao n c) (v4:=.slice bo k d) (u0:=.int .i64 0) (u1:=.int .i64 0) (u2:=.int .i64 0) (u3:=.slice none 0 0) (u4:=.slice none 0 0)
 have heq1:((P.length:Int)==N)=true:=by rw[beq_iff_eq];exact heq
 have heq2:((P.length:Int) != N)=false:=by rw[bne,heq1];rfl
 have hpos2:decide (N<0)=false:=decide_eq_false (by omega)
 have HN:=Lib.hid hN
 have HK:=Lib.hid hK
 have HP:=Lib.hid hP
 have hsz:∀p∈P,p.size≤20000:=by rw[←hP];exact fun p hp=>Nat.le_trans (Zdk hp) hz
 have hl:=Zf7 hz
 rw[hP]at hl
 have hln1:=hl.1
 have hln2:=hl.2
 clear hN hK hP hl
 obtain rfl:=hk
 have HCA:=Lib.hid (fun w2 (G c1:Nat) (hA:StW w2 ao n c bo k d m) (hR:RdT w2 (some ⟨G,0,none⟩) P.length P)=>hcall w2 G c1 hA hR)
 clear hcall
 obtain⟨d0,d1,d2,d3,d4⟩:=hT.cells
 unfold stV at HCA ⊢
 go_enter Tryz.func70,Tryz.ntmps70
 go_wp2_with fail
 generalize ((w.alloc (.cells #[.int .i64 m.s,.int .i64 m.t,.int .i64 m.x,.slice ao n c,.slice bo k d] 97)).alloc (.cells #[.int .i64 0,.int .i64 0,.int .i64 0,.slice none 0 0,.slice none 0 0] 97))=w1 at*
 have hrz:w.heap.size+1<w1.heap.size:=by obtain⟨cs,hcs,_,_⟩:=hT.b1;exact hcs.lt
 refine(Zhw _ _).mono ?_;rintro e w2 ⟨rfl,rfl⟩
 rw[HN.out,HK.out]
 go_wp2_with fail
 refine(Zho rest 32 32 rfl _ (by omega)).mono ?_;rintro e w3 ⟨ao1,n1,c1,rfl,ho,hb1⟩
 rw[HP.out]at ho
 have hT3:=hT.below hb1
 obtain rfl:n1=P.length:=ho.1
 obtain⟨G,rfl⟩:∃G,ao1=some ⟨G,0,none⟩:=by
  rcases ho.2.2.2 with ⟨h1,h2⟩|⟨G,cap,cur,hv,_⟩
  ·have h2':P.length=0:=h2
   omega
  ·cases hv;exact⟨G,rfl⟩
 have hGr:w.heap.size+1<G:=Nat.lt_of_lt_of_le hrz (ho.lt _ rfl).1
 have hR3:RdT w3 (some ⟨G,0,none⟩) P.length P:=ho.rd
 have hA:=h.below hT3.bl
 have hrz3:w.heap.size+1<w3.heap.size:=by have:=hb1.size;omega
 obtain⟨q0,q1,q2,q3,q4⟩:=hT3.cells
 clear ho hb1 hT d0 d1 d2 d3 d4
 go_wp2_with fail
 refine(HCA.out _ G c1 hA hR3).mono ?_;rintro e w4 ⟨ao4,n4,c4,bo4,kk4,dd4,rfl,hS4,hb4,ha4,hb5⟩
 have hp4:=sepS (g:=w.heap.size+1) ha4 h.cl (Nat.le_succ _) hrz3
 have hq4:=sepI (g:=w.heap.size+1) hb5 h.sg (Nat.le_succ _) hrz3
 replace ha4:=ha4.imp_right fun f a e=>Nat.le_trans hT3.bl.size (f a e)
 replace hb5:=hb5.imp_right fun f a e=>Nat.le_trans hT3.bl.size (f a e)
 clear HCA hA q0 q1 q2 q3 q4 hR3
 have hT4:=hT3.below hb4
 obtain⟨u0,u1,u2,u3,u4,hu⟩:=hT4.frees
 have hbl:=Zcs hT4.bl (Nat.le_succ w.heap.size) (.int .i64 RR.1.s) (.int .i64 RR.1.t) (.int .i64 RR.1.x) (.slice ao4 n4 c4) (.slice bo4 kk4 dd4)
 obtain⟨o0,o1,o2,o3,o4⟩:=out5 hu (.int .i64 RR.1.s) (.int .i64 RR.1.t) (.int .i64 RR.1.x) (.slice ao4 n4 c4) (.slice bo4 kk4 dd4)
 have hS5:=hS4.far (Ze8 w4 (w.heap.size+1) (.int .i64 RR.1.s) (.int .i64 RR.1.t) (.int .i64 RR.1.x) (.slice ao4 n4 c4) (.slice bo4 kk4 dd4)) hp4 hq4
 obtain⟨f0,f1,f2,f3,f4,e0,e1,e2,e3,e4⟩:=fe5 hu
 unfold put5 at hbl o0 o1 o2 o3 o4 hS5
 clear hT4 hb4 hS4
 unfold stV
 go_wp2_with fail
 refine bodyPost_ret (v:=.tuple #[.agg #[.int .i64 RR.1.s,.int .i64 RR.1.t,.int .i64 RR.1.x,.slice ao4 n4 c4,.slice bo4 kk4 dd4],.string (RR.2++nlT)]) (by simp[results,Tryz.results70,go_sem,o0,o1,o2,o3,o4]) rfl ?_
 exact⟨ao4,n4,c4,bo4,kk4,dd4,rfl,hS5,hbl,ha4,hb5⟩
theorem Z8q {w:World} {ao:Option Addr} {n c:Nat} {bo:Option Addr} {k d:Nat} {m:Mch} (wo rest:ByteArray) (h:StW w ao n c bo k d m) (hz:rest.size≤20000):
 Calls Tryz.prog 70 #[stV m ao n c bo k d,.string wo,.string rest] w (Zfz w ao n bo k (Zk7 m wo (cutT 32 rest))):=by
 by_cases e0:bts wo=lits.getD 0 []
 ·obtain rfl:wo=(⟨#[114,101,103,105,115,116,101,114]⟩:ByteArray):=Zae e0
  exact Zqq rest h hz
 by_cases e1:bts wo=lits.getD 21 []
 ·obtain rfl:wo=(⟨#[99,101,108,108]⟩:ByteArray):=Zae e1
  exact Z0f rest h hz
 by_cases e2:bts wo=lits.getD 25 []
 ·obtain rfl:wo=(⟨#[115,101,110,100]⟩:ByteArray):=Zae e2
  exact Z0b rest h hz
 have hq:∀{l:Byts},bts wo≠l→(wo.toList==l)=false:=fun hne=>by rw[Zck,beq_eq_false_iff_ne];exact hne
 have hl:=Zf7 hz
 have hsz:∀p∈cutT 32 rest,p.size≤20000:=fun p hp=>Nat.le_trans (Zdk hp) hz
 rcases hk:wrd wo with _|K
 ·rw[Zlm (fun K h=>by rw[hk]at h;cases h)]
  exact Ztt wo rest h hz rfl (by unfold nfW;rw[hk]) rfl (hq e0) (hq e1) (hq e2) (show(-1:Int)<0 by decide)
 ·obtain⟨hk28,hkb⟩:=Zhj hk
  have hn0:K≠0:=fun e=>e0 (by rw[hkb,e])
  have hn1:K≠21:=fun e=>e1 (by rw[hkb,e])
  have hn2:K≠25:=fun e=>e2 (by rw[hkb,e])
  have hN:nfW wo=nfL.getD K (-1):=by unfold nfW;rw[hk]
  have hK:kdW wo=kdL.getD K 0:=by unfold kdW;rw[hk]
  have hf:=Zakp hk28 hn0 hn1 hn2 hl.1
  by_cases hneg:nfL.getD K (-1)<0
  ·rw[Zlm (fun K' h'=>by
    rw[hk]at h'
    cases h'
    rw[hf,decide_eq_false (by omega)])]
   exact Ztt wo rest h hz rfl hN hK (hq e0) (hq e1) (hq e2) hneg
  by_cases heq:((cutT 32 rest).length:Int)=nfL.getD K (-1)
  ·rw[Zmf hk (by rw[hf,decide_eq_true heq])]
   have hkd:kdL.getD K 0=0∨kdL.getD K 0=1∨kdL.getD K 0=2:=by
    have h1:∀j,j<28→kdL.getD j 0=0∨kdL.getD j 0=1∨kdL.getD j 0=2:=by decide
    exact h1 K hk28
   rcases hkd with hkd|hkd|hkd
   ·obtain⟨t1,t2⟩:=Zsv (m:=m) (P:=cutT 32 rest) hk28 (by rw[hkd];decide) (by omega)
    have:=Z9w wo rest h hz rfl hN hK (hq e0) (hq e1) (hq e2) heq hkd t2 (fun w2 G c1 hA hR=>Zaac hA hk hkd heq.symm hR hsz)
    rw[show(cmd m K (cutT 32 rest)).getD (m,noT)=(m,((cmd m K (cutT 32 rest)).getD (m,noT)).2)from Prod.ext t1 rfl]
    exact this
   ·obtain⟨t1,t2⟩:=Zsv (m:=m) (P:=cutT 32 rest) hk28 (by rw[hkd];decide) (by omega)
    have:=Z81 wo rest h hz rfl hN hK (hq e0) (hq e1) (hq e2) heq hkd t2 (fun w2 G c1 hA hR=>Zafz hA hk hkd heq.symm hR hsz)
    rw[show(cmd m K (cutT 32 rest)).getD (m,noT)=(m,((cmd m K (cutT 32 rest)).getD (m,noT)).2)from Prod.ext t1 rfl]
    exact this
   ·exact Z8h wo rest h hz rfl hN hK (hq e0) (hq e1) (hq e2) heq hkd (fun w2 G c1 hA hR=>Z50 hA hk hkd heq.symm hR hsz)
  ·rw[Zlm (fun K' h'=>by
    rw[hk]at h'
    cases h'
    rw[hf,decide_eq_false heq])]
   exact Z06 wo rest h hz rfl hN hK (hq e0) (hq e1) (hq e2) hneg heq
end Go.Proofs.YtcjihfongfefoaaGreatDoor
