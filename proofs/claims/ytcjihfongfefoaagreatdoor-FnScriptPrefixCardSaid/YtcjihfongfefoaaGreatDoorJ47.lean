/- Xj Xk Xl -/
import Derived.Test.YtcjihfongfefoaaGreatDoorJ34
import Derived.Test.YtcjihfongfefoaaGreatDoorJ45
import Derived.Test.YtcjihfongfefoaaGreatDoorShlf
namespace Go.Proofs.YtcjihfongfefoaaGreatDoor
open Go.RowKit
set_option maxHeartbeats 25600000
set_option maxRecDepth 100000
def oneR (m:Mch) (wo:ByteArray):Mch×ByteArray:=
 match wrd wo with
 |some k=>if Zce k 0=true then(cmd m k []).getD (m,noT)else(m,whatT)
 |none=>(m,whatT)
theorem Z75 {m:Mch} {l:ByteArray} (h:(32:UInt8) ∉ bts l):exec m l=oneR m l:=by
 unfold exec oneR
 rw[Zzg h,Zxr h]
 rfl
theorem Zqb {m m':Mch} {wo o:ByteArray} {k:Nat} (hk:wrd wo=some k) (hf:Zce k 0=true) (hc:cmd m k []=some (m',o)):oneR m wo=(m',o):=by
 unfold oneR
 rw[hk]
 simp only[]
 rw[if_pos hf,hc];rfl
theorem Z7b {m:Mch} {wo:ByteArray} (h0:bts wo≠lits.getD 0 []) (h1:bts wo≠lits.getD 2 []) (h2:bts wo≠lits.getD 14 []) (h3:bts wo≠lits.getD 21 []) (h4:bts wo≠lits.getD 27 []):oneR m wo=(m,whatT):=by
 unfold oneR
 cases hk:wrd wo with
 |none=>rfl
 |some k=>
  simp only[]
  obtain⟨hk28,hkb⟩:=Zhj hk
  cases hf:Zce k 0 with
  |false=>rfl
  |true=>
   have hle:leastL.getD k 0=0:=Nat.le_zero.1 (Zbp hf).1
   have hcs:k=0∨k=2∨k=14∨k=21∨k=27:=by
    have:∀j,j<28→leastL.getD j 0=0→j=0∨j=2∨j=14∨j=21∨j=27:=by decide
    exact this k hk28 hle
   rcases hcs with rfl|rfl|rfl|rfl|rfl
   ·exact absurd hkb h0
   ·exact absurd hkb h1
   ·exact absurd hkb h2
   ·exact absurd hkb h3
   ·exact absurd hkb h4
theorem Zako (s t x:Int):I63 (perR s t x):=by
 unfold perR I63
 split
 ·have:=Zu0 (rgQ s.toNat t.toNat x.toNat);have:=Zni (rgQ s.toNat t.toNat x.toNat);omega
 ·omega
theorem Zagf (s t x:Int):I63 (Zfn s t x):=by
 unfold Zfn I63
 split
 ·have:=Zni (rgQ s.toNat t.toNat x.toNat);omega
 ·omega
theorem Zwh {w:World} {ao:Option Addr} {n c:Nat} {bo:Option Addr} {k d:Nat} {m:Mch} (h:StW w ao n c bo k d m):Calls Tryz.prog 69 #[stV m ao n c bo k d,.string (⟨#[114,101,103,105,115,116,101,114]⟩:ByteArray)] w (Zfz w ao n bo k (m,rgT m.s m.t m.x)):=by
 have hT:=Two.start (w:=w) (v0:=.int .i64 m.s) (v1:=.int .i64 m.t) (v2:=.int .i64 m.x) (v3:=.slice ao n c) (v4:=.slice bo k d) (u0:=.int .i64 0) (u1:=.int .i64 0) (u2:=.int .i64 0) (u3:=.slice none 0 0) (u4:=.slice none 0 0)
 have hz:=Zk2 h.ok.1
 have n1:¬9223372036854775807<(rgT m.s m.t m.x).size+1:=by omega
 unfold stV
 go_enter Tryz.func69,Tryz.ntmps69
 go_wp2_with fail
 refine Zau 5 (Two w (.int .i64 m.s) (.int .i64 m.t) (.int .i64 m.x) (.slice ao n c) (.slice bo k d)) (by kernel_rfl) (by kernel_rfl) hT.drew ?_
 refine sv (.agg #[.int .i64 m.s,.int .i64 m.t,.int .i64 m.x,.slice ao n c,.slice bo k d]) (fun b w1 hs=>?_) ?_
 ·obtain⟨d0,d1,d2,d3,d4⟩:=hs.cells
  go_simp
 refine sk (.pointer (some ⟨w.heap.size,0,none⟩)) ?_
 refine sv (.agg #[.int .i64 m.s,.int .i64 m.t,.int .i64 m.x]) (fun b w1 hs=>?_) ?_
 ·obtain⟨d0,d1,d2,d3,d4⟩:=hs.cells
  go_simp
 refine sc (.string (rgT m.s m.t m.x)) 140 (#[.agg #[.int .i64 m.s,.int .i64 m.t,.int .i64 m.x]]) (fun b w1 hs=>?_) ?_
 ·exact(Zc7 _ _ _ _).mono fun e w2 hr=>⟨hr.1,hs.below hr.2⟩
 refine sv (.string (rgT m.s m.t m.x++⟨#[10]⟩)) (fun b w1 hs=>?_) ?_
 ·go_simp
 refine Zc3 (by kernel_rfl) rfl rfl (fun w1 hs=>?_) ?_
 ·obtain⟨u0,u1,u2,u3,u4,hu⟩:=hs.frees
  exact⟨_,Zf4 rfl (by kernel_rfl) (by kernel_rfl) hu,hs.store⟩
 refine sk (.string (rgT m.s m.t m.x++⟨#[10]⟩)) ?_
 refine Zbo fun w1 hs=>?_
 obtain⟨d0,d1,d2,d3,d4⟩:=Two.outs hs
 have hbl:=hs.bl
 clear hs
 go_wp2_with fail
 refine bodyPost_ret (v:=.tuple #[.agg #[.int .i64 m.s,.int .i64 m.t,.int .i64 m.x,.slice ao n c,.slice bo k d],.string (rgT m.s m.t m.x++⟨#[10]⟩)]) (by simp[results,Tryz.results69,go_sem,d0,d1,d2,d3,d4]) rfl ?_
 exact⟨ao,n,c,bo,k,d,rfl,h.below hbl,hbl,.inl ⟨rfl,rfl⟩,.inl ⟨rfl,rfl⟩⟩
theorem Zaaz {w:World} {ao:Option Addr} {n c:Nat} {bo:Option Addr} {k d:Nat} {m:Mch} (h:StW w ao n c bo k d m):Calls Tryz.prog 69 #[stV m ao n c bo k d,.string (⟨#[99,101,108,108]⟩:ByteArray)] w (Zfz w ao n bo k (m,fmtT m.C)):=by
 have hT:=Two.start (w:=w) (v0:=.int .i64 m.s) (v1:=.int .i64 m.t) (v2:=.int .i64 m.x) (v3:=.slice ao n c) (v4:=.slice bo k d) (u0:=.int .i64 0) (u1:=.int .i64 0) (u2:=.int .i64 0) (u3:=.slice none 0 0) (u4:=.slice none 0 0)
 have hz:=Zle m.C
 have n1:¬9223372036854775807<(fmtT m.C).size+1:=by omega
 unfold stV
 go_enter Tryz.func69,Tryz.ntmps69
 go_wp2_with fail
 refine Zau 5 (Two w (.int .i64 m.s) (.int .i64 m.t) (.int .i64 m.x) (.slice ao n c) (.slice bo k d)) (by kernel_rfl) (by kernel_rfl) hT.drew ?_
 refine sv (.agg #[.int .i64 m.s,.int .i64 m.t,.int .i64 m.x,.slice ao n c,.slice bo k d]) (fun b w1 hs=>?_) ?_
 ·obtain⟨d0,d1,d2,d3,d4⟩:=hs.cells
  go_simp
 refine sk (.pointer (some ⟨w.heap.size,3,none⟩)) ?_
 refine sv (.slice ao n c) (fun b w1 hs=>?_) ?_
 ·obtain⟨d0,d1,d2,d3,d4⟩:=hs.cells
  go_simp
 refine sc (.string (fmtT m.C)) 144 (#[.slice ao n c]) (fun b w1 hs=>?_) ?_
 ·exact(Zf6 (h.cl.below hs.bl) (Ziz h.ok.2.1)).mono fun e w2 hr=>⟨hr.1,hs.below hr.2⟩
 refine sv (.string (fmtT m.C++⟨#[10]⟩)) (fun b w1 hs=>?_) ?_
 ·go_simp
 refine Zc3 (by kernel_rfl) rfl rfl (fun w1 hs=>?_) ?_
 ·obtain⟨u0,u1,u2,u3,u4,hu⟩:=hs.frees
  exact⟨_,Zf4 rfl (by kernel_rfl) (by kernel_rfl) hu,hs.store⟩
 refine sk (.string (fmtT m.C++⟨#[10]⟩)) ?_
 refine Zbo fun w1 hs=>?_
 obtain⟨d0,d1,d2,d3,d4⟩:=Two.outs hs
 have hbl:=hs.bl
 clear hs
 go_wp2_with fail
 refine bodyPost_ret (v:=.tuple #[.agg #[.int .i64 m.s,.int .i64 m.t,.int .i64 m.x,.slice ao n c,.slice bo k d],.string (fmtT m.C++⟨#[10]⟩)]) (by simp[results,Tryz.results69,go_sem,d0,d1,d2,d3,d4]) rfl ?_
 exact⟨ao,n,c,bo,k,d,rfl,h.below hbl,hbl,.inl ⟨rfl,rfl⟩,.inl ⟨rfl,rfl⟩⟩
theorem Z1n {w:World} {ao:Option Addr} {n c:Nat} {bo:Option Addr} {k d:Nat} {m:Mch} (h:StW w ao n c bo k d m):Calls Tryz.prog 69 #[stV m ao n c bo k d,.string (⟨#[115,105,103,110,97,108]⟩:ByteArray)] w (Zfz w ao n bo k (m,nmsT m.S)):=by
 have hT:=Two.start (w:=w) (v0:=.int .i64 m.s) (v1:=.int .i64 m.t) (v2:=.int .i64 m.x) (v3:=.slice ao n c) (v4:=.slice bo k d) (u0:=.int .i64 0) (u1:=.int .i64 0) (u2:=.int .i64 0) (u3:=.slice none 0 0) (u4:=.slice none 0 0)
 have hz:=Zu3 h.ok.2.2
 have hn6:k≤1000000:=by have:=Zhe h.ok.2.2;have:=h.sg.1;omega
 have n1:¬9223372036854775807<(nmsT m.S).size+1:=by omega
 unfold stV
 go_enter Tryz.func69,Tryz.ntmps69
 go_wp2_with fail
 refine Zau 5 (Two w (.int .i64 m.s) (.int .i64 m.t) (.int .i64 m.x) (.slice ao n c) (.slice bo k d)) (by kernel_rfl) (by kernel_rfl) hT.drew ?_
 refine sv (.agg #[.int .i64 m.s,.int .i64 m.t,.int .i64 m.x,.slice ao n c,.slice bo k d]) (fun b w1 hs=>?_) ?_
 ·obtain⟨d0,d1,d2,d3,d4⟩:=hs.cells
  go_simp
 refine sk (.pointer (some ⟨w.heap.size,4,none⟩)) ?_
 refine sv (.slice bo k d) (fun b w1 hs=>?_) ?_
 ·obtain⟨d0,d1,d2,d3,d4⟩:=hs.cells
  go_simp
 refine sc (.string (nmsT m.S)) 145 (#[.slice bo k d]) (fun b w1 hs=>?_) ?_
 ·exact(Zfe (h.sg.below hs.bl) (Z80 h.ok.2.2) hn6).mono fun e w2 hr=>⟨hr.1,hs.below hr.2⟩
 refine sv (.string (nmsT m.S++⟨#[10]⟩)) (fun b w1 hs=>?_) ?_
 ·go_simp
 refine Zc3 (by kernel_rfl) rfl rfl (fun w1 hs=>?_) ?_
 ·obtain⟨u0,u1,u2,u3,u4,hu⟩:=hs.frees
  exact⟨_,Zf4 rfl (by kernel_rfl) (by kernel_rfl) hu,hs.store⟩
 refine sk (.string (nmsT m.S++⟨#[10]⟩)) ?_
 refine Zbo fun w1 hs=>?_
 obtain⟨d0,d1,d2,d3,d4⟩:=Two.outs hs
 have hbl:=hs.bl
 clear hs
 go_wp2_with fail
 refine bodyPost_ret (v:=.tuple #[.agg #[.int .i64 m.s,.int .i64 m.t,.int .i64 m.x,.slice ao n c,.slice bo k d],.string (nmsT m.S++⟨#[10]⟩)]) (by simp[results,Tryz.results69,go_sem,d0,d1,d2,d3,d4]) rfl ?_
 exact⟨ao,n,c,bo,k,d,rfl,h.below hbl,hbl,.inl ⟨rfl,rfl⟩,.inl ⟨rfl,rfl⟩⟩
theorem Z03 {w:World} {ao:Option Addr} {n c:Nat} {bo:Option Addr} {k d:Nat} {m:Mch} (h:StW w ao n c bo k d m):Calls Tryz.prog 69 #[stV m ao n c bo k d,.string (⟨#[112,101,114,105,111,100]⟩:ByteArray)] w (Zfz w ao n bo k (m,decT (perR m.s m.t m.x)++⟨#[32]⟩++decT (Zfn m.s m.t m.x))):=by
 have hT:=Two.start (w:=w) (v0:=.int .i64 m.s) (v1:=.int .i64 m.t) (v2:=.int .i64 m.x) (v3:=.slice ao n c) (v4:=.slice bo k d) (u0:=.int .i64 0) (u1:=.int .i64 0) (u2:=.int .i64 0) (u3:=.slice none 0 0) (u4:=.slice none 0 0)
 have i1:=Zako m.s m.t m.x
 have i2:=Zagf m.s m.t m.x
 have z1:(decT (perR m.s m.t m.x)).size≤21:=Zde ⟨by have:=i1.1;omega,i1.2⟩
 have z2:(decT (Zfn m.s m.t m.x)).size≤21:=Zde ⟨by have:=i2.1;omega,i2.2⟩
 obtain⟨p,hp⟩:∃p,perR m.s m.t m.x=p:=⟨_,rfl⟩
 obtain⟨q,hq⟩:∃q,Zfn m.s m.t m.x=q:=⟨_,rfl⟩
 have HP:=Lib.hid hp
 have HQ:=Lib.hid hq
 rw[hp]at i1 z1 ⊢
 rw[hq]at i2 z2 ⊢
 clear hp hq
 obtain⟨A,hA⟩:∃A,decT p++(⟨#[32]⟩:ByteArray)=A:=⟨_,rfl⟩
 have zA:A.size≤22:=by rw[←hA,ByteArray.size_append];have:(⟨#[32]⟩:ByteArray).size=1:=rfl;omega
 have n1:¬9223372036854775807<(decT p).size+1:=by omega
 have n2:¬9223372036854775807<A.size+(decT q).size:=by omega
 obtain⟨B,hB⟩:∃B,A++decT q=B:=⟨_,rfl⟩
 have zB:B.size≤43:=by rw[←hB,ByteArray.size_append];omega
 have n3:¬9223372036854775807<B.size+1:=by omega
 have HA:=Lib.hid hA
 have HB:=Lib.hid hB
 rw[hA,hB]
 clear hA hB
 unfold stV
 go_enter Tryz.func69,Tryz.ntmps69
 go_wp2_with fail
 refine Zau 12 (Two w (.int .i64 m.s) (.int .i64 m.t) (.int .i64 m.x) (.slice ao n c) (.slice bo k d)) (by kernel_rfl) (by kernel_rfl) hT.drew ?_
 refine sv (.agg #[.int .i64 m.s,.int .i64 m.t,.int .i64 m.x,.slice ao n c,.slice bo k d]) (fun b w1 hs=>?_) ?_
 ·obtain⟨d0,d1,d2,d3,d4⟩:=hs.cells
  go_simp
 refine sk (.pointer (some ⟨w.heap.size,0,none⟩)) ?_
 refine sv (.agg #[.int .i64 m.s,.int .i64 m.t,.int .i64 m.x]) (fun b w1 hs=>?_) ?_
 ·obtain⟨d0,d1,d2,d3,d4⟩:=hs.cells
  go_simp
 refine sc (.int .i64 p) 142 (#[.agg #[.int .i64 m.s,.int .i64 m.t,.int .i64 m.x]]) (fun b w1 hs=>?_) ?_
 ·exact(Zql _ _ _ _).mono fun e w2 hr=>by rw[HP.out]at hr;exact⟨hr.1,hs.below hr.2⟩
 refine sc (.string (decT p)) 141 (#[.int .i64 p]) (fun b w1 hs=>?_) ?_
 ·exact(Zhl p _ i1.1 i1.2).mono fun e w2 hr=>⟨hr.1,hs.below hr.2⟩
 refine sv (.string (decT p++⟨#[32]⟩)) (fun b w1 hs=>?_) ?_
 ·go_simp
 refine sk (.pointer (some ⟨w.heap.size,0,none⟩)) ?_
 refine sv (.agg #[.int .i64 m.s,.int .i64 m.t,.int .i64 m.x]) (fun b w1 hs=>?_) ?_
 ·obtain⟨d0,d1,d2,d3,d4⟩:=hs.cells
  go_simp
 refine sc (.int .i64 q) 143 (#[.agg #[.int .i64 m.s,.int .i64 m.t,.int .i64 m.x]]) (fun b w1 hs=>?_) ?_
 ·exact(Zaa0 _ _ _ _).mono fun e w2 hr=>by rw[HQ.out]at hr;exact⟨hr.1,hs.below hr.2⟩
 refine sc (.string (decT q)) 141 (#[.int .i64 q]) (fun b w1 hs=>?_) ?_
 ·exact(Zhl q _ i2.1 i2.2).mono fun e w2 hr=>⟨hr.1,hs.below hr.2⟩
 rw[HA.out]
 refine sv (.string (A++decT q)) (fun b w1 hs=>?_) ?_
 ·go_simp
 rw[HB.out]
 refine sv (.string (B++⟨#[10]⟩)) (fun b w1 hs=>?_) ?_
 ·go_simp
 refine Zc3 (by kernel_rfl) rfl rfl (fun w1 hs=>?_) ?_
 ·obtain⟨u0,u1,u2,u3,u4,hu⟩:=hs.frees
  exact⟨_,Zf4 rfl (by kernel_rfl) (by kernel_rfl) hu,hs.store⟩
 refine sk (.string (B++⟨#[10]⟩)) ?_
 refine Zbo fun w1 hs=>?_
 obtain⟨d0,d1,d2,d3,d4⟩:=Two.outs hs
 have hbl:=hs.bl
 clear hs
 go_wp2_with fail
 refine bodyPost_ret (v:=.tuple #[.agg #[.int .i64 m.s,.int .i64 m.t,.int .i64 m.x,.slice ao n c,.slice bo k d],.string (B++⟨#[10]⟩)]) (by simp[results,Tryz.results69,go_sem,d0,d1,d2,d3,d4]) rfl ?_
 exact⟨ao,n,c,bo,k,d,rfl,h.below hbl,hbl,.inl ⟨rfl,rfl⟩,.inl ⟨rfl,rfl⟩⟩
theorem Z0u {w:World} {ao:Option Addr} {n c:Nat} {bo:Option Addr} {k d:Nat} {m:Mch}:Calls Tryz.prog 69 #[stV m ao n c bo k d,.string (⟨#[102,111,114,103,101,116]⟩:ByteArray)] w (Zfz w ao n bo k (mch0,sokT)):=by
 have hT:=Two.start (w:=w) (v0:=.int .i64 m.s) (v1:=.int .i64 m.t) (v2:=.int .i64 m.x) (v3:=.slice ao n c) (v4:=.slice bo k d) (u0:=.int .i64 0) (u1:=.int .i64 0) (u2:=.int .i64 0) (u3:=.slice none 0 0) (u4:=.slice none 0 0)
 unfold stV
 go_enter Tryz.func69,Tryz.ntmps69
 go_wp2_with fail
 generalize ((w.alloc (.cells #[.int .i64 m.s,.int .i64 m.t,.int .i64 m.x,.slice ao n c,.slice bo k d] 97)).alloc (.cells #[.int .i64 0,.int .i64 0,.int .i64 0,.slice none 0 0,.slice none 0 0] 97))=w1 at*
 refine(Zxa _).mono ?_;rintro e w2 ⟨rfl,hb2⟩
 have hT2:=hT.below hb2
 obtain⟨u0,u1,u2,u3,u4,hu⟩:=hT2.frees
 have hbl:=Zcs hT2.bl (Nat.le_succ w.heap.size) (.int .i64 3) (.int .i64 3) (.int .i64 1) (.slice none 0 0) (.slice none 0 0)
 obtain⟨o0,o1,o2,o3,o4⟩:=out5 hu (.int .i64 3) (.int .i64 3) (.int .i64 1) (.slice none 0 0) (.slice none 0 0)
 have f0:=hu.free 0
 have f1:=hu.free 1
 have f2:=hu.free 2
 have f3:=hu.free 3
 have f4:=hu.free 4
 have e0:=hu.cell (i:=0) rfl
 have e1:=hu.cell (i:=1) rfl
 have e2:=hu.cell (i:=2) rfl
 have e3:=hu.cell (i:=3) rfl
 have e4:=hu.cell (i:=4) rfl
 unfold put5 at hbl o0 o1 o2 o3 o4
 unfold stV
 dsimp only[mch0]
 clear hT hT2 hb2
 go_wp2_with fail
 refine bodyPost_ret (v:=.tuple #[.agg #[.int .i64 3,.int .i64 3,.int .i64 1,.slice none 0 0,.slice none 0 0],.string ⟨#[111,107,10]⟩]) (by simp[results,Tryz.results69,go_sem,o0,o1,o2,o3,o4]) rfl ?_
 exact⟨none,0,0,none,0,0,rfl,⟨RdS.nil _,Nat.le_refl _,fun _=>rfl,Rd.nil _,Zac7⟩,hbl,.inr (fun a e=>by cases e),.inr (fun a e=>by cases e)⟩
theorem Z9n {w:World} {ao:Option Addr} {n c:Nat} {bo:Option Addr} {k d:Nat} {m:Mch} {wo:ByteArray} (h:StW w ao n c bo k d m) (h0:(wo.toList==[114,101,103,105,115,116,101,114])=false) (h1:(wo.toList==[112,101,114,105,111,100])=false)
 (h2:(wo.toList==[99,101,108,108])=false) (h3:(wo.toList==[115,105,103,110,97,108])=false) (h4:(wo.toList==[102,111,114,103,101,116])=false):Calls Tryz.prog 69 #[stV m ao n c bo k d,.string wo] w (Zfz w ao n bo k (m,whatT)):=by
 have hT:=Two.start (w:=w) (v0:=.int .i64 m.s) (v1:=.int .i64 m.t) (v2:=.int .i64 m.x) (v3:=.slice ao n c) (v4:=.slice bo k d) (u0:=.int .i64 m.s) (u1:=.int .i64 m.t) (u2:=.int .i64 m.x) (u3:=.slice ao n c) (u4:=.slice bo k d)
 have hbl:=hT.bl
 have hz:(w.alloc (.cells #[.int .i64 m.s,.int .i64 m.t,.int .i64 m.x,.slice ao n c,.slice bo k d] 97)).heap.size=w.heap.size+1:=by simp
 have hu2:=Box.new (w.alloc (.cells #[.int .i64 m.s,.int .i64 m.t,.int .i64 m.x,.slice ao n c,.slice bo k d] 97)) #[.int .i64 m.s,.int .i64 m.t,.int .i64 m.x,.slice ao n c,.slice bo k d] 97
 rw[hz]at hu2
 have d0:=hu2.cell (i:=0) rfl
 have d1:=hu2.cell (i:=1) rfl
 have d2:=hu2.cell (i:=2) rfl
 have d3:=hu2.cell (i:=3) rfl
 have d4:=hu2.cell (i:=4) rfl
 clear hT hu2 hz
 unfold stV
 go_enter Tryz.func69,Tryz.ntmps69
 go_wp2_with fail
 refine bodyPost_ret (v:=.tuple #[.agg #[.int .i64 m.s,.int .i64 m.t,.int .i64 m.x,.slice ao n c,.slice bo k d],.string ⟨#[119,104,97,116,10]⟩]) (by simp[results,Tryz.results69,go_sem,d0,d1,d2,d3,d4]) rfl ?_
 exact⟨ao,n,c,bo,k,d,rfl,h.below hbl,hbl,.inl ⟨rfl,rfl⟩,.inl ⟨rfl,rfl⟩⟩
theorem Zaju {w:World} {ao:Option Addr} {n c:Nat} {bo:Option Addr} {k d:Nat} {m:Mch} (wo:ByteArray) (h:StW w ao n c bo k d m):Calls Tryz.prog 69 #[stV m ao n c bo k d,.string wo] w (Zfz w ao n bo k (oneR m wo)):=by
 by_cases h0:bts wo=lits.getD 0 []
 ·obtain rfl:wo=(⟨#[114,101,103,105,115,116,101,114]⟩:ByteArray):=Zae h0
  rw[Zqb (k:=0) (by decide) (by decide) (m':=m) (o:=rgT m.s m.t m.x) rfl]
  exact Zwh h
 by_cases h1:bts wo=lits.getD 2 []
 ·obtain rfl:wo=(⟨#[112,101,114,105,111,100]⟩:ByteArray):=Zae h1
  rw[Zqb (k:=2) (by decide) (by decide) (m':=m) (o:=decT (perR m.s m.t m.x)++⟨#[32]⟩++decT (Zfn m.s m.t m.x)) rfl]
  exact Z03 h
 by_cases h2:bts wo=lits.getD 14 []
 ·obtain rfl:wo=(⟨#[115,105,103,110,97,108]⟩:ByteArray):=Zae h2
  rw[Zqb (k:=14) (by decide) (by decide) (m':=m) (o:=nmsT m.S) rfl]
  exact Z1n h
 by_cases h3:bts wo=lits.getD 21 []
 ·obtain rfl:wo=(⟨#[99,101,108,108]⟩:ByteArray):=Zae h3
  rw[Zqb (k:=21) (by decide) (by decide) (m':=m) (o:=fmtT m.C) rfl]
  exact Zaaz h
 by_cases h4:bts wo=lits.getD 27 []
 ·obtain rfl:wo=(⟨#[102,111,114,103,101,116]⟩:ByteArray):=Zae h4
  rw[Zqb (k:=27) (by decide) (by decide) (m':=mch0) (o:=sokT) rfl]
  exact Z0u
 rw[Z7b h0 h1 h2 h3 h4]
 have hq:∀{l:Byts},bts wo≠l→(wo.toList==l)=false:=fun hne=>by rw[Zck,beq_eq_false_iff_ne];exact hne
 exact Z9n h (hq h0) (hq h1) (hq h3) (hq h2) (hq h4)
theorem Zagb {w:World} {ao:Option Addr} {n c:Nat} {bo:Option Addr} {k d:Nat} {m:Mch} (rest:ByteArray) (h:StW w ao n c bo k d m) (hz:rest.size≤20000):
 Calls Tryz.prog 149 #[stV m ao n c bo k d,.string rest] w (Zfz w ao n bo k ((cmd m 25 (cutT 32 rest)).getD (m,noT))):=by
 have hT:=Two.start (w:=w) (v0:=.int .i64 m.s) (v1:=.int .i64 m.t) (v2:=.int .i64 m.x) (v3:=.slice ao n c) (v4:=.slice bo k d) (u0:=.int .i64 0) (u1:=.int .i64 0) (u2:=.int .i64 0) (u3:=.slice none 0 0) (u4:=.slice none 0 0)
 have hcz:=Ziz h.ok.2.1
 have HZ:=Lib.hid hcz
 have hsz:∀p∈cutT 32 rest,p.size≤20000:=fun p hp=>Nat.le_trans (Zdk hp) hz
 have hln:(cutT 32 rest).length≤20001∧1≤(cutT 32 rest).length:=by
  have h1:=Zf5 32 rest
  have h2:=List.count_le_length (a:=(32:UInt8)) (l:=bts rest)
  rw[Zbz]at h2
  omega
 obtain⟨P,hP⟩:∃P,cutT 32 rest=P:=⟨_,rfl⟩
 rw[hP]at hsz hln ⊢
 have HP:=Lib.hid hP
 have hcmd:cmd m 25 P=m.toS (csgR m.C (P.map Zar)):=rfl
 rw[hcmd]
 have HSZ:=Lib.hid (show ∀i (hi:i<(P.map Zar).length),((P.map Zar)[i]'hi).size≤1099511627776 from fun i hi=>by
  rw[List.getElem_map]
  have h1:=Znn (P[i]'(by rw[List.length_map]at hi;exact hi))
  have h2:=hsz _ (List.getElem_mem (by rw[List.length_map]at hi;exact hi))
  omega)
 clear hP hsz hcz hcmd
 obtain⟨hln1,hln2⟩:=hln
 obtain⟨X,hX⟩:∃X,csgR m.C (P.map Zar)=X:=⟨_,rfl⟩
 have HG:=Lib.hid (show ∀l,X=some l→sigB l=true from fun l e=>Z0m (hX.trans e))
 have HX:=Lib.hid hX
 rw[hX]
 clear hX
 unfold stV
 go_enter Tryz.func149,Tryz.ntmps149
 go_wp2_with fail
 generalize ((w.alloc (.cells #[.int .i64 m.s,.int .i64 m.t,.int .i64 m.x,.slice ao n c,.slice bo k d] 97)).alloc (.cells #[.int .i64 0,.int .i64 0,.int .i64 0,.slice none 0 0,.slice none 0 0] 97))=w1 at*
 have hrz:w.heap.size+1<w1.heap.size:=by obtain⟨cs,hcs,_,_⟩:=hT.b1;exact hcs.lt
 refine(Zho rest 32 32 rfl _ (by omega)).mono ?_;rintro e w3 ⟨ao1,n1,c1,rfl,ho,hb1⟩
 rw[HP.out]at ho
 have hT3:=hT.below hb1
 have hn1:n1=P.length:=ho.1
 obtain⟨G,rfl⟩:∃G,ao1=some ⟨G,0,none⟩:=by
  rcases ho.2.2.2 with ⟨h1,h2⟩|⟨G,cap,cur,hv,_⟩
  ·have h2':n1=0:=h2
   omega
  ·cases hv;exact⟨G,rfl⟩
 have hGlt:=(ho.lt _ rfl).1
 have hF:FillC w3 w1.heap.size G n1 c1 (P.map Zar) P 0:=⟨by simpa using ho.2.2,by rw[List.length_map];exact hn1.symm,hn1.symm⟩
 have hGr:w.heap.size+1<G:=Nat.lt_of_lt_of_le hrz hGlt
 have HN1:=Lib.hid hn1
 have hn9:n1≤20001:=by omega
 clear ho hn1 hln1 hln2 hb1 hT hGlt
 go_wp2_with fail
 go_loopw [7] (fun i wr=>∃j:Nat,j≤n1∧i= .int .i64 j∧FillC wr w1.heap.size G n1 c1 (P.map Zar) P j∧Two w (.int .i64 m.s) (.int .i64 m.t) (.int .i64 m.x) (.slice ao n c) (.slice bo k d) false wr) (fun i _=>n1-(intOf i).toNat)
 case atStart=>exact⟨0,Nat.zero_le _,rfl,hF,hT3⟩
 case round=>
  clear hF hT3
  obtain⟨j,hj,rfl,hF,hTr⟩:=hrel
  obtain⟨wo,hwo⟩:∃wo:World,wo=wr:=⟨_,rfl⟩
  subst hwo
  by_cases hlt:j<n1
  ·obtain⟨hkz,s0⟩:=hF.cell hlt
   have hfz:=hF.1.frozenAt j
   have HGT:=Lib.hid (show ∀hl':j<(P.map Zar).length,(P.map Zar)[j]'hl'=Zar P[j]from fun hl'=>List.getElem_map _)
   generalize P[j]=st at*
   have hst2:=hF.step hlt (y:=.string (Zar st)) (fun hl'=>by rw[HGT.out hl'])
   have hT2:Two w (.int .i64 m.s) (.int .i64 m.t) (.int .i64 m.x) (.slice ao n c) (.slice bo k d) false (wo.setCell ⟨G,j,none⟩ (.string (Zar st))):=hTr.far (Za1 G j _) hGr
   clear hF hTr
   go_wp2_with fail
   refine(Zkk _ _).mono ?_;rintro e w5 ⟨rfl,rfl⟩
   go_wp2_with fail
   go_roundw
   case rel=>exact⟨j+1,by omega,by go_num,hst2,hT2⟩
   case measure=>simp[intOf];omega
  ·obtain rfl:j=n1:=by omega
   have hd:=hF.done (Nat.le_refl j)
   obtain⟨ao5,n5,c5,hv5,ho5⟩:=hd.own (by rw[List.length_map,←HN1.out];omega)
   cases hv5
   have hRd:=ho5.rd
   have hA:=h.below hTr.bl
   obtain⟨q0,q1,q2,q3,q4⟩:=hTr.cells
   have hg2:w.heap.size+1<wo.heap.size:=by obtain⟨cs,hcs,_,_⟩:=hTr.b1;exact hcs.lt
   clear hF hd ho5
   go_wp2_with fail
   refine(Zu2 hA.cl hRd HZ.out HSZ.out).mono ?_;intro e w6 hr;rw[HX.out]at hr;obtain⟨ao3,n3,c3,rfl,ho3,hb3⟩:=hr
   have hT6:=hTr.below hb3
   have hA3:=h.below hT6.bl
   have hlo:=Z86 ho3
   have hR3:=ho3.rd
   obtain⟨k0,k1,k2,k3,k4⟩:=hT6.cells
   clear q0 q1 q2 q3 q4 hTr ho3 hb3 hRd hA HZ HSZ
   go_wp2_with fail
   refine(Zvo (r:=X) hA3 hR3 HG.out).mono ?_;rintro e w4 ⟨ao4,n4,c4,bo4,k4,d4,rfl,hS4,hb4,ha4,hb5⟩
   have ha5:(ao4=ao∧n4=n)∨∀a,ao4=some a→wo.heap.size≤a.block:=.inl ha4
   have hb6:(bo4=bo∧k4=k)∨∀a,bo4=some a→wo.heap.size≤a.block:=hb5.imp_right fun e=>by rw[e];exact hlo
   have hp:=sepS ha5 h.cl (Nat.le_succ _) hg2
   have hq:=sepI hb6 h.sg (Nat.le_succ _) hg2
   have hT4:=hT6.below hb4
   obtain⟨u0,u1,u2,u3,u4,hu⟩:=hT4.frees
   generalize (m.toS X).getD (m,noT)=RR at*
   have hbl:=Zcs hT4.bl (Nat.le_succ w.heap.size) (.int .i64 RR.1.s) (.int .i64 RR.1.t) (.int .i64 RR.1.x) (.slice ao4 n4 c4) (.slice bo4 k4 d4)
   obtain⟨o0,o1,o2,o3,o4⟩:=out5 hu (.int .i64 RR.1.s) (.int .i64 RR.1.t) (.int .i64 RR.1.x) (.slice ao4 n4 c4) (.slice bo4 k4 d4)
   have hS5:=hS4.far (Ze8 w4 (w.heap.size+1) (.int .i64 RR.1.s) (.int .i64 RR.1.t) (.int .i64 RR.1.x) (.slice ao4 n4 c4) (.slice bo4 k4 d4)) hp hq
   obtain⟨f0,f1,f2,f3,f4,e0,e1,e2,e3,e4⟩:=fe5 hu
   unfold put5 at hbl o0 o1 o2 o3 o4 hS5
   have hw2:w.heap.size≤wo.heap.size:=by omega
   clear hT6 hT4 hb4 hR3 hA3 hS4 ha4 hb5 hp hq hlo
   unfold stV
   go_wp2_with fail
   refine bodyPost_ret (v:=.tuple #[.agg #[.int .i64 RR.1.s,.int .i64 RR.1.t,.int .i64 RR.1.x,.slice ao4 n4 c4,.slice bo4 k4 d4],.string (RR.2++nlT)]) (by simp[results,Tryz.results149,go_sem,o0,o1,o2,o3,o4]) rfl ?_
   exact⟨ao4,n4,c4,bo4,k4,d4,rfl,hS5,hbl,ha5.imp_right fun f a e=>Nat.le_trans hw2 (f a e),hb6.imp_right fun f a e=>Nat.le_trans hw2 (f a e)⟩
theorem Zaac {w:World} {ao:Option Addr} {n c:Nat} {bo:Option Addr} {k d g cf:Nat} {m:Mch} {K:Nat} {wo:ByteArray} {P:List ByteArray} (h:StW w ao n c bo k d m) (hk:wrd wo=some K) (hkd:kdL.getD K 0=0) (hnf:nfL.getD K (-1)=(P.length:Int)) (hf:RdT w (some ⟨g,0,none⟩) P.length P) (hz:∀p∈P,p.size≤20000):
 Calls Tryz.prog 151 #[stV m ao n c bo k d,.string wo,.slice (some ⟨g,0,none⟩) P.length cf] w (fun e w'=>e= .returned (.string (Zco (cmd m K P)))∧Below w.heap.size w w'):=by
 obtain⟨hk28,hkb⟩:=Zhj hk
 have hcs:K=3∨K=4∨K=5∨K=6∨K=7∨K=8∨K=9∨K=10∨K=11:=by
  have e0:K≠0:=fun e=>by
   have h1:(-1:Int)=(P.length:Int):=by rw[e]at hnf;exact hnf
   omega
  have e1:K≠1:=fun e=>by rw[e]at hkd;revert hkd;decide
  have e2:K≠2:=fun e=>by
   have h1:(-1:Int)=(P.length:Int):=by rw[e]at hnf;exact hnf
   omega
  have e12:K≠12:=fun e=>by rw[e]at hkd;revert hkd;decide
  have e13:K≠13:=fun e=>by rw[e]at hkd;revert hkd;decide
  have e14:K≠14:=fun e=>by
   have h1:(-1:Int)=(P.length:Int):=by rw[e]at hnf;exact hnf
   omega
  have e15:K≠15:=fun e=>by rw[e]at hkd;revert hkd;decide
  have e16:K≠16:=fun e=>by rw[e]at hkd;revert hkd;decide
  have e17:K≠17:=fun e=>by rw[e]at hkd;revert hkd;decide
  have e18:K≠18:=fun e=>by rw[e]at hkd;revert hkd;decide
  have e19:K≠19:=fun e=>by rw[e]at hkd;revert hkd;decide
  have e20:K≠20:=fun e=>by rw[e]at hkd;revert hkd;decide
  have e21:K≠21:=fun e=>by
   have h1:(-1:Int)=(P.length:Int):=by rw[e]at hnf;exact hnf
   omega
  have e22:K≠22:=fun e=>by rw[e]at hkd;revert hkd;decide
  have e23:K≠23:=fun e=>by rw[e]at hkd;revert hkd;decide
  have e24:K≠24:=fun e=>by rw[e]at hkd;revert hkd;decide
  have e25:K≠25:=fun e=>by
   have h1:(-1:Int)=(P.length:Int):=by rw[e]at hnf;exact hnf
   omega
  have e26:K≠26:=fun e=>by rw[e]at hkd;revert hkd;decide
  have e27:K≠27:=fun e=>by
   have h1:(-1:Int)=(P.length:Int):=by rw[e]at hnf;exact hnf
   omega
  omega
 rcases hcs with rfl|rfl|rfl|rfl|rfl|rfl|rfl|rfl|rfl
 ·obtain rfl:wo=(⟨#[98,105,116,115]⟩:ByteArray):=Zae hkb
  have h1:((1:Nat):Int)=(P.length:Int):=hnf
  obtain⟨fa,rfl⟩:=Zeq (l:=P) (by omega)
  exact Zz9 h hf hz
 ·obtain rfl:wo=(⟨#[104,111,112,115]⟩:ByteArray):=Zae hkb
  have h1:((2:Nat):Int)=(P.length:Int):=hnf
  obtain⟨fa,fb,rfl⟩:=Zf2 (l:=P) (by omega)
  exact Z08 h hf hz
 ·obtain rfl:wo=(⟨#[115,104,111,114,116,101,115,116]⟩:ByteArray):=Zae hkb
  have h1:((1:Nat):Int)=(P.length:Int):=hnf
  obtain⟨fa,rfl⟩:=Zeq (l:=P) (by omega)
  exact Zra h hf hz
 ·obtain rfl:wo=(⟨#[109,97,120,105,109,97,108]⟩:ByteArray):=Zae hkb
  have h1:((1:Nat):Int)=(P.length:Int):=hnf
  obtain⟨fa,rfl⟩:=Zeq (l:=P) (by omega)
  exact Zsd h hf hz
 ·obtain rfl:wo=(⟨#[99,114,111,115,115]⟩:ByteArray):=Zae hkb
  have h1:((3:Nat):Int)=(P.length:Int):=hnf
  obtain⟨fa,fb,fc,rfl⟩:=Zkn (l:=P) (by omega)
  exact Zw2 h hf hz
 ·obtain rfl:wo=(⟨#[112,101,97,107]⟩:ByteArray):=Zae hkb
  have h1:((2:Nat):Int)=(P.length:Int):=hnf
  obtain⟨fa,fb,rfl⟩:=Zf2 (l:=P) (by omega)
  exact Z1h h hf hz
 ·obtain rfl:wo=(⟨#[103,111,108,100]⟩:ByteArray):=Zae hkb
  have h1:((4:Nat):Int)=(P.length:Int):=hnf
  obtain⟨fa,fb,fc,fd,rfl⟩:=Z42 (l:=P) (by omega)
  exact Z1q h hf hz
 ·obtain rfl:wo=(⟨#[119,97,108,115,104]⟩:ByteArray):=Zae hkb
  have h1:((2:Nat):Int)=(P.length:Int):=hnf
  obtain⟨fa,fb,rfl⟩:=Zf2 (l:=P) (by omega)
  exact Zxy h hf hz
 ·obtain rfl:wo=(⟨#[116,114,101,101]⟩:ByteArray):=Zae hkb
  have h1:((1:Nat):Int)=(P.length:Int):=hnf
  obtain⟨fa,rfl⟩:=Zeq (l:=P) (by omega)
  exact Z07 h hf hz
theorem Zafz {w:World} {ao:Option Addr} {n c:Nat} {bo:Option Addr} {k d g cf:Nat} {m:Mch} {K:Nat} {wo:ByteArray} {P:List ByteArray} (h:StW w ao n c bo k d m) (hk:wrd wo=some K) (hkd:kdL.getD K 0=1) (hnf:nfL.getD K (-1)=(P.length:Int)) (hf:RdT w (some ⟨g,0,none⟩) P.length P) (hz:∀p∈P,p.size≤20000):
 Calls Tryz.prog 152 #[stV m ao n c bo k d,.string wo,.slice (some ⟨g,0,none⟩) P.length cf] w (fun e w'=>e= .returned (.string (Zco (cmd m K P)))∧Below w.heap.size w w'):=by
 obtain⟨hk28,hkb⟩:=Zhj hk
 have hcs:K=15∨K=16∨K=17∨K=18∨K=19∨K=20∨K=26:=by
  have e0:K≠0:=fun e=>by rw[e]at hkd;revert hkd;decide
  have e1:K≠1:=fun e=>by rw[e]at hkd;revert hkd;decide
  have e2:K≠2:=fun e=>by rw[e]at hkd;revert hkd;decide
  have e3:K≠3:=fun e=>by rw[e]at hkd;revert hkd;decide
  have e4:K≠4:=fun e=>by rw[e]at hkd;revert hkd;decide
  have e5:K≠5:=fun e=>by rw[e]at hkd;revert hkd;decide
  have e6:K≠6:=fun e=>by rw[e]at hkd;revert hkd;decide
  have e7:K≠7:=fun e=>by rw[e]at hkd;revert hkd;decide
  have e8:K≠8:=fun e=>by rw[e]at hkd;revert hkd;decide
  have e9:K≠9:=fun e=>by rw[e]at hkd;revert hkd;decide
  have e10:K≠10:=fun e=>by rw[e]at hkd;revert hkd;decide
  have e11:K≠11:=fun e=>by rw[e]at hkd;revert hkd;decide
  have e12:K≠12:=fun e=>by rw[e]at hkd;revert hkd;decide
  have e13:K≠13:=fun e=>by rw[e]at hkd;revert hkd;decide
  have e14:K≠14:=fun e=>by rw[e]at hkd;revert hkd;decide
  have e21:K≠21:=fun e=>by rw[e]at hkd;revert hkd;decide
  have e22:K≠22:=fun e=>by rw[e]at hkd;revert hkd;decide
  have e23:K≠23:=fun e=>by rw[e]at hkd;revert hkd;decide
  have e24:K≠24:=fun e=>by rw[e]at hkd;revert hkd;decide
  have e25:K≠25:=fun e=>by rw[e]at hkd;revert hkd;decide
  have e27:K≠27:=fun e=>by rw[e]at hkd;revert hkd;decide
  omega
 rcases hcs with rfl|rfl|rfl|rfl|rfl|rfl|rfl
 ·obtain rfl:wo=(⟨#[100,101,115,112,114,101,97,100]⟩:ByteArray):=Zae hkb
  have h1:((2:Nat):Int)=(P.length:Int):=hnf
  obtain⟨fa,fb,rfl⟩:=Zf2 (l:=P) (by omega)
  exact Zsp h hf hz
 ·obtain rfl:wo=(⟨#[114,101,99,101,105,118,101]⟩:ByteArray):=Zae hkb
  have h1:((3:Nat):Int)=(P.length:Int):=hnf
  obtain⟨fa,fb,fc,rfl⟩:=Zkn (l:=P) (by omega)
  exact Zuj h hf hz
 ·obtain rfl:wo=(⟨#[102,114,97,109,101]⟩:ByteArray):=Zae hkb
  have h1:((1:Nat):Int)=(P.length:Int):=hnf
  obtain⟨fa,rfl⟩:=Zeq (l:=P) (by omega)
  exact Z0x h hf hz
 ·obtain rfl:wo=(⟨#[102,105,110,100]⟩:ByteArray):=Zae hkb
  have h1:((1:Nat):Int)=(P.length:Int):=hnf
  obtain⟨fa,rfl⟩:=Zeq (l:=P) (by omega)
  exact Z6g hf hz
 ·obtain rfl:wo=(⟨#[112,114,111,116,101,99,116]⟩:ByteArray):=Zae hkb
  have h1:((2:Nat):Int)=(P.length:Int):=hnf
  obtain⟨fa,fb,rfl⟩:=Zf2 (l:=P) (by omega)
  exact Zws h hf hz
 ·obtain rfl:wo=(⟨#[111,112,101,110]⟩:ByteArray):=Zae hkb
  have h1:((2:Nat):Int)=(P.length:Int):=hnf
  obtain⟨fa,fb,rfl⟩:=Zf2 (l:=P) (by omega)
  exact Z6f h hf hz
 ·obtain rfl:wo=(⟨#[104,101,97,114]⟩:ByteArray):=Zae hkb
  have h1:((2:Nat):Int)=(P.length:Int):=hnf
  obtain⟨fa,fb,rfl⟩:=Zf2 (l:=P) (by omega)
  exact Z5x h hf hz
theorem Z50 {w:World} {ao:Option Addr} {n c:Nat} {bo:Option Addr} {k d g cf:Nat} {m:Mch} {K:Nat} {wo:ByteArray} {P:List ByteArray} (h:StW w ao n c bo k d m) (hk:wrd wo=some K) (hkd:kdL.getD K 0=2) (hnf:nfL.getD K (-1)=(P.length:Int)) (hf:RdT w (some ⟨g,0,none⟩) P.length P) (hz:∀p∈P,p.size≤20000):
 Calls Tryz.prog 153 #[stV m ao n c bo k d,.string wo,.slice (some ⟨g,0,none⟩) P.length cf] w (Zfz w ao n bo k ((cmd m K P).getD (m,noT))):=by
 obtain⟨hk28,hkb⟩:=Zhj hk
 have hcs:K=1∨K=12∨K=13∨K=22∨K=23∨K=24:=by
  have e0:K≠0:=fun e=>by rw[e]at hkd;revert hkd;decide
  have e2:K≠2:=fun e=>by rw[e]at hkd;revert hkd;decide
  have e3:K≠3:=fun e=>by rw[e]at hkd;revert hkd;decide
  have e4:K≠4:=fun e=>by rw[e]at hkd;revert hkd;decide
  have e5:K≠5:=fun e=>by rw[e]at hkd;revert hkd;decide
  have e6:K≠6:=fun e=>by rw[e]at hkd;revert hkd;decide
  have e7:K≠7:=fun e=>by rw[e]at hkd;revert hkd;decide
  have e8:K≠8:=fun e=>by rw[e]at hkd;revert hkd;decide
  have e9:K≠9:=fun e=>by rw[e]at hkd;revert hkd;decide
  have e10:K≠10:=fun e=>by rw[e]at hkd;revert hkd;decide
  have e11:K≠11:=fun e=>by rw[e]at hkd;revert hkd;decide
  have e14:K≠14:=fun e=>by rw[e]at hkd;revert hkd;decide
  have e15:K≠15:=fun e=>by rw[e]at hkd;revert hkd;decide
  have e16:K≠16:=fun e=>by rw[e]at hkd;revert hkd;decide
  have e17:K≠17:=fun e=>by rw[e]at hkd;revert hkd;decide
  have e18:K≠18:=fun e=>by rw[e]at hkd;revert hkd;decide
  have e19:K≠19:=fun e=>by rw[e]at hkd;revert hkd;decide
  have e20:K≠20:=fun e=>by rw[e]at hkd;revert hkd;decide
  have e21:K≠21:=fun e=>by rw[e]at hkd;revert hkd;decide
  have e25:K≠25:=fun e=>by rw[e]at hkd;revert hkd;decide
  have e26:K≠26:=fun e=>by rw[e]at hkd;revert hkd;decide
  have e27:K≠27:=fun e=>by rw[e]at hkd;revert hkd;decide
  omega
 rcases hcs with rfl|rfl|rfl|rfl|rfl|rfl
 ·obtain rfl:wo=(⟨#[106,117,109,112]⟩:ByteArray):=Zae hkb
  have h1:((1:Nat):Int)=(P.length:Int):=hnf
  obtain⟨fa,rfl⟩:=Zeq (l:=P) (by omega)
  exact Zzm h hf hz
 ·obtain rfl:wo=(⟨#[115,112,114,101,97,100]⟩:ByteArray):=Zae hkb
  have h1:((2:Nat):Int)=(P.length:Int):=hnf
  obtain⟨fa,fb,rfl⟩:=Zf2 (l:=P) (by omega)
  exact Zsc h hf hz
 ·obtain rfl:wo=(⟨#[103,97,105,110]⟩:ByteArray):=Zae hkb
  have h1:((1:Nat):Int)=(P.length:Int):=hnf
  obtain⟨fa,rfl⟩:=Zeq (l:=P) (by omega)
  exact Zy0 h hf hz
 ·obtain rfl:wo=(⟨#[97,100,109,105,116]⟩:ByteArray):=Zae hkb
  have h1:((3:Nat):Int)=(P.length:Int):=hnf
  obtain⟨fa,fb,fc,rfl⟩:=Zkn (l:=P) (by omega)
  exact Zv4 h hf hz
 ·obtain rfl:wo=(⟨#[114,101,108,101,97,115,101]⟩:ByteArray):=Zae hkb
  have h1:((1:Nat):Int)=(P.length:Int):=hnf
  obtain⟨fa,rfl⟩:=Zeq (l:=P) (by omega)
  exact Zrl h hf hz
 ·obtain rfl:wo=(⟨#[112,111,119,101,114]⟩:ByteArray):=Zae hkb
  have h1:((1:Nat):Int)=(P.length:Int):=hnf
  obtain⟨fa,rfl⟩:=Zeq (l:=P) (by omega)
  exact Zuk h hf hz
theorem Zfa {m m':Mch} {r:Option ByteArray} {o:ByteArray} (h:m.say r=some (m',o)):m'=m:=by
 unfold Mch.say at h
 cases r with
 |none=>cases h
 |some x=>cases h;rfl
theorem Zcy {m m':Mch} {o:ByteArray} {a:Option Int} {F:Int→Option (Mch×ByteArray)} (hF:∀x,F x=some (m',o)→m'=m) (h:a.bind F=some (m',o)):m'=m:=by
 cases a with
 |none=>cases h
 |some x=>exact hF x h
theorem Zuu {m m':Mch} {o o':ByteArray} (h:some (m,o')=some (m',o)):m'=m:=by cases h;rfl
theorem Zabc {m m':Mch} {K:Nat} {P:List ByteArray} {o:ByteArray} (h:cmd m K P=some (m',o)) (hk:K=3∨K=4∨K=5∨K=6∨K=7∨K=8∨K=9∨K=10∨K=11∨K=15∨K=16∨K=17∨K=18∨K=19∨K=20∨K=26):m'=m:=by
 rcases hk with rfl|rfl|rfl|rfl|rfl|rfl|rfl|rfl|rfl|rfl|rfl|rfl|rfl|rfl|rfl|rfl
 ·exact Zcy (fun x hx=>Zfa hx) h
 ·exact Zcy (fun x hx=>Zcy (fun y hy=>Zfa hy) hx) h
 ·exact Zfa h
 ·refine Zcy (fun x hx=>?_) h
  split at hx
  ·cases hx
  ·exact Zuu hx
 ·exact Zcy (fun x hx=>Zfa hx) h
 ·replace h:(if Zhz (fld P 0) (fld P 1)<0 then none else some (m,decT (Zhz (fld P 0) (fld P 1))))=some (m',o):=h
  split at h
  ·cases h
  ·exact Zuu h
 ·exact Zcy (fun x hx=>Zcy (fun y hy=>Zcy (fun z hz=>Zcy (fun t ht=>Zfa ht) hz) hy) hx) h
 ·exact Zcy (fun x hx=>Zcy (fun y hy=>Zfa hy) hx) h
 ·exact Zfa h
 ·exact Zcy (fun x hx=>Zfa hx) h
 ·exact Zcy (fun x hx=>Zcy (fun y hy=>Zfa hy) hx) h
 ·exact Zfa h
 ·replace h:(if allR (fld P 0)=[]then none else some (m,Zbi 32 ((allR (fld P 0)).map Zaf)))=some (m',o):=h
  split at h
  ·cases h
  ·exact Zuu h
 ·exact Zcy (fun x hx=>Zfa hx) h
 ·exact Zcy (fun x hx=>Zfa hx) h
 ·exact Zcy (fun x hx=>Zfa hx) h
theorem Zsv {m:Mch} {K:Nat} {P:List ByteArray} (hK:K<28) (hk:kdL.getD K 0<2) (hn:0≤nfL.getD K (-1)):((cmd m K P).getD (m,noT)).1=m∧Zco (cmd m K P)=((cmd m K P).getD (m,noT)).2++nlT:=by
 have hcs:K=3∨K=4∨K=5∨K=6∨K=7∨K=8∨K=9∨K=10∨K=11∨K=15∨K=16∨K=17∨K=18∨K=19∨K=20∨K=26:=by
  have e1:K≠0:=fun e=>by rw[e]at hn;revert hn;decide
  have e2:K≠1:=fun e=>by rw[e]at hk;revert hk;decide
  have e3:K≠2:=fun e=>by rw[e]at hn;revert hn;decide
  have e4:K≠12:=fun e=>by rw[e]at hk;revert hk;decide
  have e5:K≠13:=fun e=>by rw[e]at hk;revert hk;decide
  have e6:K≠14:=fun e=>by rw[e]at hn;revert hn;decide
  have e7:K≠21:=fun e=>by rw[e]at hn;revert hn;decide
  have e8:K≠22:=fun e=>by rw[e]at hk;revert hk;decide
  have e9:K≠23:=fun e=>by rw[e]at hk;revert hk;decide
  have e10:K≠24:=fun e=>by rw[e]at hk;revert hk;decide
  have e11:K≠25:=fun e=>by rw[e]at hn;revert hn;decide
  have e12:K≠27:=fun e=>by rw[e]at hn;revert hn;decide
  omega
 cases hc:cmd m K P with
 |none=>exact⟨rfl,rfl⟩
 |some r=>
  obtain⟨m',o⟩:=r
  exact⟨Zabc hc hcs,rfl⟩
end Go.Proofs.YtcjihfongfefoaaGreatDoor
