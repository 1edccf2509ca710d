/- Xb Xd Xg Xh -/
import Derived.Test.YtcjihfongfefoaaGreatDoorJ29
import Derived.Test.YtcjihfongfefoaaGreatDoorJ40
import Derived.Test.YtcjihfongfefoaaGreatDoorJ41
import Derived.Test.YtcjihfongfefoaaGreatDoorJ42
import Derived.Test.YtcjihfongfefoaaGreatDoorShlf
namespace Go.Proofs.YtcjihfongfefoaaGreatDoor
open Go.RowKit
set_option maxHeartbeats 25600000
set_option maxRecDepth 100000
def stV (m:Mch) (ao:Option Addr) (n c:Nat) (bo:Option Addr) (k d:Nat):Value:=.agg #[.int .i64 m.s,.int .i64 m.t,.int .i64 m.x,.slice ao n c,.slice bo k d]
structure StW (w:World) (ao:Option Addr) (n c:Nat) (bo:Option Addr) (k d:Nat) (m:Mch):Prop where
 cl:RdS w ao n m.C
 cap:n≤c
 no:ao=none→c=0
 sg:Rd w bo k m.S
 ok:OkM m
theorem StW.below {w w':World} {ao:Option Addr} {n c:Nat} {bo:Option Addr} {k d:Nat} {m:Mch} (h:StW w ao n c bo k d m) (hb:Below w.heap.size w w'):StW w' ao n c bo k d m:=⟨h.cl.below hb,h.cap,h.no,h.sg.below hb,h.ok⟩
def Zfz (w:World) (ao0:Option Addr) (n0:Nat) (bo0:Option Addr) (k0:Nat) (r:Mch×ByteArray) (e:Ending) (w':World):Prop:=
 ∃ao n c bo k d,e= .returned (.tuple #[stV r.1 ao n c bo k d,.string (r.2++nlT)])∧StW w' ao n c bo k d r.1∧Below w.heap.size w w'∧
  ((ao=ao0∧n=n0)∨∀a,ao=some a→w.heap.size≤a.block)∧((bo=bo0∧k=k0)∨∀a,bo=some a→w.heap.size≤a.block)
theorem Ziz {l:List Stn} (h:Zay l=true):∀i (hi:i<l.length),(l[i]'hi).nm.size≤1099511627776∧(l[i]'hi).ph.size≤1099511627776:=by
 intro i hi
 obtain⟨h1,h2,_,_⟩:=Zeu ((cellB_iff.1 h).2.1 _ (List.getElem_mem hi))
 have h3:=Zcr h2
 unfold Zdv at h1
 rw[Bool.and_eq_true]at h1
 have:=(inB_iff.1 h1.1).2
 exact⟨by omega,by omega⟩
theorem Z80 {l:List Int} (h:sigB l=true):∀x∈l,I63 x:=fun x hx=>by have:=Zabr h x hx;exact⟨by omega,by omega⟩
def Zajw (s:ByteArray) (C:UInt8) (v:Int):Prop:=(v= -1∧C ∉ bts s)∨∃k:Nat,∃hk:k<s.size,v=k∧(∀j (hj:j<s.size),j<k→s[j]≠C)∧s[k]=C
theorem Z0s {s:ByteArray} {C:UInt8} (h:∀j (hj:j<s.size),s[j]≠C):C ∉ bts s:=by
 intro hm
 obtain⟨j,hj,he⟩:=List.getElem_of_mem hm
 exact h j (by rwa [Zbz]at hj) he
theorem Zadf (s:ByteArray) (C:UInt8) (c:Int) (hc:c=(C.toNat:Int)) (w:World) (hs:s.size≤1000000000):Calls Tryz.prog 68 #[.string s,.int .u8 c] w fun e w'=>(∃v,e= .returned (.int .i64 v)∧Zajw s C v)∧w'=w:=by
 have HC:=Lib.hid hc
 clear hc
 go_enter Tryz.func68,Tryz.ntmps68
 go_wp2_with fail
 go_loopw [5] (fun i wr=>∃k:Nat,k≤s.size∧i= .int .i64 k∧Hid (∀j (hj:j<s.size),j<k→s[j]≠C)∧wr=w) (fun i _=>s.size-(intOf i).toNat)
 case atStart=>exact⟨0,Nat.zero_le _,rfl,Lib.hid (fun j _ h=>absurd h (by omega)),rfl⟩
 case round=>
  obtain⟨k,hk,rfl,HB,rfl⟩:=hrel
  by_cases hlt:k<s.size
  ·by_cases hcc:s[k]=C
   ·have HF:=Lib.hid (show Zajw s C (k:Int)from .inr ⟨k,hlt,rfl,HB.out,hcc⟩)
    have hce:((s[k].toNat:Int)==c)=true:=by rw[HC.out,hcc];simp
    clear hcc
    go_wp2_with fail
    go_ret
    exact⟨⟨_,rfl,HF.out⟩,rfl⟩
   ·have HN:=Lib.hid (show ∀j (hj:j<s.size),j<k+1→s[j]≠C from fun j hj hjk=>by
     by_cases e:j=k
     ·subst e;exact hcc
     ·exact HB.out j hj (by omega))
    have hce:((s[k].toNat:Int)==c)=false:=by
     rw[HC.out,beq_eq_false_iff_ne]
     intro e
     exact hcc (UInt8.toNat_inj.1 (by omega))
    clear hcc
    go_wp2_with fail
    go_roundw
    case rel=>exact⟨k+1,by omega,by go_num,HN,trivial⟩
    case measure=>simp[intOf];omega
  ·obtain rfl:k=s.size:=by omega
   have HF:=Lib.hid (show Zajw s C (-1)from .inl ⟨rfl,Z0s fun j hj=>HB.out j hj hj⟩)
   go_wp2_with fail
   go_ret
   exact⟨⟨_,rfl,HF.out⟩,rfl⟩
theorem Zxa (w:World):Calls Tryz.prog 66 #[] w fun e w'=>e= .returned (stV mch0 none 0 0 none 0 0)∧Below w.heap.size w w':=by
 have hb0:Below w.heap.size w (w.alloc (.cells #[.int .i64 3,.int .i64 3,.int .i64 1,.slice none 0 0,.slice none 0 0] 97)):=(Below.refl _ _).alloc (Nat.le_refl _) _
 have hB:=Box.new w #[.int .i64 3,.int .i64 3,.int .i64 1,.slice none 0 0,.slice none 0 0] 97
 have d0:=hB.cell (i:=0) rfl
 have d1:=hB.cell (i:=1) rfl
 have d2:=hB.cell (i:=2) rfl
 have d3:=hB.cell (i:=3) rfl
 have d4:=hB.cell (i:=4) rfl
 go_enter Tryz.func66,Tryz.ntmps66
 go_wp2_with fail
 refine bodyPost_ret (v:=.agg #[.int .i64 3,.int .i64 3,.int .i64 1,.slice none 0 0,.slice none 0 0]) (by simp[results,Tryz.results66,go_sem,d0,d1,d2,d3,d4]) rfl ⟨rfl,hb0⟩
structure Two (w:World) (v0 v1 v2 v3 v4:Value) (b:Bool) (w':World):Prop where
 b0:Box w' w.heap.size #[v0,v1,v2,v3,v4] 97
 b1:∃cs,Box w' (w.heap.size+1) cs 97∧cs.size=5∧(b=true→cs= #[v0,v1,v2,v3,v4])
 bl:Below w.heap.size w w'
theorem Two.below {w w1 w2:World} {v0 v1 v2 v3 v4:Value} {b:Bool} (h:Two w v0 v1 v2 v3 v4 b w1) (hb:Below w1.heap.size w1 w2):Two w v0 v1 v2 v3 v4 b w2:=by
 obtain⟨cs,h1,h2,h3⟩:=h.b1
 exact⟨h.b0.below hb h.b0.lt,⟨cs,h1.below hb h1.lt,h2,h3⟩,h.bl.trans (hb.mono h.bl.size)⟩
theorem Two.cells {w w1:World} {v0 v1 v2 v3 v4:Value} {b:Bool} (h:Two w v0 v1 v2 v3 v4 b w1):w1.cell? ⟨w.heap.size,0,none⟩=some v0∧w1.cell? ⟨w.heap.size,1,none⟩=some v1∧w1.cell? ⟨w.heap.size,2,none⟩=some v2∧w1.cell? ⟨w.heap.size,3,none⟩=some v3∧w1.cell? ⟨w.heap.size,4,none⟩=some v4:=
 ⟨h.b0.cell rfl,h.b0.cell rfl,h.b0.cell rfl,h.b0.cell rfl,h.b0.cell rfl⟩
theorem Two.outs {w w1:World} {v0 v1 v2 v3 v4:Value} (h:Two w v0 v1 v2 v3 v4 true w1):w1.cell? ⟨w.heap.size+1,0,none⟩=some v0∧w1.cell? ⟨w.heap.size+1,1,none⟩=some v1∧w1.cell? ⟨w.heap.size+1,2,none⟩=some v2∧w1.cell? ⟨w.heap.size+1,3,none⟩=some v3∧w1.cell? ⟨w.heap.size+1,4,none⟩=some v4:=by
 obtain⟨cs,h1,_,h3⟩:=h.b1
 obtain rfl:=h3 rfl
 exact⟨h1.cell rfl,h1.cell rfl,h1.cell rfl,h1.cell rfl,h1.cell rfl⟩
theorem Two.start {w:World} {v0 v1 v2 v3 v4 u0 u1 u2 u3 u4:Value}:Two w v0 v1 v2 v3 v4 false ((w.alloc (.cells #[v0,v1,v2,v3,v4] 97)).alloc (.cells #[u0,u1,u2,u3,u4] 97)):=by
 have hz:(w.alloc (.cells #[v0,v1,v2,v3,v4] 97)).heap.size=w.heap.size+1:=by simp
 have hb:Below w.heap.size w (w.alloc (.cells #[v0,v1,v2,v3,v4] 97)):=(Below.refl _ _).alloc (Nat.le_refl _) _
 have h1:=Box.new (w.alloc (.cells #[v0,v1,v2,v3,v4] 97)) #[u0,u1,u2,u3,u4] 97
 rw[hz]at h1
 exact⟨(Box.new w _ _).alloc _,⟨_,h1,rfl,fun h=>by cases h⟩,hb.alloc hb.size _⟩
theorem Two.drew {w w1:World} {v0 v1 v2 v3 v4:Value} {b:Bool} (h:Two w v0 v1 v2 v3 v4 b w1):Two w v0 v1 v2 v3 v4 b w1.drew:=h.below (Below.refl _ _).drew
theorem Two.frees {w w1:World} {v0 v1 v2 v3 v4:Value} {b:Bool} (h:Two w v0 v1 v2 v3 v4 b w1):∃u0 u1 u2 u3 u4,Box w1 (w.heap.size+1) #[u0,u1,u2,u3,u4] 97:=by
 obtain⟨cs,h1,h2,_⟩:=h.b1
 match cs,h2,h1 with
 |⟨[u0,u1,u2,u3,u4]⟩,_,h1=>exact⟨u0,u1,u2,u3,u4,h1⟩
def put5 (w:World) (b:Nat) (v0 v1 v2 v3 v4:Value):World:=((((w.setCell ⟨b,0,none⟩ v0).setCell ⟨b,1,none⟩ v1).setCell ⟨b,2,none⟩ v2).setCell ⟨b,3,none⟩ v3).setCell ⟨b,4,none⟩ v4
theorem Two.store {w w1:World} {v0 v1 v2 v3 v4:Value} {b:Bool} (h:Two w v0 v1 v2 v3 v4 b w1):Two w v0 v1 v2 v3 v4 true (put5 w1 (w.heap.size+1) v0 v1 v2 v3 v4):=by
 obtain⟨u0,u1,u2,u3,u4,hu⟩:=h.frees
 have hg:w1.grownBy (put5 w1 (w.heap.size+1) v0 v1 v2 v3 v4) (some (w.heap.size+1)):=Zel (Zel (Zel (Zel (Za1 _ 0 v0) (Za1 _ 1 v1)) (Za1 _ 2 v2)) (Za1 _ 3 v3)) (Za1 _ 4 v4)
 have hB:=((((hu.set2 0 v0).set2 1 v1).set2 2 v2).set2 3 v3).set2 4 v4
 refine⟨h.b0.gr hg (by omega),⟨_,by simpa[put5]using hB,rfl,fun _=>rfl⟩,?_⟩
 unfold put5
 exact((((h.bl.setCell (by simp) _).setCell (by simp) _).setCell (by simp) _).setCell (by simp) _).setCell (by simp) _
theorem Zf4 {o:Oper} {a:Act} {w1:World} {g:Nat} {x y:Operand} {s t z:Int} {ao bo:Option Addr} {n c k d:Nat} {u0 u1 u2 u3 u4:Value} (ho:o.op= .store 97 x y) (hx:a.eval x= .pointer (some ⟨g,0,none⟩)) (hy:a.eval y= .agg #[.int .i64 s,.int .i64 t,.int .i64 z,.slice ao n c,.slice bo k d])
 (hu:Box w1 g #[u0,u1,u2,u3,u4] 97):(execOp a.eval o).run Tryz.prog w1= .ok .skip (put5 w1 g (.int .i64 s) (.int .i64 t) (.int .i64 z) (.slice ao n c) (.slice bo k d)):=by
 have f0:=hu.free 0
 have f1:=hu.free 1
 have f2:=hu.free 2
 have f3:=hu.free 3
 have f4:=hu.free 4
 have e0:=hu.cell (i:=0) rfl
 have e1:=hu.cell (i:=1) rfl
 have e2:=hu.cell (i:=2) rfl
 have e3:=hu.cell (i:=3) rfl
 have e4:=hu.cell (i:=4) rfl
 unfold put5 execOp
 rw[ho]
 simp only[hx,hy]
 simp[go_sem,f0,f1,f2,f3,f4,e0,e1,e2,e3,e4]
theorem Zadn {w:World} {ao ao':Option Addr} {n c n' c':Nat} {bo:Option Addr} {k d:Nat} {m:Mch} {l:List Stn} (h':RdS w ao' n' l) (hl:Zay l=true):
 Calls Tryz.prog 235 #[stV m ao n c bo k d,.slice ao' n' c',.bool true] w fun e w'=>e= .returned (.tuple #[stV (m.setC l) ao' n' c' bo k d,.string (fmtT l++nlT)])∧Below w.heap.size w w':=by
 have hT:=Two.start (w:=w) (v0:=.int .i64 m.s) (v1:=.int .i64 m.t) (v2:=.int .i64 m.x) (v3:=.slice ao' n' c') (v4:=.slice bo k d) (u0:=.int .i64 0) (u1:=.int .i64 0) (u2:=.int .i64 0) (u3:=.slice none 0 0) (u4:=.slice none 0 0)
 have hz:=Zle l
 have n1:¬9223372036854775807<(fmtT l).size+1:=by omega
 unfold stV
 go_enter Tryz.func235,Tryz.ntmps235
 go_wp2_with fail
 refine Zau 4 (Two w (.int .i64 m.s) (.int .i64 m.t) (.int .i64 m.x) (.slice ao' n' c') (.slice bo k d)) (by kernel_rfl) (by kernel_rfl) hT.drew ?_
 refine sv (.agg #[.int .i64 m.s,.int .i64 m.t,.int .i64 m.x,.slice ao' n' c',.slice bo k d]) (fun b w1 hs=>?_) ?_
 ·obtain⟨d0,d1,d2,d3,d4⟩:=hs.cells
  go_simp
 refine Zs3 (by kernel_rfl) (by kernel_rfl) (fun _ _ _=>rfl) ?_
 refine sc (.string (fmtT l)) 144 (#[.slice ao' n' c']) (fun b w1 hs=>?_) ?_
 ·exact(Zf6 (h'.below hs.bl) (Ziz hl)).mono fun e w2 hr=>⟨hr.1,hs.below hr.2⟩
 refine sv (.string (fmtT l++⟨#[10]⟩)) (fun b w1 hs=>?_) ?_
 ·go_simp
 refine Zc3 (by kernel_rfl) rfl rfl (fun w1 hs=>?_) ?_
 ·obtain⟨u0,u1,u2,u3,u4,hu⟩:=hs.frees
  exact⟨_,Zf4 rfl (by kernel_rfl) (by kernel_rfl) hu,hs.store⟩
 refine Zs3 (by kernel_rfl) (by kernel_rfl) (fun _ _ _=>rfl) ?_
 refine Zbo fun w1 hs=>?_
 obtain⟨d0,d1,d2,d3,d4⟩:=Two.outs hs
 have hbl:=hs.bl
 clear hs
 go_wp2_with fail
 refine bodyPost_ret (v:=.tuple #[.agg #[.int .i64 m.s,.int .i64 m.t,.int .i64 m.x,.slice ao' n' c',.slice bo k d],.string (fmtT l++⟨#[10]⟩)]) (by simp[results,Tryz.results235,go_sem,d0,d1,d2,d3,d4]) rfl ?_
 exact⟨rfl,hbl⟩
theorem l8Move_f {w:World} {ao ao':Option Addr} {n c n' c':Nat} {bo:Option Addr} {k d:Nat} {m:Mch}:
 Calls Tryz.prog 235 #[stV m ao n c bo k d,.slice ao' n' c',.bool false] w fun e w'=>e= .returned (.tuple #[stV m ao n c bo k d,.string (noT++nlT)])∧Below w.heap.size w w':=by
 have hT:=Two.start (w:=w) (v0:=.int .i64 m.s) (v1:=.int .i64 m.t) (v2:=.int .i64 m.x) (v3:=.slice ao n c) (v4:=.slice bo k d) (u0:=.int .i64 m.s) (u1:=.int .i64 m.t) (u2:=.int .i64 m.x) (u3:=.slice ao n c) (u4:=.slice bo k d)
 have hbl:=hT.bl
 obtain⟨u0,u1,u2,u3,u4,hu⟩:=hT.frees
 have hz:(w.alloc (.cells #[.int .i64 m.s,.int .i64 m.t,.int .i64 m.x,.slice ao n c,.slice bo k d] 97)).heap.size=w.heap.size+1:=by simp
 have hu2:=Box.new (w.alloc (.cells #[.int .i64 m.s,.int .i64 m.t,.int .i64 m.x,.slice ao n c,.slice bo k d] 97)) #[.int .i64 m.s,.int .i64 m.t,.int .i64 m.x,.slice ao n c,.slice bo k d] 97
 rw[hz]at hu2
 have d0:=hu2.cell (i:=0) rfl
 have d1:=hu2.cell (i:=1) rfl
 have d2:=hu2.cell (i:=2) rfl
 have d3:=hu2.cell (i:=3) rfl
 have d4:=hu2.cell (i:=4) rfl
 clear hT hu hu2 hz
 unfold stV
 go_enter Tryz.func235,Tryz.ntmps235
 go_wp2_with fail
 refine bodyPost_ret (v:=.tuple #[.agg #[.int .i64 m.s,.int .i64 m.t,.int .i64 m.x,.slice ao n c,.slice bo k d],.string ⟨#[110,111,10]⟩]) (by simp[results,Tryz.results235,go_sem,d0,d1,d2,d3,d4]) rfl ?_
 exact⟨rfl,hbl⟩
theorem Zaej {w:World} {ao ao':Option Addr} {n c n' c':Nat} {bo:Option Addr} {k d:Nat} {m:Mch} {l:List Int} (h':Rd w ao' n' l) (hl:sigB l=true):
 Calls Tryz.prog 218 #[stV m ao n c bo k d,.slice ao' n' c',.bool true] w fun e w'=>e= .returned (.tuple #[stV (m.setS l) ao n c ao' n' c',.string (nmsT l++nlT)])∧Below w.heap.size w w':=by
 have hT:=Two.start (w:=w) (v0:=.int .i64 m.s) (v1:=.int .i64 m.t) (v2:=.int .i64 m.x) (v3:=.slice ao n c) (v4:=.slice ao' n' c') (u0:=.int .i64 0) (u1:=.int .i64 0) (u2:=.int .i64 0) (u3:=.slice none 0 0) (u4:=.slice none 0 0)
 have hz:=Zu3 hl
 have hn6:n'≤1000000:=by have:=Zhe hl;have:=h'.1;omega
 have n1:¬9223372036854775807<(nmsT l).size+1:=by omega
 unfold stV
 go_enter Tryz.func218,Tryz.ntmps218
 go_wp2_with fail
 refine Zau 4 (Two w (.int .i64 m.s) (.int .i64 m.t) (.int .i64 m.x) (.slice ao n c) (.slice ao' n' c')) (by kernel_rfl) (by kernel_rfl) hT.drew ?_
 refine sv (.agg #[.int .i64 m.s,.int .i64 m.t,.int .i64 m.x,.slice ao n c,.slice ao' n' c']) (fun b w1 hs=>?_) ?_
 ·obtain⟨d0,d1,d2,d3,d4⟩:=hs.cells
  go_simp
 refine Zs3 (by kernel_rfl) (by kernel_rfl) (fun _ _ _=>rfl) ?_
 refine sc (.string (nmsT l)) 145 (#[.slice ao' n' c']) (fun b w1 hs=>?_) ?_
 ·exact(Zfe (h'.below hs.bl) (Z80 hl) hn6).mono fun e w2 hr=>⟨hr.1,hs.below hr.2⟩
 refine sv (.string (nmsT l++⟨#[10]⟩)) (fun b w1 hs=>?_) ?_
 ·go_simp
 refine Zc3 (by kernel_rfl) rfl rfl (fun w1 hs=>?_) ?_
 ·obtain⟨u0,u1,u2,u3,u4,hu⟩:=hs.frees
  exact⟨_,Zf4 rfl (by kernel_rfl) (by kernel_rfl) hu,hs.store⟩
 refine Zs3 (by kernel_rfl) (by kernel_rfl) (fun _ _ _=>rfl) ?_
 refine Zbo fun w1 hs=>?_
 obtain⟨d0,d1,d2,d3,d4⟩:=Two.outs hs
 have hbl:=hs.bl
 clear hs
 go_wp2_with fail
 refine bodyPost_ret (v:=.tuple #[.agg #[.int .i64 m.s,.int .i64 m.t,.int .i64 m.x,.slice ao n c,.slice ao' n' c'],.string (nmsT l++⟨#[10]⟩)]) (by simp[results,Tryz.results218,go_sem,d0,d1,d2,d3,d4]) rfl ?_
 exact⟨rfl,hbl⟩
theorem l8Hear_f {w:World} {ao ao':Option Addr} {n c n' c':Nat} {bo:Option Addr} {k d:Nat} {m:Mch}:
 Calls Tryz.prog 218 #[stV m ao n c bo k d,.slice ao' n' c',.bool false] w fun e w'=>e= .returned (.tuple #[stV m ao n c bo k d,.string (noT++nlT)])∧Below w.heap.size w w':=by
 have hT:=Two.start (w:=w) (v0:=.int .i64 m.s) (v1:=.int .i64 m.t) (v2:=.int .i64 m.x) (v3:=.slice ao n c) (v4:=.slice bo k d) (u0:=.int .i64 m.s) (u1:=.int .i64 m.t) (u2:=.int .i64 m.x) (u3:=.slice ao n c) (u4:=.slice bo k d)
 have hbl:=hT.bl
 have hz:(w.alloc (.cells #[.int .i64 m.s,.int .i64 m.t,.int .i64 m.x,.slice ao n c,.slice bo k d] 97)).heap.size=w.heap.size+1:=by simp
 have hu2:=Box.new (w.alloc (.cells #[.int .i64 m.s,.int .i64 m.t,.int .i64 m.x,.slice ao n c,.slice bo k d] 97)) #[.int .i64 m.s,.int .i64 m.t,.int .i64 m.x,.slice ao n c,.slice bo k d] 97
 rw[hz]at hu2
 have d0:=hu2.cell (i:=0) rfl
 have d1:=hu2.cell (i:=1) rfl
 have d2:=hu2.cell (i:=2) rfl
 have d3:=hu2.cell (i:=3) rfl
 have d4:=hu2.cell (i:=4) rfl
 clear hT hu2 hz
 unfold stV
 go_enter Tryz.func218,Tryz.ntmps218
 go_wp2_with fail
 refine bodyPost_ret (v:=.tuple #[.agg #[.int .i64 m.s,.int .i64 m.t,.int .i64 m.x,.slice ao n c,.slice bo k d],.string ⟨#[110,111,10]⟩]) (by simp[results,Tryz.results218,go_sem,d0,d1,d2,d3,d4]) rfl ?_
 exact⟨rfl,hbl⟩
theorem out5 {w1:World} {g:Nat} {u0 u1 u2 u3 u4:Value} (hu:Box w1 g #[u0,u1,u2,u3,u4] 97) (v0 v1 v2 v3 v4:Value):
 (put5 w1 g v0 v1 v2 v3 v4).cell? ⟨g,0,none⟩=some v0∧(put5 w1 g v0 v1 v2 v3 v4).cell? ⟨g,1,none⟩=some v1∧(put5 w1 g v0 v1 v2 v3 v4).cell? ⟨g,2,none⟩=some v2∧(put5 w1 g v0 v1 v2 v3 v4).cell? ⟨g,3,none⟩=some v3∧(put5 w1 g v0 v1 v2 v3 v4).cell? ⟨g,4,none⟩=some v4:=by
 have hB:=((((hu.set2 0 v0).set2 1 v1).set2 2 v2).set2 3 v3).set2 4 v4
 have hB2:Box (put5 w1 g v0 v1 v2 v3 v4) g #[v0,v1,v2,v3,v4] 97:=by simpa[put5]using hB
 exact⟨hB2.cell rfl,hB2.cell rfl,hB2.cell rfl,hB2.cell rfl,hB2.cell rfl⟩
theorem Ze8 (w1:World) (g:Nat) (v0 v1 v2 v3 v4:Value):w1.grownBy (put5 w1 g v0 v1 v2 v3 v4) (some g):=Zel (Zel (Zel (Zel (Za1 _ 0 v0) (Za1 _ 1 v1)) (Za1 _ 2 v2)) (Za1 _ 3 v3)) (Za1 _ 4 v4)
theorem Zcs {w w1:World} {B g:Nat} (h:Below B w w1) (hB:B≤g) (v0 v1 v2 v3 v4:Value):Below B w (put5 w1 g v0 v1 v2 v3 v4):=by
 unfold put5
 exact((((h.setCell hB _).setCell hB _).setCell hB _).setCell hB _).setCell hB _
theorem Z86 {w:World} {lo n c:Nat} {ao:Option Addr} {l:List Int} (h:Own w lo ao n c l):∀a,ao=some a→lo≤a.block:=fun a ha=>(h.2.2.lt a.block (by rw[Zhr,ha];rfl)).1
theorem Zt9 {w:World} {lo n c:Nat} {ao:Option Addr} {l:List Stn} (h:OwnS w lo ao n c l):∀a,ao=some a→lo≤a.block:=fun a ha=>(h.lt a ha).1
def put3 (w:World) (b:Nat) (v0 v1 v2:Value):World:=((w.setCell ⟨b,0,none⟩ v0).setCell ⟨b,1,none⟩ v1).setCell ⟨b,2,none⟩ v2
theorem Zue (w1:World) (g:Nat) (v0 v1 v2:Value):w1.grownBy (put3 w1 g v0 v1 v2) (some g):=Zel (Zel (Za1 _ 0 v0) (Za1 _ 1 v1)) (Za1 _ 2 v2)
theorem Two.far {w w1 w2:World} {v0 v1 v2 v3 v4:Value} {b:Bool} {r:Nat} (h:Two w v0 v1 v2 v3 v4 b w1) (hg:w1.grownBy w2 (some r)) (hr:w.heap.size+1<r):Two w v0 v1 v2 v3 v4 b w2:=by
 obtain⟨cs,h1,h2,h3⟩:=h.b1
 exact⟨h.b0.gr hg (by omega),⟨cs,h1.gr hg (by omega),h2,h3⟩,h.bl.trans (Zah hg (by omega) h.bl.size)⟩
theorem Two.reg {w w1:World} {v0 v1 v2 v3 v4:Value} (h:Two w v0 v1 v2 v3 v4 false w1) (x0 x1 x2:Value):Two w x0 x1 x2 v3 v4 false (put3 w1 w.heap.size x0 x1 x2):=by
 obtain⟨cs,h1,h2,h3⟩:=h.b1
 have hg:=Zue w1 w.heap.size x0 x1 x2
 have hB:=((h.b0.set2 0 x0).set2 1 x1).set2 2 x2
 exact⟨by simpa[put3]using hB,⟨cs,h1.gr hg (by omega),h2,fun e=>by cases e⟩,h.bl.trans (Zah hg (Nat.le_refl _) h.bl.size)⟩
theorem Two.cel {w w1:World} {v0 v1 v2 v3 v4:Value} (h:Two w v0 v1 v2 v3 v4 false w1) (x:Value):Two w v0 v1 v2 x v4 false (w1.setCell ⟨w.heap.size,3,none⟩ x):=by
 obtain⟨cs,h1,h2,h3⟩:=h.b1
 have hg:=Za1 (w:=w1) w.heap.size 3 x
 have hB:=h.b0.set2 3 x
 exact⟨by simpa using hB,⟨cs,h1.gr hg (by omega),h2,fun e=>by cases e⟩,h.bl.trans (Zah hg (Nat.le_refl _) h.bl.size)⟩
theorem Zaer {w1:World} {g:Nat} {u0 u1 u2:Value} {t:TypeId} (hu:Box w1 g #[u0,u1,u2] t) (v0 v1 v2:Value):Box (put3 w1 g v0 v1 v2) g #[v0,v1,v2] t:=by
 have hB:=((hu.set2 0 v0).set2 1 v1).set2 2 v2
 simpa[put3]using hB
theorem Z72 {o:Oper} {a:Act} {w1:World} {g:Nat} {x y:Operand} {s t z:Int} {u0 u1 u2:Value} (ho:o.op= .store 46 x y) (hx:a.eval x= .pointer (some ⟨g,0,none⟩)) (hy:a.eval y= .agg #[.int .i64 s,.int .i64 t,.int .i64 z])
 (hu:Box w1 g #[u0,u1,u2] 46):(execOp a.eval o).run Tryz.prog w1= .ok .skip (put3 w1 g (.int .i64 s) (.int .i64 t) (.int .i64 z)):=by
 have f0:=hu.free 0
 have f1:=hu.free 1
 have f2:=hu.free 2
 have e0:=hu.cell (i:=0) rfl
 have e1:=hu.cell (i:=1) rfl
 have e2:=hu.cell (i:=2) rfl
 unfold put3 execOp
 rw[ho]
 simp only[hx,hy]
 simp[go_sem,f0,f1,f2,e0,e1,e2]
def JS (w w0:World) (v0 v1 v2 v3 v4:Value) (s t x:Int) (b:Bool) (r:Option Value) (w':World):Prop:=
 Two w v0 v1 v2 v3 v4 false w'∧Below w0.heap.size w0 w'∧∀v,r=some v→∃rr,v= .pointer (some ⟨rr,0,none⟩)∧w0.heap.size≤rr∧
  Box w' rr (bif b then #[.int .i64 s,.int .i64 t,.int .i64 x]else #[.int .i64 0,.int .i64 0,.int .i64 0]) 46
theorem JS.start {w w1:World} {v0 v1 v2 v3 v4:Value} {s t x:Int} (h:Two w v0 v1 v2 v3 v4 false w1):JS w w1 v0 v1 v2 v3 v4 s t x false none w1.drew:=⟨h.drew,(Below.refl _ _).drew,fun v e=>by cases e⟩
theorem JS.below {w w0 w1 w2:World} {v0 v1 v2 v3 v4:Value} {s t x:Int} {b:Bool} {r:Option Value} (h:JS w w0 v0 v1 v2 v3 v4 s t x b r w1) (hb:Below w1.heap.size w1 w2):JS w w0 v0 v1 v2 v3 v4 s t x b r w2:=
 ⟨h.1.below hb,h.2.1.trans (hb.mono h.2.1.size),fun v e=>by obtain⟨rr,h1,h2,h3⟩:=h.2.2 v e;exact⟨rr,h1,h2,h3.below hb h3.lt⟩⟩
theorem JS.alloc {w w0 w1:World} {v0 v1 v2 v3 v4:Value} {s t x:Int} (h:JS w w0 v0 v1 v2 v3 v4 s t x false none w1):
 JS w w0 v0 v1 v2 v3 v4 s t x false (some (.pointer (some ⟨w1.heap.size,0,none⟩))) (w1.alloc (.cells #[.int .i64 0,.int .i64 0,.int .i64 0] 46)):=by
 refine⟨h.1.below ((Below.refl _ _).alloc (Nat.le_refl _) _),h.2.1.alloc h.2.1.size _,fun v e=>?_⟩
 cases e
 exact⟨w1.heap.size,rfl,h.2.1.size,Box.new w1 _ _⟩
theorem JS.store {w w0 w1:World} {v0 v1 v2 v3 v4:Value} {s t x:Int} {rr:Nat} (h:JS w w0 v0 v1 v2 v3 v4 s t x false (some (.pointer (some ⟨rr,0,none⟩))) w1) (h0:w.heap.size+1<w0.heap.size):
 JS w w0 v0 v1 v2 v3 v4 s t x true (some (.pointer (some ⟨rr,0,none⟩))) (put3 w1 rr (.int .i64 s) (.int .i64 t) (.int .i64 x)):=by
 obtain⟨r2,h1,h2,h3⟩:=h.2.2 _ rfl
 cases h1
 refine⟨h.1.far (Zue w1 rr _ _ _) (by omega),h.2.1.trans (Zah (Zue w1 rr _ _ _) h2 h.2.1.size),fun v e=>?_⟩
 cases e
 exact⟨rr,rfl,h2,Zaer h3 _ _ _⟩
def TwoR (w:World) (v0 v1 v2 v3 v4:Value) (rr:Nat) (s t x:Int) (b:Bool) (w':World):Prop:=
 Two w v0 v1 v2 v3 v4 b w'∧Box w' rr #[.int .i64 s,.int .i64 t,.int .i64 x] 46∧w.heap.size+1<rr
theorem TwoR.below {w w1 w2:World} {v0 v1 v2 v3 v4:Value} {rr:Nat} {s t x:Int} {b:Bool} (h:TwoR w v0 v1 v2 v3 v4 rr s t x b w1) (hb:Below w1.heap.size w1 w2):TwoR w v0 v1 v2 v3 v4 rr s t x b w2:=⟨h.1.below hb,h.2.1.below hb h.2.1.lt,h.2.2⟩
theorem TwoR.store {w w1:World} {v0 v1 v2 v3 v4:Value} {rr:Nat} {s t x:Int} {b:Bool} (h:TwoR w v0 v1 v2 v3 v4 rr s t x b w1):TwoR w v0 v1 v2 v3 v4 rr s t x true (put5 w1 (w.heap.size+1) v0 v1 v2 v3 v4):=
 ⟨h.1.store,h.2.1.gr (Ze8 w1 (w.heap.size+1) v0 v1 v2 v3 v4) (by have:=h.2.2;omega),h.2.2⟩
theorem TwoR.reg {w w1:World} {v0 v1 v2 v3 v4:Value} {rr:Nat} {s t x:Int} (h:TwoR w v0 v1 v2 v3 v4 rr s t x false w1):TwoR w (.int .i64 s) (.int .i64 t) (.int .i64 x) v3 v4 rr s t x false (put3 w1 w.heap.size (.int .i64 s) (.int .i64 t) (.int .i64 x)):=
 ⟨h.1.reg _ _ _,h.2.1.gr (Zue w1 w.heap.size _ _ _) (by have:=h.2.2;omega),h.2.2⟩
theorem TwoR.regc {w w1:World} {v0 v1 v2 v3 v4:Value} {rr:Nat} {s t x:Int} {b:Bool} (h:TwoR w v0 v1 v2 v3 v4 rr s t x b w1):w1.cell? ⟨rr,0,none⟩=some (.int .i64 s)∧w1.cell? ⟨rr,1,none⟩=some (.int .i64 t)∧w1.cell? ⟨rr,2,none⟩=some (.int .i64 x):=⟨h.2.1.cell rfl,h.2.1.cell rfl,h.2.1.cell rfl⟩
theorem fe5 {w1:World} {g:Nat} {u0 u1 u2 u3 u4:Value} (hu:Box w1 g #[u0,u1,u2,u3,u4] 97):w1.frozen? ⟨g,0,none⟩=false∧w1.frozen? ⟨g,1,none⟩=false∧w1.frozen? ⟨g,2,none⟩=false∧w1.frozen? ⟨g,3,none⟩=false∧w1.frozen? ⟨g,4,none⟩=false∧
 w1.cell? ⟨g,0,none⟩=some u0∧w1.cell? ⟨g,1,none⟩=some u1∧w1.cell? ⟨g,2,none⟩=some u2∧w1.cell? ⟨g,3,none⟩=some u3∧w1.cell? ⟨g,4,none⟩=some u4:=
 ⟨hu.free 0,hu.free 1,hu.free 2,hu.free 3,hu.free 4,hu.cell rfl,hu.cell rfl,hu.cell rfl,hu.cell rfl,hu.cell rfl⟩
theorem StW.far {w1 w2:World} {ao:Option Addr} {n c:Nat} {bo:Option Addr} {k d:Nat} {m:Mch} {g:Nat} (h:StW w1 ao n c bo k d m) (hg:w1.grownBy w2 (some g)) (h1:0<n→∀a,ao=some a→a.block≠g) (h2:0<k→∀a,bo=some a→a.block≠g):StW w2 ao n c bo k d m:=by
 refine⟨?_,h.cap,h.no,?_,h.ok⟩
 ·rcases Nat.eq_zero_or_pos n with h0|h0
  ·refine⟨h.cl.1,h.cl.2.1,fun i hi=>?_⟩
   have:=h.cl.1
   omega
  ·exact h.cl.gr hg (h1 h0)
 ·exact h.sg.gr hg fun a ha h0=>h2 h0 a ha
theorem sepS {w w1:World} {ao ao':Option Addr} {n n' g:Nat} {C:List Stn} (h:(ao'=ao∧n'=n)∨∀a,ao'=some a→w1.heap.size≤a.block) (hr:RdS w ao n C) (h0:w.heap.size≤g) (h1:g<w1.heap.size):0<n'→∀a,ao'=some a→a.block≠g:=by
 intro hn a ha
 rcases h with ⟨rfl,rfl⟩|h
 ·have:=hr.lt a ha hn
  omega
 ·have:=h a ha
  omega
theorem sepI {w w1:World} {ao ao':Option Addr} {n n' g:Nat} {C:List Int} (h:(ao'=ao∧n'=n)∨∀a,ao'=some a→w1.heap.size≤a.block) (hr:Rd w ao n C) (h0:w.heap.size≤g) (h1:g<w1.heap.size):0<n'→∀a,ao'=some a→a.block≠g:=by
 intro hn a ha
 rcases h with ⟨rfl,rfl⟩|h
 ·obtain⟨b,off,e,_,hc⟩:=hr.at hn
  rw[ha]at e
  cases e
  have h3:b<w.heap.size:=Zaa hc
  show b≠g
  omega
 ·have:=h a ha
  omega
theorem Zvo {w:World} {ao ao':Option Addr} {n c n' c':Nat} {bo:Option Addr} {k d:Nat} {m:Mch} {r:Option (List Int)} (h:StW w ao n c bo k d m) (h':Rd w ao' n' (r.getD [])) (hl:∀l,r=some l→sigB l=true):
 Calls Tryz.prog 218 #[stV m ao n c bo k d,.slice ao' n' c',.bool r.isSome] w fun e w'=>∃ao4 n4 c4 bo4 k4 d4,e= .returned (.tuple #[stV ((m.toS r).getD (m,noT)).1 ao4 n4 c4 bo4 k4 d4,.string (((m.toS r).getD (m,noT)).2++nlT)])∧
  StW w' ao4 n4 c4 bo4 k4 d4 ((m.toS r).getD (m,noT)).1∧Below w.heap.size w w'∧(ao4=ao∧n4=n)∧((bo4=bo∧k4=k)∨bo4=ao'):=by
 cases r with
 |none=>exact l8Hear_f.mono fun e w' hr=>⟨ao,n,c,bo,k,d,hr.1,h.below hr.2,hr.2,⟨rfl,rfl⟩,.inl ⟨rfl,rfl⟩⟩
 |some l=>exact(Zaej h' (hl l rfl)).mono fun e w' hr=>⟨ao,n,c,ao',n',c',hr.1,⟨h.cl.below hr.2,h.cap,h.no,h'.below hr.2,⟨h.ok.1,h.ok.2.1,hl l rfl⟩⟩,hr.2,⟨rfl,rfl⟩,.inr rfl⟩
theorem Zwa {w:World} {ao ao':Option Addr} {n c n' c':Nat} {bo:Option Addr} {k d:Nat} {m:Mch} {r:Option (List Stn)} (h:StW w ao n c bo k d m) (h':RdS w ao' n' (r.getD [])) (hc:n'≤c') (hno:ao'=none→c'=0) (hl:∀l,r=some l→Zay l=true):
 Calls Tryz.prog 235 #[stV m ao n c bo k d,.slice ao' n' c',.bool r.isSome] w fun e w'=>∃ao4 n4 c4 bo4 k4 d4,e= .returned (.tuple #[stV ((m.toC r).getD (m,noT)).1 ao4 n4 c4 bo4 k4 d4,.string (((m.toC r).getD (m,noT)).2++nlT)])∧
  StW w' ao4 n4 c4 bo4 k4 d4 ((m.toC r).getD (m,noT)).1∧Below w.heap.size w w'∧((ao4=ao∧n4=n)∨ao4=ao')∧(bo4=bo∧k4=k):=by
 cases r with
 |none=>exact l8Move_f.mono fun e w' hr=>⟨ao,n,c,bo,k,d,hr.1,h.below hr.2,hr.2,.inl ⟨rfl,rfl⟩,⟨rfl,rfl⟩⟩
 |some l=>exact(Zadn h' (hl l rfl)).mono fun e w' hr=>⟨ao',n',c',bo,k,d,hr.1,⟨h'.below hr.2,hc,hno,h.sg.below hr.2,⟨h.ok.1,hl l rfl,h.ok.2.2⟩⟩,hr.2,.inr rfl,⟨rfl,rfl⟩⟩
theorem Zws {w:World} {ao:Option Addr} {n c:Nat} {bo:Option Addr} {k d g cf:Nat} {m:Mch} {fa fb:ByteArray} (h:StW w ao n c bo k d m) (hf:RdT w (some ⟨g,0,none⟩) 2 [fa,fb]) (hz:∀p∈[fa,fb],p.size≤20000):
 Calls Tryz.prog 152 #[stV m ao n c bo k d,.string (⟨#[112,114,111,116,101,99,116]⟩:ByteArray),.slice (some ⟨g,0,none⟩) 2 cf] w fun e w'=>e= .returned (.string (Zco (cmd m 19 [fa,fb])))∧Below w.heap.size w w':=by
 have hbA:Below w.heap.size w (w.alloc (.cells #[.int .i64 m.s,.int .i64 m.t,.int .i64 m.x,.slice ao n c,.slice bo k d] 97)):=(Below.refl _ _).alloc (Nat.le_refl _) _
 have hB:=Box.new w #[.int .i64 m.s,.int .i64 m.t,.int .i64 m.x,.slice ao n c,.slice bo k d] 97
 have d0:=hB.cell (i:=0) rfl
 have d1:=hB.cell (i:=1) rfl
 have d2:=hB.cell (i:=2) rfl
 have d3:=hB.cell (i:=3) rfl
 have d4:=hB.cell (i:=4) rfl
 clear hB
 have F0:=Zak (hf.below hbA) (j:=0) (by simp)
 have hz0:fa.size≤20000:=hz _ (by simp)
 have F1:=Zak (hf.below hbA) (j:=1) (by simp)
 have hz1:fb.size≤20000:=hz _ (by simp)
 have hA:=h.below hbA
 have hcmd:cmd m 19 [fa,fb]=m.say (prR (Zar fa) ((numT fb).getD badN) m.s m.t m.x):=Zgi (F:=fun x=>m.say (prR (Zar fa) x m.s m.t m.x)) (congrArg m.say (pr_bad _ _ _ _)) _
 obtain⟨X,hX⟩:∃X,prR (Zar fa) ((numT fb).getD badN) m.s m.t m.x=X:=⟨_,rfl⟩
 have hxz:(X.getD ByteArray.empty).size≤600:=by
  cases X with
  |none=>exact Nat.zero_le _
  |some r=>exact pr_sz hX
 have HX:=Lib.hid hX
 rw[hX]at hcmd
 have hdz:(X.getD ByteArray.empty).size≤1099511627776:=by omega
 have HT:=Lib.hid (show(if X.isSome=true then X.getD ByteArray.empty++nlT else noT++nlT)=Zco (cmd m 19 [fa,fb])by rw[hcmd];exact Zml m X _)
 clear hcmd hX hxz h hf hz
 unfold stV
 go_enter Tryz.func152,Tryz.ntmps152
 go_wp2_with fail
 generalize (w.alloc (.cells #[.int .i64 m.s,.int .i64 m.t,.int .i64 m.x,.slice ao n c,.slice bo k d] 97))=w1 at*
 refine Zau 100 (fun _ w'=>Below w1.heap.size w1 w') (by kernel_rfl) (by kernel_rfl) (Below.refl _ _).drew ?_
 refine sk (.slice (some ⟨g,0,none⟩) 2 cf) ?_
 refine sv (.pointer (some ⟨g,0,none⟩)) (fun b w1 hs=>?_) ?_
 ·go_simp
 refine sv (.string fa) (fun b w1 hs=>?_) ?_
 ·have kf:=(hs.cell (Zaa F0)).trans F0
  go_simp
 refine sc (.string (Zar fa)) 217 (#[.string fa]) (fun b w1 hs=>?_) ?_
 ·exact(Zkk fa _).mono fun e w2 hr=>⟨hr.1,by rw[←hr.2];exact hs⟩
 refine sk (.slice (some ⟨g,0,none⟩) 2 cf) ?_
 refine sv (.pointer (some ⟨g,1,none⟩)) (fun b w1 hs=>?_) ?_
 ·go_simp
 refine sv (.string fb) (fun b w1 hs=>?_) ?_
 ·have kf:=(hs.cell (Zaa F1)).trans F1
  go_simp
 refine sc (.int .i64 ((numT fb).getD badN)) 220 (#[.string fb]) (fun b w1 hs=>?_) ?_
 ·exact(Zch fb _ (by have:=hz1;omega)).mono fun e w2 hr=>⟨hr.1,by rw[hr.2];exact hs⟩
 refine sk (.pointer (some ⟨w.heap.size,0,none⟩)) ?_
 refine sv (.agg #[.int .i64 m.s,.int .i64 m.t,.int .i64 m.x]) (fun b w1 hs=>?_) ?_
 ·have k0:=(hs.cell (Zaa d0)).trans d0;have k1:=(hs.cell (Zaa d1)).trans d1;have k2:=(hs.cell (Zaa d2)).trans d2
  go_simp
 refine sc (.tuple #[.string (X.getD ByteArray.empty),.bool X.isSome]) 34 (#[.string (Zar fa),.int .i64 ((numT fb).getD badN),.agg #[.int .i64 m.s,.int .i64 m.t,.int .i64 m.x]]) (fun b w1 hs=>?_) ?_
 ·exact((Zd4 _ _ _ _ _ _ (by have:=Znn fa;omega)).mono fun e w2 hr=>by rw[HX.out]at hr;exact⟨hr.1,hs.trans (hr.2.mono hs.size)⟩)
 refine sk (.tuple #[.string (X.getD ByteArray.empty),.bool X.isSome]) ?_
 refine sk (.string (X.getD ByteArray.empty)) ?_
 refine sk (.bool X.isSome) ?_
 refine sk (.string (X.getD ByteArray.empty)) ?_
 refine sk (.bool X.isSome) ?_
 refine Zbo fun w2 hs=>?_
 have hb2:=hbA.trans (hs.mono hbA.size)
 clear hs hA F0 F1
 go_wp2_with fail
 refine(Zc4 _ _ _ hdz).mono ?_;rintro e w3 ⟨rfl,rfl⟩
 rw[HT.out]
 go_wp2_with fail
 go_ret
 exact⟨rfl,hb2⟩
theorem Z6f {w:World} {ao:Option Addr} {n c:Nat} {bo:Option Addr} {k d g cf:Nat} {m:Mch} {fa fb:ByteArray} (h:StW w ao n c bo k d m) (hf:RdT w (some ⟨g,0,none⟩) 2 [fa,fb]) (hz:∀p∈[fa,fb],p.size≤20000):
 Calls Tryz.prog 152 #[stV m ao n c bo k d,.string (⟨#[111,112,101,110]⟩:ByteArray),.slice (some ⟨g,0,none⟩) 2 cf] w fun e w'=>e= .returned (.string (Zco (cmd m 20 [fa,fb])))∧Below w.heap.size w w':=by
 have hbA:Below w.heap.size w (w.alloc (.cells #[.int .i64 m.s,.int .i64 m.t,.int .i64 m.x,.slice ao n c,.slice bo k d] 97)):=(Below.refl _ _).alloc (Nat.le_refl _) _
 have hB:=Box.new w #[.int .i64 m.s,.int .i64 m.t,.int .i64 m.x,.slice ao n c,.slice bo k d] 97
 have d0:=hB.cell (i:=0) rfl
 have d1:=hB.cell (i:=1) rfl
 have d2:=hB.cell (i:=2) rfl
 have d3:=hB.cell (i:=3) rfl
 have d4:=hB.cell (i:=4) rfl
 clear hB
 have F0:=Zak (hf.below hbA) (j:=0) (by simp)
 have hz0:fa.size≤20000:=hz _ (by simp)
 have F1:=Zak (hf.below hbA) (j:=1) (by simp)
 have hz1:fb.size≤20000:=hz _ (by simp)
 have hA:=h.below hbA
 have hcmd:cmd m 20 [fa,fb]=m.say ((opR fa ((numT fb).getD badN) m.s m.t m.x).map Zaf):=Zgi (F:=fun x=>m.say ((opR fa x m.s m.t m.x).map Zaf)) (congrArg (fun r=>m.say (Option.map Zaf r)) (op_bad _ _ _ _)) _
 obtain⟨X,hX⟩:∃X,opR fa ((numT fb).getD badN) m.s m.t m.x=X:=⟨_,rfl⟩
 have hxz:(X.getD ByteArray.empty).size≤600:=by
  cases X with
  |none=>exact Nat.zero_le _
  |some r=>exact op_sz hX
 have HX:=Lib.hid hX
 rw[hX]at hcmd
 have hdz:(Zaf (X.getD ByteArray.empty)).size≤1099511627776:=by have:=Ze2 (X.getD ByteArray.empty);omega
 have HT:=Lib.hid (show(if X.isSome=true then Zaf (X.getD ByteArray.empty)++nlT else noT++nlT)=Zco (cmd m 20 [fa,fb])by rw[hcmd];exact Zjs m X Zaf _)
 clear hcmd hX hxz h hf hz
 unfold stV
 go_enter Tryz.func152,Tryz.ntmps152
 go_wp2_with fail
 generalize (w.alloc (.cells #[.int .i64 m.s,.int .i64 m.t,.int .i64 m.x,.slice ao n c,.slice bo k d] 97))=w1 at*
 refine Zau 100 (fun _ w'=>Below w1.heap.size w1 w') (by kernel_rfl) (by kernel_rfl) (Below.refl _ _).drew ?_
 refine sk (.slice (some ⟨g,0,none⟩) 2 cf) ?_
 refine sv (.pointer (some ⟨g,0,none⟩)) (fun b w1 hs=>?_) ?_
 ·go_simp
 refine sv (.string fa) (fun b w1 hs=>?_) ?_
 ·have kf:=(hs.cell (Zaa F0)).trans F0
  go_simp
 refine sk (.slice (some ⟨g,0,none⟩) 2 cf) ?_
 refine sv (.pointer (some ⟨g,1,none⟩)) (fun b w1 hs=>?_) ?_
 ·go_simp
 refine sv (.string fb) (fun b w1 hs=>?_) ?_
 ·have kf:=(hs.cell (Zaa F1)).trans F1
  go_simp
 refine sc (.int .i64 ((numT fb).getD badN)) 220 (#[.string fb]) (fun b w1 hs=>?_) ?_
 ·exact(Zch fb _ (by have:=hz1;omega)).mono fun e w2 hr=>⟨hr.1,by rw[hr.2];exact hs⟩
 refine sk (.pointer (some ⟨w.heap.size,0,none⟩)) ?_
 refine sv (.agg #[.int .i64 m.s,.int .i64 m.t,.int .i64 m.x]) (fun b w1 hs=>?_) ?_
 ·have k0:=(hs.cell (Zaa d0)).trans d0;have k1:=(hs.cell (Zaa d1)).trans d1;have k2:=(hs.cell (Zaa d2)).trans d2
  go_simp
 refine sc (.tuple #[.string (X.getD ByteArray.empty),.bool X.isSome]) 230 (#[.string fa,.int .i64 ((numT fb).getD badN),.agg #[.int .i64 m.s,.int .i64 m.t,.int .i64 m.x]]) (fun b w1 hs=>?_) ?_
 ·exact((Zsr _ _ _ _ _ _ (by omega)).mono fun e w2 hr=>by rw[HX.out]at hr;exact⟨hr.1,hs.trans (hr.2.mono hs.size)⟩)
 refine sk (.tuple #[.string (X.getD ByteArray.empty),.bool X.isSome]) ?_
 refine sk (.string (X.getD ByteArray.empty)) ?_
 refine sk (.bool X.isSome) ?_
 refine sk (.string (X.getD ByteArray.empty)) ?_
 refine sk (.bool X.isSome) ?_
 refine Zbo fun w2 hs=>?_
 have hb2:=hbA.trans (hs.mono hbA.size)
 clear hs hA F0 F1
 go_wp2_with fail
 refine(Zev _ _).mono ?_;rintro e w3 ⟨rfl,rfl⟩
 go_wp2_with fail
 refine(Zc4 _ _ _ hdz).mono ?_;rintro e w3 ⟨rfl,rfl⟩
 rw[HT.out]
 go_wp2_with fail
 go_ret
 exact⟨rfl,hb2⟩
theorem Zuj {w:World} {ao:Option Addr} {n c:Nat} {bo:Option Addr} {k d g cf:Nat} {m:Mch} {fa fb fc:ByteArray} (h:StW w ao n c bo k d m) (hf:RdT w (some ⟨g,0,none⟩) 3 [fa,fb,fc]) (hz:∀p∈[fa,fb,fc],p.size≤20000):
 Calls Tryz.prog 152 #[stV m ao n c bo k d,.string (⟨#[114,101,99,101,105,118,101]⟩:ByteArray),.slice (some ⟨g,0,none⟩) 3 cf] w fun e w'=>e= .returned (.string (Zco (cmd m 16 [fa,fb,fc])))∧Below w.heap.size w w':=by
 have hbA:Below w.heap.size w (w.alloc (.cells #[.int .i64 m.s,.int .i64 m.t,.int .i64 m.x,.slice ao n c,.slice bo k d] 97)):=(Below.refl _ _).alloc (Nat.le_refl _) _
 have hB:=Box.new w #[.int .i64 m.s,.int .i64 m.t,.int .i64 m.x,.slice ao n c,.slice bo k d] 97
 have d0:=hB.cell (i:=0) rfl
 have d1:=hB.cell (i:=1) rfl
 have d2:=hB.cell (i:=2) rfl
 have d3:=hB.cell (i:=3) rfl
 have d4:=hB.cell (i:=4) rfl
 clear hB
 have F0:=Zak (hf.below hbA) (j:=0) (by simp)
 have hz0:fa.size≤20000:=hz _ (by simp)
 have F1:=Zak (hf.below hbA) (j:=1) (by simp)
 have hz1:fb.size≤20000:=hz _ (by simp)
 have F2:=Zak (hf.below hbA) (j:=2) (by simp)
 have hz2:fc.size≤20000:=hz _ (by simp)
 have hA:=h.below hbA
 have hcmd:cmd m 16 [fa,fb,fc]=m.say ((rcvR m.S fa ((numT fb).getD badN) ((numT fc).getD badN)).map Zaf):=Zl7 (F:=fun x y=>m.say ((rcvR m.S fa x y).map Zaf)) (fun y=>(congrArg (fun r=>m.say (Option.map Zaf r)) (Zaeb _ _ y))) (fun x=>(congrArg (fun r=>m.say (Option.map Zaf r)) (Z4d _ _ x))) _ _
 obtain⟨X,hX⟩:∃X,rcvR m.S fa ((numT fb).getD badN) ((numT fc).getD badN)=X:=⟨_,rfl⟩
 have hxz:(X.getD ByteArray.empty).size≤600:=by
  cases X with
  |none=>exact Nat.zero_le _
  |some r=>exact Z71 hX
 have HX:=Lib.hid hX
 rw[hX]at hcmd
 have hdz:(Zaf (X.getD ByteArray.empty)).size≤1099511627776:=by have:=Ze2 (X.getD ByteArray.empty);omega
 have HT:=Lib.hid (show(if X.isSome=true then Zaf (X.getD ByteArray.empty)++nlT else noT++nlT)=Zco (cmd m 16 [fa,fb,fc])by rw[hcmd];exact Zjs m X Zaf _)
 clear hcmd hX hxz h hf hz
 unfold stV
 go_enter Tryz.func152,Tryz.ntmps152
 go_wp2_with fail
 generalize (w.alloc (.cells #[.int .i64 m.s,.int .i64 m.t,.int .i64 m.x,.slice ao n c,.slice bo k d] 97))=w1 at*
 refine Zau 100 (fun _ w'=>Below w1.heap.size w1 w') (by kernel_rfl) (by kernel_rfl) (Below.refl _ _).drew ?_
 refine sk (.pointer (some ⟨w.heap.size,4,none⟩)) ?_
 refine sv (.slice bo k d) (fun b w1 hs=>?_) ?_
 ·have k4:=(hs.cell (Zaa d4)).trans d4
  go_simp
 refine sk (.slice (some ⟨g,0,none⟩) 3 cf) ?_
 refine sv (.pointer (some ⟨g,0,none⟩)) (fun b w1 hs=>?_) ?_
 ·go_simp
 refine sv (.string fa) (fun b w1 hs=>?_) ?_
 ·have kf:=(hs.cell (Zaa F0)).trans F0
  go_simp
 refine sk (.slice (some ⟨g,0,none⟩) 3 cf) ?_
 refine sv (.pointer (some ⟨g,1,none⟩)) (fun b w1 hs=>?_) ?_
 ·go_simp
 refine sv (.string fb) (fun b w1 hs=>?_) ?_
 ·have kf:=(hs.cell (Zaa F1)).trans F1
  go_simp
 refine sc (.int .i64 ((numT fb).getD badN)) 220 (#[.string fb]) (fun b w1 hs=>?_) ?_
 ·exact(Zch fb _ (by have:=hz1;omega)).mono fun e w2 hr=>⟨hr.1,by rw[hr.2];exact hs⟩
 refine sk (.slice (some ⟨g,0,none⟩) 3 cf) ?_
 refine sv (.pointer (some ⟨g,2,none⟩)) (fun b w1 hs=>?_) ?_
 ·go_simp
 refine sv (.string fc) (fun b w1 hs=>?_) ?_
 ·have kf:=(hs.cell (Zaa F2)).trans F2
  go_simp
 refine sc (.int .i64 ((numT fc).getD badN)) 220 (#[.string fc]) (fun b w1 hs=>?_) ?_
 ·exact(Zch fc _ (by have:=hz2;omega)).mono fun e w2 hr=>⟨hr.1,by rw[hr.2];exact hs⟩
 refine sc (.tuple #[.string (X.getD ByteArray.empty),.bool X.isSome]) 232 (#[.slice bo k d,.string fa,.int .i64 ((numT fb).getD badN),.int .i64 ((numT fc).getD badN)]) (fun b w1 hs=>?_) ?_
 ·exact((Zla _ _ _ (hA.sg.below hs) (by omega)).mono fun e w2 hr=>by rw[HX.out]at hr;exact⟨hr.1,hs.trans (hr.2.mono hs.size)⟩)
 refine sk (.tuple #[.string (X.getD ByteArray.empty),.bool X.isSome]) ?_
 refine sk (.string (X.getD ByteArray.empty)) ?_
 refine sk (.bool X.isSome) ?_
 refine sk (.string (X.getD ByteArray.empty)) ?_
 refine sk (.bool X.isSome) ?_
 refine Zbo fun w2 hs=>?_
 have hb2:=hbA.trans (hs.mono hbA.size)
 clear hs hA F0 F1 F2
 go_wp2_with fail
 refine(Zev _ _).mono ?_;rintro e w3 ⟨rfl,rfl⟩
 go_wp2_with fail
 refine(Zc4 _ _ _ hdz).mono ?_;rintro e w3 ⟨rfl,rfl⟩
 rw[HT.out]
 go_wp2_with fail
 go_ret
 exact⟨rfl,hb2⟩
theorem Z5x {w:World} {ao:Option Addr} {n c:Nat} {bo:Option Addr} {k d g cf:Nat} {m:Mch} {fa fb:ByteArray} (h:StW w ao n c bo k d m) (hf:RdT w (some ⟨g,0,none⟩) 2 [fa,fb]) (hz:∀p∈[fa,fb],p.size≤20000):
 Calls Tryz.prog 152 #[stV m ao n c bo k d,.string (⟨#[104,101,97,114]⟩:ByteArray),.slice (some ⟨g,0,none⟩) 2 cf] w fun e w'=>e= .returned (.string (Zco (cmd m 26 [fa,fb])))∧Below w.heap.size w w':=by
 have hbA:Below w.heap.size w (w.alloc (.cells #[.int .i64 m.s,.int .i64 m.t,.int .i64 m.x,.slice ao n c,.slice bo k d] 97)):=(Below.refl _ _).alloc (Nat.le_refl _) _
 have hB:=Box.new w #[.int .i64 m.s,.int .i64 m.t,.int .i64 m.x,.slice ao n c,.slice bo k d] 97
 have d0:=hB.cell (i:=0) rfl
 have d1:=hB.cell (i:=1) rfl
 have d2:=hB.cell (i:=2) rfl
 have d3:=hB.cell (i:=3) rfl
 have d4:=hB.cell (i:=4) rfl
 clear hB
 have F0:=Zak (hf.below hbA) (j:=0) (by simp)
 have hz0:fa.size≤20000:=hz _ (by simp)
 have F1:=Zak (hf.below hbA) (j:=1) (by simp)
 have hz1:fb.size≤20000:=hz _ (by simp)
 have hA:=h.below hbA
 have hcmd:cmd m 26 [fa,fb]=m.say ((crcR m.C m.S fa ((numT fb).getD badN)).map Zaf):=Zgi (F:=fun x=>m.say ((crcR m.C m.S fa x).map Zaf)) (congrArg (fun r=>m.say (Option.map Zaf r)) (Zah6 _ _ _)) _
 obtain⟨X,hX⟩:∃X,crcR m.C m.S fa ((numT fb).getD badN)=X:=⟨_,rfl⟩
 have hxz:(X.getD ByteArray.empty).size≤600:=by
  cases X with
  |none=>exact Nat.zero_le _
  |some r=>exact Zah2 hX
 have HX:=Lib.hid hX
 rw[hX]at hcmd
 have hdz:(Zaf (X.getD ByteArray.empty)).size≤1099511627776:=by have:=Ze2 (X.getD ByteArray.empty);omega
 have HT:=Lib.hid (show(if X.isSome=true then Zaf (X.getD ByteArray.empty)++nlT else noT++nlT)=Zco (cmd m 26 [fa,fb])by rw[hcmd];exact Zjs m X Zaf _)
 clear hcmd hX hxz h hf hz
 unfold stV
 go_enter Tryz.func152,Tryz.ntmps152
 go_wp2_with fail
 generalize (w.alloc (.cells #[.int .i64 m.s,.int .i64 m.t,.int .i64 m.x,.slice ao n c,.slice bo k d] 97))=w1 at*
 refine Zau 100 (fun _ w'=>Below w1.heap.size w1 w') (by kernel_rfl) (by kernel_rfl) (Below.refl _ _).drew ?_
 refine sk (.pointer (some ⟨w.heap.size,3,none⟩)) ?_
 refine sv (.slice ao n c) (fun b w1 hs=>?_) ?_
 ·have k3:=(hs.cell (Zaa d3)).trans d3
  go_simp
 refine sk (.pointer (some ⟨w.heap.size,4,none⟩)) ?_
 refine sv (.slice bo k d) (fun b w1 hs=>?_) ?_
 ·have k4:=(hs.cell (Zaa d4)).trans d4
  go_simp
 refine sk (.slice (some ⟨g,0,none⟩) 2 cf) ?_
 refine sv (.pointer (some ⟨g,0,none⟩)) (fun b w1 hs=>?_) ?_
 ·go_simp
 refine sv (.string fa) (fun b w1 hs=>?_) ?_
 ·have kf:=(hs.cell (Zaa F0)).trans F0
  go_simp
 refine sk (.slice (some ⟨g,0,none⟩) 2 cf) ?_
 refine sv (.pointer (some ⟨g,1,none⟩)) (fun b w1 hs=>?_) ?_
 ·go_simp
 refine sv (.string fb) (fun b w1 hs=>?_) ?_
 ·have kf:=(hs.cell (Zaa F1)).trans F1
  go_simp
 refine sc (.int .i64 ((numT fb).getD badN)) 220 (#[.string fb]) (fun b w1 hs=>?_) ?_
 ·exact(Zch fb _ (by have:=hz1;omega)).mono fun e w2 hr=>⟨hr.1,by rw[hr.2];exact hs⟩
 refine sc (.tuple #[.string (X.getD ByteArray.empty),.bool X.isSome]) 233 (#[.slice ao n c,.slice bo k d,.string fa,.int .i64 ((numT fb).getD badN)]) (fun b w1 hs=>?_) ?_
 ·exact((Zsa _ _ (hA.cl.below hs) (hA.sg.below hs) (Ziz hA.ok.2.1)).mono fun e w2 hr=>by rw[HX.out]at hr;exact⟨hr.1,hs.trans (hr.2.mono hs.size)⟩)
 refine sk (.tuple #[.string (X.getD ByteArray.empty),.bool X.isSome]) ?_
 refine sk (.string (X.getD ByteArray.empty)) ?_
 refine sk (.bool X.isSome) ?_
 refine sk (.string (X.getD ByteArray.empty)) ?_
 refine sk (.bool X.isSome) ?_
 refine Zbo fun w2 hs=>?_
 have hb2:=hbA.trans (hs.mono hbA.size)
 clear hs hA F0 F1
 go_wp2_with fail
 refine(Zev _ _).mono ?_;rintro e w3 ⟨rfl,rfl⟩
 go_wp2_with fail
 refine(Zc4 _ _ _ hdz).mono ?_;rintro e w3 ⟨rfl,rfl⟩
 rw[HT.out]
 go_wp2_with fail
 go_ret
 exact⟨rfl,hb2⟩
theorem Zsp {w:World} {ao:Option Addr} {n c:Nat} {bo:Option Addr} {k d g cf:Nat} {m:Mch} {fa fb:ByteArray} (h:StW w ao n c bo k d m) (hf:RdT w (some ⟨g,0,none⟩) 2 [fa,fb]) (hz:∀p∈[fa,fb],p.size≤20000):
 Calls Tryz.prog 152 #[stV m ao n c bo k d,.string (⟨#[100,101,115,112,114,101,97,100]⟩:ByteArray),.slice (some ⟨g,0,none⟩) 2 cf] w fun e w'=>e= .returned (.string (Zco (cmd m 15 [fa,fb])))∧Below w.heap.size w w':=by
 have hbA:Below w.heap.size w (w.alloc (.cells #[.int .i64 m.s,.int .i64 m.t,.int .i64 m.x,.slice ao n c,.slice bo k d] 97)):=(Below.refl _ _).alloc (Nat.le_refl _) _
 have hB:=Box.new w #[.int .i64 m.s,.int .i64 m.t,.int .i64 m.x,.slice ao n c,.slice bo k d] 97
 have d0:=hB.cell (i:=0) rfl
 have d1:=hB.cell (i:=1) rfl
 have d2:=hB.cell (i:=2) rfl
 have d3:=hB.cell (i:=3) rfl
 have d4:=hB.cell (i:=4) rfl
 clear hB
 have F0:=Zak (hf.below hbA) (j:=0) (by simp)
 have hz0:fa.size≤20000:=hz _ (by simp)
 have F1:=Zak (hf.below hbA) (j:=1) (by simp)
 have hz1:fb.size≤20000:=hz _ (by simp)
 have hA:=h.below hbA
 have hcmd:cmd m 15 [fa,fb]=m.say ((dspR m.S fa ((numT fb).getD badN)).map nmsT):=Zgi (F:=fun x=>m.say ((dspR m.S fa x).map nmsT)) (congrArg (fun r=>m.say (Option.map nmsT r)) (Zajj _ _)) _
 obtain⟨X,hX⟩:∃X,dspR m.S fa ((numT fb).getD badN)=X:=⟨_,rfl⟩
 have hxl:(X.getD []).length≤600∧∀y∈X.getD [],I63 y:=by
  cases X with
  |none=>exact⟨Nat.zero_le _,fun y hy=>by cases hy⟩
  |some r=>exact⟨by have:=(Zxs hX).1;show r.length≤600;omega,Zajy hX⟩
 have hdz:(nmsT (X.getD [])).size≤1099511627776:=by have:=Zhn (l:=X.getD []) (n:=600) hxl.1 (fun y hy=>⟨by have:=(hxl.2 y hy).1;omega,(hxl.2 y hy).2⟩);omega
 have HX:=Lib.hid hX
 rw[hX]at hcmd
 have HL:=Lib.hid hxl
 have HT:=Lib.hid (show(if X.isSome=true then nmsT (X.getD [])++nlT else noT++nlT)=Zco (cmd m 15 [fa,fb])by rw[hcmd];exact Zjs m X nmsT _)
 clear hcmd hX hxl h hf hz
 unfold stV
 go_enter Tryz.func152,Tryz.ntmps152
 go_wp2_with fail
 generalize (w.alloc (.cells #[.int .i64 m.s,.int .i64 m.t,.int .i64 m.x,.slice ao n c,.slice bo k d] 97))=w1 at*
 refine Zcn (by kernel_rfl) ?_
 refine Zdb 0 9 100 (fun _ w'=>Below w1.heap.size w1 w') (by kernel_rfl) rfl (Below.refl _ _).drew ?_
 simp only[List.take_succ_cons,List.take_zero,List.drop_zero]
 refine sk (.pointer (some ⟨w.heap.size,4,none⟩)) ?_
 refine sv (.slice bo k d) (fun b w1 hs=>?_) ?_
 ·have k4:=(hs.cell (Zaa d4)).trans d4
  go_simp
 refine sk (.slice (some ⟨g,0,none⟩) 2 cf) ?_
 refine sv (.pointer (some ⟨g,0,none⟩)) (fun b w1 hs=>?_) ?_
 ·go_simp
 refine sv (.string fa) (fun b w1 hs=>?_) ?_
 ·have kf:=(hs.cell (Zaa F0)).trans F0
  go_simp
 refine sk (.slice (some ⟨g,0,none⟩) 2 cf) ?_
 refine sv (.pointer (some ⟨g,1,none⟩)) (fun b w1 hs=>?_) ?_
 ·go_simp
 refine sv (.string fb) (fun b w1 hs=>?_) ?_
 ·have kf:=(hs.cell (Zaa F1)).trans F1
  go_simp
 refine sc (.int .i64 ((numT fb).getD badN)) 220 (#[.string fb]) (fun b w1 hs=>?_) ?_
 ·exact(Zch fb _ (by have:=hz1;omega)).mono fun e w2 hr=>⟨hr.1,by rw[hr.2];exact hs⟩
 refine Zbo fun w2 hs=>?_
 have hb2:=hbA.trans (hs.mono hbA.size)
 refine Zd3 9 _ 231 #[.slice bo k d,.string fa,.int .i64 ((numT fb).getD badN)] (by kernel_rfl) rfl rfl (by kernel_rfl) (by kernel_rfl) ?_
 refine(Znr _ _ (hA.sg.below hs) (by omega)).mono ?_;intro e w3 hr;rw[HX.out]at hr;obtain⟨ao3,n3,c3,rfl,ho3,hb3⟩:=hr
 refine⟨_,rfl,?_⟩
 refine Zdp 10 100 (fun _ w'=>w'=w3) (by kernel_rfl) rfl rfl rfl ?_
 simp only[List.drop_succ_cons,List.drop_zero]
 refine sk (.tuple #[.slice ao3 n3 c3,.bool X.isSome]) ?_
 refine sk (.slice ao3 n3 c3) ?_
 refine sk (.bool X.isSome) ?_
 refine sk (.slice ao3 n3 c3) ?_
 refine sk (.bool X.isSome) ?_
 refine Zbo ?_
 rintro w' rfl
 have hb13:=hb2.trans (hb3.mono hb2.size)
 have hR3:=ho3.rd
 have hn3:n3≤1000000:=by have:=ho3.1;have:=HL.out.1;omega
 clear hs hA ho3 hb3 hb2 F0 F1
 go_wp2_with fail
 refine(Zfe hR3 HL.out.2 hn3).mono ?_;rintro e w4 ⟨rfl,hb4⟩
 have hb14:=hb13.trans (hb4.mono hb13.size)
 go_wp2_with fail
 refine(Zc4 _ _ _ hdz).mono ?_;rintro e w5 ⟨rfl,rfl⟩
 rw[HT.out]
 go_wp2_with fail
 go_ret
 exact⟨rfl,hb14⟩
theorem Z6g {w:World} {ao:Option Addr} {n c:Nat} {bo:Option Addr} {k d g cf:Nat} {m:Mch} {fa:ByteArray} (hf:RdT w (some ⟨g,0,none⟩) 1 [fa]) (hz:∀p∈[fa],p.size≤20000):
 Calls Tryz.prog 152 #[stV m ao n c bo k d,.string (⟨#[102,105,110,100]⟩:ByteArray),.slice (some ⟨g,0,none⟩) 1 cf] w fun e w'=>e= .returned (.string (Zco (cmd m 18 [fa])))∧Below w.heap.size w w':=by
 have hbA:Below w.heap.size w (w.alloc (.cells #[.int .i64 m.s,.int .i64 m.t,.int .i64 m.x,.slice ao n c,.slice bo k d] 97)):=(Below.refl _ _).alloc (Nat.le_refl _) _
 have F0:=Zak (hf.below hbA) (j:=0) (by simp)
 have hz0:fa.size≤20000:=hz _ (by simp)
 have hjz:=Z1x hz0
 obtain⟨L,hL⟩:∃L,allR fa=L:=⟨_,rfl⟩
 have hsz:∀x∈L,x.size≤100:=by rw[←hL];exact Zv7 fa _ _
 have hlen:L.length≤20001:=by
  rw[←hL]
  have:(allR fa).length≤fa.size+1:=Zo8 fa _ _
  omega
 rw[hL]at hjz
 have hcmd:cmd m 18 [fa]=if L=[]then none else some (m,Zbi 32 (L.map Zaf)):=by rw[←hL];rfl
 have HT:=Lib.hid (show(if decide (0<L.length)=true then Zbi 32 (L.map Zaf)++nlT else noT++nlT)=Zco (cmd m 18 [fa])by
  rw[hcmd]
  cases L with
  |nil=>rfl
  |cons x r=>rw[if_pos (by simp),if_neg (by simp)];rfl)
 have HX:=Lib.hid hL
 have HLEN:=Lib.hid hlen
 have HJZ:=Lib.hid hjz
 have HPZ:=Lib.hid (show ∀x∈L.map Zaf,x.size≤101 from fun x hx=>by
  obtain⟨y,hy,rfl⟩:=List.mem_map.1 hx
  have h1:=hsz y hy
  have h2:=Ze2 y
  omega)
 clear hcmd hL hf hz hsz hlen hjz
 unfold stV
 go_enter Tryz.func152,Tryz.ntmps152
 go_wp2_with fail
 generalize (w.alloc (.cells #[.int .i64 m.s,.int .i64 m.t,.int .i64 m.x,.slice ao n c,.slice bo k d] 97))=w1 at*
 refine(Zyr fa _ (by omega)).mono ?_;intro e w3 hr;rw[HX.out]at hr;obtain⟨ao3,n3,c3,rfl,ho3,hb3⟩:=hr
 have hb13:=hbA.trans (hb3.mono hbA.size)
 have hR3:=ho3.rd
 have HN:=Lib.hid (show n3=L.length from hR3.1)
 have hn3:n3≤20001:=by rw[HN.out];exact HLEN.out
 clear F0 ho3 hb3 hbA
 go_wp2_with fail
 go_loopw [10,11] (fun o i wr=>∃j:Nat,j≤n3∧i= .int .i64 j∧o= .string (jT (L.map Zaf) j)∧wr=w3) (fun _ i _=>n3-(intOf i).toNat)
 case atStart=>exact⟨0,Nat.zero_le _,rfl,rfl,rfl⟩
 case round=>
  obtain⟨j,hj,rfl,rfl,hwr⟩:=hrel
  subst hwr
  by_cases hlt:j<n3
  ·obtain⟨bk,off,rfl,hl,s0⟩:=hR3.at hlt
   have hjl:j<(L.map Zaf).length:=by rw[List.length_map];exact hl
   have hoz:=Zaj3 HPZ.out j
   have hdz:(Zaf L[j]).size≤101:=HPZ.out _ (List.mem_map.2 ⟨_,List.getElem_mem hl,rfl⟩)
   have hcase:(¬(0:Int)<(j:Int)∧∃X,X=jT (L.map Zaf) j∧X++Zaf L[j]=jT (L.map Zaf) (j+1))∨((0:Int)<(j:Int)∧jT (L.map Zaf) j++⟨#[32]⟩++Zaf L[j]=jT (L.map Zaf) (j+1)):=by
    by_cases e:j=0
    ·exact .inl ⟨by omega,_,rfl,by have:=jT_one hjl e;rwa [List.getElem_map]at this⟩
    ·exact .inr ⟨by omega,by have:=Zai0 hjl (by omega);rwa [List.getElem_map]at this⟩
   have HCS:=Lib.hid hcase
   clear hcase hjl
   generalize L[j]=st at*
   generalize hOk:jT (L.map Zaf) j=O at*
   have HOK:=Lib.hid hOk
   clear hOk
   rcases HCS.out with ⟨h0,hX⟩|⟨h0,hX⟩
   ·obtain⟨X,rfl,hX⟩:=hX
    have HXN:=Lib.hid hX
    clear hX HOK
    have n1:¬X.size+(Zaf st).size>9223372036854775807:=by omega
    have n1':¬9223372036854775807<X.size+(Zaf st).size:=by omega
    go_wp2_with fail
    refine(Zev _ _).mono ?_;rintro e w5 ⟨rfl,rfl⟩
    go_wp2_with fail
    rw[HXN.out]
    go_roundw
    case rel=>exact⟨j+1,by omega,by go_num,rfl,trivial⟩
    case measure=>simp[intOf];omega
   ·obtain⟨X,hX0⟩:∃X,X=O++(⟨#[32]⟩:ByteArray):=⟨_,rfl⟩
    rw[←hX0]at hX
    have hXz:X.size≤j*102+1:=by rw[hX0,ByteArray.size_append];have:(⟨#[32]⟩:ByteArray).size=1:=rfl;omega
    have HXN:=Lib.hid hX
    have HX0:=Lib.hid hX0
    clear hX hX0 HOK
    have n0:¬O.size+1>9223372036854775807:=by omega
    have n0':¬9223372036854775807<O.size+1:=by omega
    have n1:¬X.size+(Zaf st).size>9223372036854775807:=by omega
    have n1':¬9223372036854775807<X.size+(Zaf st).size:=by omega
    go_wp2_with fail
    rw[←HX0.out]
    refine(Zev _ _).mono ?_;rintro e w5 ⟨rfl,rfl⟩
    go_wp2_with fail
    rw[HXN.out]
    go_roundw
    case rel=>exact⟨j+1,by omega,by go_num,rfl,trivial⟩
    case measure=>simp[intOf];omega
  ·obtain rfl:j=n3:=by omega
   have HA:=Lib.hid (jT_all (P:=L.map Zaf) (k:=j) (by rw[List.length_map];have:=HN.out;omega))
   rw[HA.out]
   have hdz:(Zbi 32 (L.map Zaf)).size≤1099511627776:=by have:=HJZ.out;omega
   by_cases h0:0<j
   ·have HT2:=Lib.hid (show Zbi 32 (L.map Zaf)++nlT=Zco (cmd m 18 [fa])by have:=HT.out;rw[if_pos (by rw[decide_eq_true_eq,←HN.out];exact h0)]at this;exact this)
    have h0i:(0:Int)<(j:Int):=by omega
    go_wp2_with fail
    refine(Zc4 true _ _ hdz).mono ?_;rintro e w5 ⟨rfl,rfl⟩
    rw[if_pos rfl,HT2.out]
    go_wp2_with fail
    go_ret
    exact⟨rfl,hb13⟩
   ·have HT2:=Lib.hid (show noT++nlT=Zco (cmd m 18 [fa])by have:=HT.out;rw[if_neg (by rw[decide_eq_true_eq,←HN.out];exact h0)]at this;exact this)
    have h0i:¬(0:Int)<(j:Int):=by omega
    go_wp2_with fail
    refine(Zc4 false _ _ hdz).mono ?_;rintro e w5 ⟨rfl,rfl⟩
    rw[if_neg (by decide),HT2.out]
    go_wp2_with fail
    go_ret
    exact⟨rfl,hb13⟩
theorem Zzm {w:World} {ao:Option Addr} {n c:Nat} {bo:Option Addr} {k d g cf:Nat} {m:Mch} {fa:ByteArray} (h:StW w ao n c bo k d m) (hf:RdT w (some ⟨g,0,none⟩) 1 [fa]) (hz:∀p∈[fa],p.size≤20000):
 Calls Tryz.prog 153 #[stV m ao n c bo k d,.string (⟨#[106,117,109,112]⟩:ByteArray),.slice (some ⟨g,0,none⟩) 1 cf] w (Zfz w ao n bo k ((cmd m 1 [fa]).getD (m,noT))):=by
 have hT:=Two.start (w:=w) (v0:=.int .i64 m.s) (v1:=.int .i64 m.t) (v2:=.int .i64 m.x) (v3:=.slice ao n c) (v4:=.slice bo k d) (u0:=.int .i64 0) (u1:=.int .i64 0) (u2:=.int .i64 0) (u3:=.slice none 0 0) (u4:=.slice none 0 0)
 have hbA:=hT.bl
 obtain⟨d0,d1,d2,d3,d4⟩:=hT.cells
 have F0:=Zak (hf.below hbA) (j:=0) (by simp)
 have hz0:fa.size≤20000:=hz _ (by simp)
 obtain⟨X,hX⟩:∃X,jmpR m.s m.t m.x ((numT fa).getD badN)=X:=⟨_,rfl⟩
 have hcmd:cmd m 1 [fa]=X.map fun r=>(m.setR r,rgT r.1 r.2.1 r.2.2):=by
  rw[←hX]
  exact Zgi (F:=fun n=>(jmpR m.s m.t m.x n).map fun r=>(m.setR r,rgT r.1 r.2.1 r.2.2)) (congrArg (Option.map _) (Zakn _ _ _)) _
 rw[hcmd]
 clear hcmd hf hz
 rcases X with _|⟨s,t,x⟩
 ·have HX:=Lib.hid hX
  clear hX
  have hdz:(rgT (0:Int) (0:Int) (0:Int)).size≤1099511627776:=by have h5:(rgT (0:Int) (0:Int) (0:Int)).size≤66:=Znx (0,0,0);omega
  unfold stV
  go_enter Tryz.func153,Tryz.ntmps153
  go_wp2_with fail
  generalize ((w.alloc (.cells #[.int .i64 m.s,.int .i64 m.t,.int .i64 m.x,.slice ao n c,.slice bo k d] 97)).alloc (.cells #[.int .i64 0,.int .i64 0,.int .i64 0,.slice none 0 0,.slice none 0 0] 97))=w1 at*
  have hrz:w.heap.size+1<w1.heap.size:=by obtain⟨cs,hcs,_,_⟩:=hT.b1;exact hcs.lt
  refine Zqs 10 11 8 [.pointer (some ⟨w.heap.size,0,none⟩),.agg #[.int .i64 m.s,.int .i64 m.t,.int .i64 m.x],.slice (some ⟨g,0,none⟩) 1 cf,.pointer (some ⟨g,0,none⟩),.string fa,.int .i64 ((numT fa).getD badN),.tuple #[.agg #[.int .i64 0,.int .i64 0,.int .i64 0],.bool false],.tuple #[.agg #[.int .i64 0,.int .i64 0,.int .i64 0],.bool false],.agg #[.int .i64 0,.int .i64 0,.int .i64 0],.bool false,undef,undef,.bool false] (JS w w1 (.int .i64 m.s) (.int .i64 m.t) (.int .i64 m.x) (.slice ao n c) (.slice bo k d) 0 0 0) (by kernel_rfl) (by kernel_rfl) (by kernel_rfl) (by kernel_rfl) (by kernel_rfl) (JS.start hT) ?_
  refine Ze5 (.pointer (some ⟨w.heap.size,0,none⟩)) rfl (by kernel_rfl) (by kernel_rfl) (by kernel_rfl) (fun _ _ _ _=>by kernel_rfl) ?_
  refine Ze5 (.agg #[.int .i64 m.s,.int .i64 m.t,.int .i64 m.x]) rfl (by kernel_rfl) (by kernel_rfl) (by kernel_rfl) (fun b r w1 hs=>?_) ?_
  ·have k0:=(hs.2.1.cell (Zaa d0)).trans d0;have k1:=(hs.2.1.cell (Zaa d1)).trans d1;have k2:=(hs.2.1.cell (Zaa d2)).trans d2
   go_simp
  refine Ze5 (.slice (some ⟨g,0,none⟩) 1 cf) rfl (by kernel_rfl) (by kernel_rfl) (by kernel_rfl) (fun _ _ _ _=>by kernel_rfl) ?_
  refine Ze5 (.pointer (some ⟨g,0,none⟩)) rfl (by kernel_rfl) (by kernel_rfl) (by kernel_rfl) (fun b r w1 hs=>?_) ?_
  ·skip
   go_simp
  refine Ze5 (.string fa) rfl (by kernel_rfl) (by kernel_rfl) (by kernel_rfl) (fun b r w1 hs=>?_) ?_
  ·have kf:=(hs.2.1.cell (Zaa F0)).trans F0
   go_simp
  refine Zwn (.int .i64 ((numT fa).getD badN)) 220 (#[.string fa]) rfl (by kernel_rfl) (by kernel_rfl) (by kernel_rfl) (fun _ _ _ _=>by kernel_rfl) (fun b r w1 hs=>?_) ?_
  ·exact(Zch fa _ (by omega)).mono fun e w2 hr=>⟨hr.1,by rw[hr.2];exact hs⟩
  refine Zwn (.tuple #[.agg #[.int .i64 0,.int .i64 0,.int .i64 0],.bool false]) 25 (#[.agg #[.int .i64 m.s,.int .i64 m.t,.int .i64 m.x],.int .i64 ((numT fa).getD badN)]) rfl (by kernel_rfl) (by kernel_rfl) (by kernel_rfl) (fun _ _ _ _=>by kernel_rfl) (fun b r w1 hs=>?_) ?_
  ·exact((Ze0 _ _ _ _ _).mono fun e w2 hr=>by rw[HX.out]at hr;exact⟨hr.1,hs.below hr.2⟩)
  refine Ze5 (.tuple #[.agg #[.int .i64 0,.int .i64 0,.int .i64 0],.bool false]) rfl (by kernel_rfl) (by kernel_rfl) (by kernel_rfl) (fun _ _ _ _=>by kernel_rfl) ?_
  refine Ze5 (.agg #[.int .i64 0,.int .i64 0,.int .i64 0]) rfl (by kernel_rfl) (by kernel_rfl) (by kernel_rfl) (fun _ _ _ _=>by kernel_rfl) ?_
  refine Ze5 (.bool false) rfl (by kernel_rfl) (by kernel_rfl) (by kernel_rfl) (fun _ _ _ _=>by kernel_rfl) ?_
  refine Z98 rfl rfl (by kernel_rfl) (fun w2 hs=>⟨.pointer (some ⟨w2.heap.size,0,none⟩),w2.alloc (.cells #[.int .i64 0,.int .i64 0,.int .i64 0] 46),?_,hs.alloc⟩) ?_
  ·go_simp
  intro v
  refine Z3z v (by kernel_rfl) rfl (by kernel_rfl) (by kernel_rfl) (fun w2 hs=>?_) ?_
  ·obtain⟨rr,rfl,hrr,hB⟩:=hs.2.2 v rfl
   exact⟨_,Z72 (s:=0) (t:=0) (z:=0) rfl (by kernel_rfl) (by kernel_rfl) hB,hs.store hrz⟩
  refine Ze5 (.bool false) rfl (by kernel_rfl) (by kernel_rfl) (by kernel_rfl) (fun _ _ _ _=>by kernel_rfl) ?_
  refine Zahj v (by kernel_rfl) fun w2 hs2=>?_
  obtain⟨rr,rfl,hrr,hB⟩:=hs2.2.2 v rfl
  have hR:TwoR w (.int .i64 m.s) (.int .i64 m.t) (.int .i64 m.x) (.slice ao n c) (.slice bo k d) rr 0 0 0 false w2:=⟨hs2.1,hB,by omega⟩
  clear hs2 hB F0 d0 d1 d2 d3 d4 hbA hT hrz hrr
  go_wp2_with fail
  obtain⟨w3,hw3⟩:∃w3,w2=w3:=⟨_,rfl⟩
  rw[hw3]at hR ⊢
  have hR2:=hR
  refine Zau 5 (TwoR w (.int .i64 m.s) (.int .i64 m.t) (.int .i64 m.x) (.slice ao n c) (.slice bo k d) rr 0 0 0) (by kernel_rfl) (by kernel_rfl) (hR2.below (Below.refl _ _).drew) ?_
  refine sv (.agg #[.int .i64 m.s,.int .i64 m.t,.int .i64 m.x,.slice ao n c,.slice bo k d]) (fun b w1 hs=>?_) ?_
  ·obtain⟨k0,k1,k2,k3,k4⟩:=hs.1.cells
   go_simp
  refine sk (.bool false) ?_
  refine sv (.agg #[.int .i64 0,.int .i64 0,.int .i64 0]) (fun b w1 hs=>?_) ?_
  ·obtain⟨k0,k1,k2⟩:=hs.regc
   go_simp
  refine sc (.string (rgT (0:Int) (0:Int) (0:Int))) 140 (#[.agg #[.int .i64 0,.int .i64 0,.int .i64 0]]) (fun b w1 hs=>?_) ?_
  ·exact(Zc7 _ _ _ _).mono fun e w2 hr=>⟨hr.1,hs.below hr.2⟩
  refine sc (.string (noT++nlT)) 147 (#[.bool false,.string (rgT (0:Int) (0:Int) (0:Int))]) (fun b w1 hs=>?_) ?_
  ·exact(Zc4 _ _ _ hdz).mono fun e w2 hr=>⟨by rw[hr.1];rfl,by rw[hr.2];exact hs⟩
  refine Zc3 (by kernel_rfl) rfl rfl (fun w1 hs=>?_) ?_
  ·obtain⟨u0,u1,u2,u3,u4,hu⟩:=hs.1.frees
   exact⟨_,Zf4 rfl (by kernel_rfl) (by kernel_rfl) hu,hs.store⟩
  refine sk (.string (noT++nlT)) ?_
  refine Zbo fun w4 hs=>?_
  obtain⟨o0,o1,o2,o3,o4⟩:=Two.outs hs.1
  have hbl:=hs.1.bl
  clear hs hR2
  go_wp2_with fail
  refine bodyPost_ret (v:=.tuple #[.agg #[.int .i64 m.s,.int .i64 m.t,.int .i64 m.x,.slice ao n c,.slice bo k d],.string (noT++nlT)]) (by simp[results,Tryz.results153,go_sem,o0,o1,o2,o3,o4]) rfl ?_
  exact⟨ao,n,c,bo,k,d,rfl,h.below hbl,hbl,.inl ⟨rfl,rfl⟩,.inl ⟨rfl,rfl⟩⟩
 ·have HX:=Lib.hid hX
  have hreg:regB s t x=true:=Zrx hX
  clear hX
  have hdz:(rgT (s:Int) (t:Int) (x:Int)).size≤1099511627776:=by have h5:(rgT (s:Int) (t:Int) (x:Int)).size≤66:=Znx (s,t,x);omega
  unfold stV
  go_enter Tryz.func153,Tryz.ntmps153
  go_wp2_with fail
  generalize ((w.alloc (.cells #[.int .i64 m.s,.int .i64 m.t,.int .i64 m.x,.slice ao n c,.slice bo k d] 97)).alloc (.cells #[.int .i64 0,.int .i64 0,.int .i64 0,.slice none 0 0,.slice none 0 0] 97))=w1 at*
  have hrz:w.heap.size+1<w1.heap.size:=by obtain⟨cs,hcs,_,_⟩:=hT.b1;exact hcs.lt
  refine Zqs 10 11 8 [.pointer (some ⟨w.heap.size,0,none⟩),.agg #[.int .i64 m.s,.int .i64 m.t,.int .i64 m.x],.slice (some ⟨g,0,none⟩) 1 cf,.pointer (some ⟨g,0,none⟩),.string fa,.int .i64 ((numT fa).getD badN),.tuple #[.agg #[.int .i64 s,.int .i64 t,.int .i64 x],.bool true],.tuple #[.agg #[.int .i64 s,.int .i64 t,.int .i64 x],.bool true],.agg #[.int .i64 s,.int .i64 t,.int .i64 x],.bool true,undef,undef,.bool true] (JS w w1 (.int .i64 m.s) (.int .i64 m.t) (.int .i64 m.x) (.slice ao n c) (.slice bo k d) s t x) (by kernel_rfl) (by kernel_rfl) (by kernel_rfl) (by kernel_rfl) (by kernel_rfl) (JS.start hT) ?_
  refine Ze5 (.pointer (some ⟨w.heap.size,0,none⟩)) rfl (by kernel_rfl) (by kernel_rfl) (by kernel_rfl) (fun _ _ _ _=>by kernel_rfl) ?_
  refine Ze5 (.agg #[.int .i64 m.s,.int .i64 m.t,.int .i64 m.x]) rfl (by kernel_rfl) (by kernel_rfl) (by kernel_rfl) (fun b r w1 hs=>?_) ?_
  ·have k0:=(hs.2.1.cell (Zaa d0)).trans d0;have k1:=(hs.2.1.cell (Zaa d1)).trans d1;have k2:=(hs.2.1.cell (Zaa d2)).trans d2
   go_simp
  refine Ze5 (.slice (some ⟨g,0,none⟩) 1 cf) rfl (by kernel_rfl) (by kernel_rfl) (by kernel_rfl) (fun _ _ _ _=>by kernel_rfl) ?_
  refine Ze5 (.pointer (some ⟨g,0,none⟩)) rfl (by kernel_rfl) (by kernel_rfl) (by kernel_rfl) (fun b r w1 hs=>?_) ?_
  ·skip
   go_simp
  refine Ze5 (.string fa) rfl (by kernel_rfl) (by kernel_rfl) (by kernel_rfl) (fun b r w1 hs=>?_) ?_
  ·have kf:=(hs.2.1.cell (Zaa F0)).trans F0
   go_simp
  refine Zwn (.int .i64 ((numT fa).getD badN)) 220 (#[.string fa]) rfl (by kernel_rfl) (by kernel_rfl) (by kernel_rfl) (fun _ _ _ _=>by kernel_rfl) (fun b r w1 hs=>?_) ?_
  ·exact(Zch fa _ (by omega)).mono fun e w2 hr=>⟨hr.1,by rw[hr.2];exact hs⟩
  refine Zwn (.tuple #[.agg #[.int .i64 s,.int .i64 t,.int .i64 x],.bool true]) 25 (#[.agg #[.int .i64 m.s,.int .i64 m.t,.int .i64 m.x],.int .i64 ((numT fa).getD badN)]) rfl (by kernel_rfl) (by kernel_rfl) (by kernel_rfl) (fun _ _ _ _=>by kernel_rfl) (fun b r w1 hs=>?_) ?_
  ·exact((Ze0 _ _ _ _ _).mono fun e w2 hr=>by rw[HX.out]at hr;exact⟨hr.1,hs.below hr.2⟩)
  refine Ze5 (.tuple #[.agg #[.int .i64 s,.int .i64 t,.int .i64 x],.bool true]) rfl (by kernel_rfl) (by kernel_rfl) (by kernel_rfl) (fun _ _ _ _=>by kernel_rfl) ?_
  refine Ze5 (.agg #[.int .i64 s,.int .i64 t,.int .i64 x]) rfl (by kernel_rfl) (by kernel_rfl) (by kernel_rfl) (fun _ _ _ _=>by kernel_rfl) ?_
  refine Ze5 (.bool true) rfl (by kernel_rfl) (by kernel_rfl) (by kernel_rfl) (fun _ _ _ _=>by kernel_rfl) ?_
  refine Z98 rfl rfl (by kernel_rfl) (fun w2 hs=>⟨.pointer (some ⟨w2.heap.size,0,none⟩),w2.alloc (.cells #[.int .i64 0,.int .i64 0,.int .i64 0] 46),?_,hs.alloc⟩) ?_
  ·go_simp
  intro v
  refine Z3z v (by kernel_rfl) rfl (by kernel_rfl) (by kernel_rfl) (fun w2 hs=>?_) ?_
  ·obtain⟨rr,rfl,hrr,hB⟩:=hs.2.2 v rfl
   exact⟨_,Z72 (s:=s) (t:=t) (z:=x) rfl (by kernel_rfl) (by kernel_rfl) hB,hs.store hrz⟩
  refine Ze5 (.bool true) rfl (by kernel_rfl) (by kernel_rfl) (by kernel_rfl) (fun _ _ _ _=>by kernel_rfl) ?_
  refine Zahj v (by kernel_rfl) fun w2 hs2=>?_
  obtain⟨rr,rfl,hrr,hB⟩:=hs2.2.2 v rfl
  have hR:TwoR w (.int .i64 m.s) (.int .i64 m.t) (.int .i64 m.x) (.slice ao n c) (.slice bo k d) rr s t x false w2:=⟨hs2.1,hB,by omega⟩
  clear hs2 hB F0 d0 d1 d2 d3 d4 hbA hT hrz hrr
  obtain⟨b0,b1,b2⟩:=hR.regc
  obtain⟨c0,c1,c2,_,_⟩:=hR.1.cells
  have f0:=hR.1.b0.free 0
  have f1:=hR.1.b0.free 1
  have f2:=hR.1.b0.free 2
  have hR2:=hR.reg
  unfold put3 at hR2
  go_wp2_with fail
  clear b0 b1 b2 c0 c1 c2 f0 f1 f2 hR
  generalize ((w2.setCell ⟨w.heap.size,0,none⟩ (.int .i64 s)).setCell ⟨w.heap.size,1,none⟩ (.int .i64 t)).setCell ⟨w.heap.size,2,none⟩ (.int .i64 x)=w3 at*
  refine Zau 5 (TwoR w (.int .i64 s) (.int .i64 t) (.int .i64 x) (.slice ao n c) (.slice bo k d) rr s t x) (by kernel_rfl) (by kernel_rfl) (hR2.below (Below.refl _ _).drew) ?_
  refine sv (.agg #[.int .i64 s,.int .i64 t,.int .i64 x,.slice ao n c,.slice bo k d]) (fun b w1 hs=>?_) ?_
  ·obtain⟨k0,k1,k2,k3,k4⟩:=hs.1.cells
   go_simp
  refine sk (.bool true) ?_
  refine sv (.agg #[.int .i64 s,.int .i64 t,.int .i64 x]) (fun b w1 hs=>?_) ?_
  ·obtain⟨k0,k1,k2⟩:=hs.regc
   go_simp
  refine sc (.string (rgT (s:Int) (t:Int) (x:Int))) 140 (#[.agg #[.int .i64 s,.int .i64 t,.int .i64 x]]) (fun b w1 hs=>?_) ?_
  ·exact(Zc7 _ _ _ _).mono fun e w2 hr=>⟨hr.1,hs.below hr.2⟩
  refine sc (.string (rgT s t x++nlT)) 147 (#[.bool true,.string (rgT (s:Int) (t:Int) (x:Int))]) (fun b w1 hs=>?_) ?_
  ·exact(Zc4 _ _ _ hdz).mono fun e w2 hr=>⟨by rw[hr.1];rfl,by rw[hr.2];exact hs⟩
  refine Zc3 (by kernel_rfl) rfl rfl (fun w1 hs=>?_) ?_
  ·obtain⟨u0,u1,u2,u3,u4,hu⟩:=hs.1.frees
   exact⟨_,Zf4 rfl (by kernel_rfl) (by kernel_rfl) hu,hs.store⟩
  refine sk (.string (rgT s t x++nlT)) ?_
  refine Zbo fun w4 hs=>?_
  obtain⟨o0,o1,o2,o3,o4⟩:=Two.outs hs.1
  have hbl:=hs.1.bl
  clear hs hR2
  go_wp2_with fail
  refine bodyPost_ret (v:=.tuple #[.agg #[.int .i64 s,.int .i64 t,.int .i64 x,.slice ao n c,.slice bo k d],.string (rgT s t x++nlT)]) (by simp[results,Tryz.results153,go_sem,o0,o1,o2,o3,o4]) rfl ?_
  exact⟨ao,n,c,bo,k,d,rfl,⟨(h.below hbl).cl,h.cap,h.no,(h.below hbl).sg,⟨hreg,h.ok.2.1,h.ok.2.2⟩⟩,hbl,.inl ⟨rfl,rfl⟩,.inl ⟨rfl,rfl⟩⟩
end Go.Proofs.YtcjihfongfefoaaGreatDoor
