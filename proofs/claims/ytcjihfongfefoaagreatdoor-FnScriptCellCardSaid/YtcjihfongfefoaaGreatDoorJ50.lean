/- Dx Dq Lw -/
import Derived.Test.YtcjihfongfefoaaGreatDoorJ19
import Derived.Test.YtcjihfongfefoaaGreatDoorJ20
namespace Go.Proofs.YtcjihfongfefoaaGreatDoor
open Go.RowKit
set_option maxHeartbeats 25600000
set_option maxRecDepth 100000
def Zzb (w:World) (ao:Option Addr) (n c:Nat):Prop:=∃l,RdB w ao n l∧n≤c∧∀x∈l,0≤x∧x<256
def Zaa7 (w:World) (g p k:Nat) (e:Ending) (w':World):Prop:=
 ∃s t x:Int,∃q,e= .returned (.agg #[.int .i64 s,.int .i64 t,.int .i64 x])∧p≤q∧q≤p+k∧Rdr w' g q∧w.grownBy w' (some g)
theorem Box.fill3 {w:World} {b:Nat} {x0 x1 x2:Value} {t:TypeId} (h:Box w b #[x0,x1,x2] t) (y0 y1 y2:Value):
 Box (((w.setCell ⟨b,0,none⟩ y0).setCell ⟨b,1,none⟩ y1).setCell ⟨b,2,none⟩ y2) b #[y0,y1,y2] t:=by
 have:=((h.set2 0 y0).set2 1 y1).set2 2 y2
 simpa using this
theorem Rdr.fill3 {w:World} {g p b:Nat} (h:Rdr w g p) (hb:g<b) (y0 y1 y2:Value):Rdr (((w.setCell ⟨b,0,none⟩ y0).setCell ⟨b,1,none⟩ y1).setCell ⟨b,2,none⟩ y2) g p:=
 ((h.farGt (Za1 b 0 y0) hb).farGt (Za1 b 1 y1) hb).farGt (Za1 b 2 y2) hb
theorem Zmi {w w1:World} {g b:Nat} (h:w.grownBy w1 (some g)) (hb:w.heap.size≤b) (y0 y1 y2:Value):w.grownBy (((w1.setCell ⟨b,0,none⟩ y0).setCell ⟨b,1,none⟩ y1).setCell ⟨b,2,none⟩ y2) (some g):=
 Zc5 (Zc5 (Zc5 h hb 0 y0) hb 1 y1) hb 2 y2
theorem Zzt {w:World} {g p:Nat} (s t x:Int) (h:Rdr w g p) (hp:p≤1073740000) (hs:0≤s∧s≤8):Calls Tryz.prog 158 #[.pointer (some ⟨g,0,none⟩),.agg #[.int .i64 s,.int .i64 t,.int .i64 x]] w (Zaa7 w g p 2):=by
 have hgl:=h.lt
 have hX:=(Box.new w #[.int .i64 s,.int .i64 t,.int .i64 x] 46).alloc (.cells #[.int .i64 0,.int .i64 0,.int .i64 0] 46)
 have hZ:=Box.new (w.alloc (.cells #[.int .i64 s,.int .i64 t,.int .i64 x] 46)) #[.int .i64 0,.int .i64 0,.int .i64 0] 46
 have hhb:(w.alloc (.cells #[.int .i64 s,.int .i64 t,.int .i64 x] 46)).heap.size=w.heap.size+1:=by simp
 rw[hhb]at hZ
 have hb0:Below w.heap.size w ((w.alloc (.cells #[.int .i64 s,.int .i64 t,.int .i64 x] 46)).alloc (.cells #[.int .i64 0,.int .i64 0,.int .i64 0] 46)):=((Below.refl _ _).alloc (Nat.le_refl _) _).alloc (by simp) _
 have hr0:=h.below hb0
 have hg0:=Zad hb0 (some g)
 have hxg:w.heap.size≠g:=by omega
 have hzg:w.heap.size+1≠g:=by omega
 clear h hhb hb0
 go_enter Tryz.func158,Tryz.ntmps158
 go_wp2_with fail
 refine(Zbm _ hr0 (by omega)).mono ?_;rintro e w1 ⟨u,rfl,u0,u1,hr1,hg1⟩
 have hX1:=hX.gr hg1 hxg
 have hZ1:=hZ.gr hg1 hzg
 have hgA:=hg0.trans hg1
 clear hX hZ hr0 hg0 hg1 u1
 by_cases hu0:(u==0)=true
 ·skip
  go_wp2_with fail
  refine(Ze6 [1,9,0, -1,9223372036854775807] hr1 (by omega) rfl rfl (by simp) (by simp)).mono ?_;rintro e w2 ⟨y,rfl,hy,hr2,hg2⟩
  have hbl:Below w1.heap.size w1 (w1.alloc (.cells (([1,9,0, -1,9223372036854775807]:List Int).map (Value.int .i64)).toArray 3)):=(Below.refl _ _).alloc (Nat.le_refl _) _
  have hX2:=(hX1.below hbl hX1.lt).gr hg2 hxg
  have hZ2:=(hZ1.below hbl hZ1.lt).gr hg2 hzg
  have hgB:=(Zaj hgA hbl).trans hg2
  clear hX1 hZ1 hgA hbl hr1 hg2 hy
  have hX9:=hX2.set2 0 (.int .i64 y)
  simp only[List.setIfInBounds_toArray,List.set_cons_zero]at hX9
  have hZ9:=hZ2.other (a:=⟨w.heap.size,0,none⟩) (show w.heap.size+1≠w.heap.size by omega) (.int .i64 y)
  have hr9:=hr2.farGt (Za1 w.heap.size 0 (.int .i64 y)) hgl
  have hg9:=Zc5 hgB (Nat.le_refl _) 0 (.int .i64 y)
  have f9:=hX2.free 0
  have v9:=hX2.cell (i:=0) rfl
  clear hX2 hZ2 hr2 hgB
  have c0:=hX9.cell (i:=0) rfl
  have c1:=hX9.cell (i:=1) rfl
  have c2:=hX9.cell (i:=2) rfl
  have d0:=hZ9.cell (i:=0) rfl
  have d1:=hZ9.cell (i:=1) rfl
  have d2:=hZ9.cell (i:=2) rfl
  have f0:=hZ9.free 0
  have f1:=hZ9.free 1
  have f2:=hZ9.free 2
  have hZF:=hZ9.fill3 (.int .i64 y) (.int .i64 t) (.int .i64 x)
  have b0:=hZF.cell (i:=0) rfl
  have b1:=hZF.cell (i:=1) rfl
  have b2:=hZF.cell (i:=2) rfl
  have hrF:=hr9.fill3 (show g<w.heap.size+1 by omega) (.int .i64 y) (.int .i64 t) (.int .i64 x)
  have hgF:=Zmi hg9 (show w.heap.size≤w.heap.size+1 by omega) (.int .i64 y) (.int .i64 t) (.int .i64 x)
  clear hr9 hg9 hX9 hZ9 hZF
  go_wp2_with fail
  refine bodyPost_ret (v:=.agg #[.int .i64 y,.int .i64 t,.int .i64 x]) (by simp[results,Tryz.results158,go_sem,b0,b1,b2]) rfl ?_
  exact⟨y,t,x,_,rfl,by omega,by omega,hrF,hgF⟩
 ·have hu0':(u==0)=false:=by simpa using hu0
  clear hu0
  by_cases hu1:(u==1)=true
  ·skip
   have c0:=hX1.cell (i:=0) rfl
   go_wp2_with fail
   refine(Zdd _ _ hs).mono ?_;rintro e w' ⟨rfl,rfl⟩
   obtain⟨P,hP⟩:∃P:Int,P=2^s.toNat:=⟨_,rfl⟩
   rw[←hP]
   clear hP c0
   go_wp2_with fail
   refine(Ze6 [0,256, -1,P] hr1 (by omega) rfl rfl (by simp) (by simp)).mono ?_;rintro e w2 ⟨y,rfl,hy,hr2,hg2⟩
   have hbl:Below w1.heap.size w1 (w1.alloc (.cells (([0,256, -1,P]:List Int).map (Value.int .i64)).toArray 3)):=(Below.refl _ _).alloc (Nat.le_refl _) _
   have hX2:=(hX1.below hbl hX1.lt).gr hg2 hxg
   have hZ2:=(hZ1.below hbl hZ1.lt).gr hg2 hzg
   have hgB:=(Zaj hgA hbl).trans hg2
   clear hX1 hZ1 hgA hbl hr1 hg2 hy
   have hX9:=hX2.set2 1 (.int .i64 y)
   simp only[List.setIfInBounds_toArray,List.set_cons_zero,List.set_cons_succ]at hX9
   have hZ9:=hZ2.other (a:=⟨w.heap.size,1,none⟩) (show w.heap.size+1≠w.heap.size by omega) (.int .i64 y)
   have hr9:=hr2.farGt (Za1 w.heap.size 1 (.int .i64 y)) hgl
   have hg9:=Zc5 hgB (Nat.le_refl _) 1 (.int .i64 y)
   have f9:=hX2.free 1
   have v9:=hX2.cell (i:=1) rfl
   clear hX2 hZ2 hr2 hgB
   have c0:=hX9.cell (i:=0) rfl
   have c1:=hX9.cell (i:=1) rfl
   have c2:=hX9.cell (i:=2) rfl
   have d0:=hZ9.cell (i:=0) rfl
   have d1:=hZ9.cell (i:=1) rfl
   have d2:=hZ9.cell (i:=2) rfl
   have f0:=hZ9.free 0
   have f1:=hZ9.free 1
   have f2:=hZ9.free 2
   have hZF:=hZ9.fill3 (.int .i64 s) (.int .i64 y) (.int .i64 x)
   have b0:=hZF.cell (i:=0) rfl
   have b1:=hZF.cell (i:=1) rfl
   have b2:=hZF.cell (i:=2) rfl
   have hrF:=hr9.fill3 (show g<w.heap.size+1 by omega) (.int .i64 s) (.int .i64 y) (.int .i64 x)
   have hgF:=Zmi hg9 (show w.heap.size≤w.heap.size+1 by omega) (.int .i64 s) (.int .i64 y) (.int .i64 x)
   clear hr9 hg9 hX9 hZ9 hZF
   go_wp2_with fail
   refine bodyPost_ret (v:=.agg #[.int .i64 s,.int .i64 y,.int .i64 x]) (by simp[results,Tryz.results158,go_sem,b0,b1,b2]) rfl ?_
   exact⟨s,y,x,_,rfl,by omega,by omega,hrF,hgF⟩
  ·have hu1':(u==1)=false:=by simpa using hu1
   clear hu1
   by_cases hu2:(u==2)=true
   ·skip
    have c0:=hX1.cell (i:=0) rfl
    go_wp2_with fail
    refine(Zdd _ _ hs).mono ?_;rintro e w' ⟨rfl,rfl⟩
    obtain⟨P,hP⟩:∃P:Int,P=2^s.toNat:=⟨_,rfl⟩
    rw[←hP]
    clear hP c0
    go_wp2_with fail
    refine(Ze6 [-1,P,9223372036854775807] hr1 (by omega) rfl rfl (by simp) (by simp)).mono ?_;rintro e w2 ⟨y,rfl,hy,hr2,hg2⟩
    have hbl:Below w1.heap.size w1 (w1.alloc (.cells (([-1,P,9223372036854775807]:List Int).map (Value.int .i64)).toArray 3)):=(Below.refl _ _).alloc (Nat.le_refl _) _
    have hX2:=(hX1.below hbl hX1.lt).gr hg2 hxg
    have hZ2:=(hZ1.below hbl hZ1.lt).gr hg2 hzg
    have hgB:=(Zaj hgA hbl).trans hg2
    clear hX1 hZ1 hgA hbl hr1 hg2 hy
    have hX9:=hX2.set2 2 (.int .i64 y)
    simp only[List.setIfInBounds_toArray,List.set_cons_zero,List.set_cons_succ]at hX9
    have hZ9:=hZ2.other (a:=⟨w.heap.size,2,none⟩) (show w.heap.size+1≠w.heap.size by omega) (.int .i64 y)
    have hr9:=hr2.farGt (Za1 w.heap.size 2 (.int .i64 y)) hgl
    have hg9:=Zc5 hgB (Nat.le_refl _) 2 (.int .i64 y)
    have f9:=hX2.free 2
    have v9:=hX2.cell (i:=2) rfl
    clear hX2 hZ2 hr2 hgB
    have c0:=hX9.cell (i:=0) rfl
    have c1:=hX9.cell (i:=1) rfl
    have c2:=hX9.cell (i:=2) rfl
    have d0:=hZ9.cell (i:=0) rfl
    have d1:=hZ9.cell (i:=1) rfl
    have d2:=hZ9.cell (i:=2) rfl
    have f0:=hZ9.free 0
    have f1:=hZ9.free 1
    have f2:=hZ9.free 2
    have hZF:=hZ9.fill3 (.int .i64 s) (.int .i64 t) (.int .i64 y)
    have b0:=hZF.cell (i:=0) rfl
    have b1:=hZF.cell (i:=1) rfl
    have b2:=hZF.cell (i:=2) rfl
    have hrF:=hr9.fill3 (show g<w.heap.size+1 by omega) (.int .i64 s) (.int .i64 t) (.int .i64 y)
    have hgF:=Zmi hg9 (show w.heap.size≤w.heap.size+1 by omega) (.int .i64 s) (.int .i64 t) (.int .i64 y)
    clear hr9 hg9 hX9 hZ9 hZF
    go_wp2_with fail
    refine bodyPost_ret (v:=.agg #[.int .i64 s,.int .i64 t,.int .i64 y]) (by simp[results,Tryz.results158,go_sem,b0,b1,b2]) rfl ?_
    exact⟨s,t,y,_,rfl,by omega,by omega,hrF,hgF⟩
   ·have hu2':(u==2)=false:=by simpa using hu2
    clear hu2
    have c0:=hX1.cell (i:=0) rfl
    have c1:=hX1.cell (i:=1) rfl
    have c2:=hX1.cell (i:=2) rfl
    have d0:=hZ1.cell (i:=0) rfl
    have d1:=hZ1.cell (i:=1) rfl
    have d2:=hZ1.cell (i:=2) rfl
    have f0:=hZ1.free 0
    have f1:=hZ1.free 1
    have f2:=hZ1.free 2
    have hZF:=hZ1.fill3 (.int .i64 s) (.int .i64 t) (.int .i64 x)
    have b0:=hZF.cell (i:=0) rfl
    have b1:=hZF.cell (i:=1) rfl
    have b2:=hZF.cell (i:=2) rfl
    have hrF:=hr1.fill3 (show g<w.heap.size+1 by omega) (.int .i64 s) (.int .i64 t) (.int .i64 x)
    have hgF:=Zmi hgA (show w.heap.size≤w.heap.size+1 by omega) (.int .i64 s) (.int .i64 t) (.int .i64 x)
    clear hr1 hgA hX1 hZ1 hZF
    go_wp2_with fail
    refine bodyPost_ret (v:=.agg #[.int .i64 s,.int .i64 t,.int .i64 x]) (by simp[results,Tryz.results158,go_sem,b0,b1,b2]) rfl ?_
    exact⟨s,t,x,_,rfl,by omega,by omega,hrF,hgF⟩
theorem Zaem {w:World} {g p:Nat} (h:Rdr w g p) (hp:p≤1073730000):Calls Tryz.prog 87 #[.pointer (some ⟨g,0,none⟩)] w (Zaa7 w g p 6):=by
 have hgl:=h.lt
 have hbz:Below w.heap.size w (w.alloc (.cells #[.int .i64 0,.int .i64 0,.int .i64 0] 46)):=(Below.refl _ _).alloc (Nat.le_refl _) _
 have hZ:=Box.new w #[.int .i64 0,.int .i64 0,.int .i64 0] 46
 have hr0:=h.below hbz
 have hg0:=Zad hbz (some g)
 have hzg:w.heap.size≠g:=by omega
 clear h hbz
 go_enter Tryz.func87,Tryz.ntmps87
 go_wp2_with fail
 refine(Zpp hr0 (by omega)).mono ?_;rintro e w1 ⟨s,t,x,q,rfl,hv,hq0,hq1,hr1,hg1⟩
 have hs:0≤s∧s≤8:=by
  obtain⟨S,T,X,rfl,_,_,h1,_⟩:=Zbx hv
  omega
 have hZ1:=hZ.gr hg1 hzg
 have hgA:=hg0.trans hg1
 clear hZ hr0 hg0 hg1 hv
 go_wp2_with fail
 refine(Zzt s t x hr1 (by omega) hs).mono ?_;rintro e w2 ⟨s2,t2,x2,q2,rfl,hq2,hq3,hr2,hg2⟩
 have hZ2:=hZ1.gr hg2 hzg
 have hgB:=hgA.trans hg2
 have d0:=hZ2.cell (i:=0) rfl
 have d1:=hZ2.cell (i:=1) rfl
 have d2:=hZ2.cell (i:=2) rfl
 have f0:=hZ2.free 0
 have f1:=hZ2.free 1
 have f2:=hZ2.free 2
 have hZF:=hZ2.fill3 (.int .i64 s2) (.int .i64 t2) (.int .i64 x2)
 have b0:=hZF.cell (i:=0) rfl
 have b1:=hZF.cell (i:=1) rfl
 have b2:=hZF.cell (i:=2) rfl
 have hrF:=hr2.fill3 hgl (.int .i64 s2) (.int .i64 t2) (.int .i64 x2)
 have hgF:=Zmi hgB (Nat.le_refl _) (.int .i64 s2) (.int .i64 t2) (.int .i64 x2)
 clear hZ1 hgA hg2 hr1 hr2 hZ2 hgB hZF
 go_wp2_with fail
 refine bodyPost_ret (v:=.agg #[.int .i64 s2,.int .i64 t2,.int .i64 x2]) (by simp[results,Tryz.results87,go_sem,b0,b1,b2]) rfl ?_
 exact⟨s2,t2,x2,q2,rfl,by omega,by omega,hrF,hgF⟩
theorem Z8e {w:World} {b:Nat} {x0 x1 x2:Value} {t:TypeId} (h:Box w b #[x0,x1,x2] t):w.cell? ⟨b,0,none⟩=some x0∧w.cell? ⟨b,1,none⟩=some x1∧w.cell? ⟨b,2,none⟩=some x2:=
 ⟨h.cell rfl,h.cell rfl,h.cell rfl⟩
theorem Z7m {w:World} {b b0:Nat} {v0 v1 v2:Value} (hne:b≠b0)
 (h:w.cell? ⟨b,0,none⟩=some v0∧w.cell? ⟨b,1,none⟩=some v1∧w.cell? ⟨b,2,none⟩=some v2) (x0 x1 x2:Value):
 (((w.setCell ⟨b0,0,none⟩ x0).setCell ⟨b0,1,none⟩ x1).setCell ⟨b0,2,none⟩ x2).cell? ⟨b,0,none⟩=some v0∧
 (((w.setCell ⟨b0,0,none⟩ x0).setCell ⟨b0,1,none⟩ x1).setCell ⟨b0,2,none⟩ x2).cell? ⟨b,1,none⟩=some v1∧
 (((w.setCell ⟨b0,0,none⟩ x0).setCell ⟨b0,1,none⟩ x1).setCell ⟨b0,2,none⟩ x2).cell? ⟨b,2,none⟩=some v2:=by
 obtain⟨h0,h1,h2⟩:=h
 have k:∀{w:World} {o i:Nat} (v:Value),(w.setCell ⟨b0,i,none⟩ v).cell? ⟨b,o,none⟩=w.cell? ⟨b,o,none⟩:=fun {w o i} v=>World.cell?_of_block (w:=w) (Below.heap_setCell _ _ _ _ hne)
 exact⟨by rw[k,k,k];exact h0,by rw[k,k,k];exact h1,by rw[k,k,k];exact h2⟩
theorem Zlh {w0 w:World} {b B:Nat} (h:Below B w0 w) (hb:B≤b) (y0 y1 y2:Value):
 Below B w0 (((w.setCell ⟨b,0,none⟩ y0).setCell ⟨b,1,none⟩ y1).setCell ⟨b,2,none⟩ y2):=
 ((h.setCell (p:=⟨b,0,none⟩) hb y0).setCell (p:=⟨b,1,none⟩) hb y1).setCell (p:=⟨b,2,none⟩) hb y2
theorem Zoe {w:World} {a:Option Addr} {len cap:Nat} {zs:List Int}
 (h:(a=none∧len=0∧cap=0∧zs=[])∨∃x,a=some x∧len≤cap∧cap≤maxLen∧zs.length=cap∧(∀i,i<zs.length→w.cell? (x.add i)=some (.int .u8 (zs.getD i 0)))∧∀n∈zs,(Lit.int .u8 n).wf=true)
 (hs:len≤1099511627776):Zzb w a len cap:=by
 rcases h with ⟨rfl,rfl,rfl,rfl⟩|⟨x,rfl,h1,h2,h3,h4,h5⟩
 ·exact⟨[],RdF.nil _ w,Nat.le_refl _,fun x hx=>by simp at hx⟩
 ·refine⟨zs.take len,⟨by rw[List.length_take];omega,hs,fun i hi=>?_⟩,h1,fun x hx=>?_⟩
  ·have hi2:i<len:=by rw[List.length_take]at hi;omega
   obtain⟨b,off,spot⟩:=x
   have hc0:=h4 0 (by omega)
   have hsp:spot=none:=by simpa[Addr.add]using World.cell?_spot hc0
   subst hsp
   refine⟨b,off,rfl,?_⟩
   have e:(zs.take len)[i]=zs.getD i 0:=by simp[List.getD,show i<zs.length by omega]
   rw[e,←h4 i (by omega),Addr.add_lit]
  ·have:=h5 x (List.mem_of_mem_take hx)
   simp only[Lit.wf,Bool.and_eq_true,decide_eq_true_eq]at this
   have e1:IntKind.u8.min=0:=by decide
   have e2:IntKind.u8.max=255:=by decide
   omega
def Zz7 (l r:List Int):Bool:=decide (l=r)
theorem Zaca {l r:List Int} (h:l.length≠r.length):Zz7 l r=false:=by
 unfold Zz7;rw[decide_eq_false_iff_not];intro e;exact h (by rw[e])
theorem Zagn {l r:List Int} {k:Nat} (hl:k<l.length) (hr:k<r.length) (h:l[k]≠r[k]):Zz7 l r=false:=by
 unfold Zz7;rw[decide_eq_false_iff_not];intro e;subst e;exact h rfl
theorem Zaaw {l r:List Int} (hn:l.length=r.length) (h:∀i (hl:i<l.length) (hr:i<r.length),l[i]=r[i]):Zz7 l r=true:=by
 unfold Zz7;rw[decide_eq_true_eq];exact List.ext_getElem hn h
theorem ssInts_c {ao bo:Option Addr} {n m c d:Nat} {l r:List Int} {w:World} (h:Rd w ao n l) (h':Rd w bo m r):
 Calls Tryz.prog 12 #[.slice ao n c,.slice bo m d] w fun e w'=>e= .returned (.bool (Zz7 l r))∧Qw w w':=by
 have hs:=h.2.1
 have hn:=h.1
 have hm:=h'.1
 by_cases h3:n=m
 ·subst h3
  have HN:=Lib.hid hn;have HM:=Lib.hid hm;clear hn hm
  go_enter Tryz.func12,Tryz.ntmps12
  go_wp2
  go_loopw [5] (fun i wr=>∃k:Nat,k≤n∧i= .int .i64 k∧(∀j (_:j<k) (hl:j<l.length) (hr:j<r.length),l[j]=r[j])∧Qw w wr) (fun i _=>n-(intOf i).toNat)
  case atStart=>exact⟨0,Nat.zero_le _,rfl,fun j hj=>absurd hj (by omega),Qw.refl _⟩
  case round=>
   obtain⟨k,hk,rfl,he,hq⟩:=hrel
   have HE:=Lib.hid he;clear he
   by_cases hlt:k<n
   ·obtain⟨b1,o1,rfl,hl1,hc1⟩:=(h.qw hq).at hlt
    obtain⟨b2,o2,rfl,hl2,hc2⟩:=(h'.qw hq).at hlt
    clear h h'
    by_cases h4:l[k]=r[k]
    ·have h5:(l[k] != r[k])=false:=by simp[h4]
     have HT:=Lib.hid (show ∀j (_:j<k+1) (hl:j<l.length) (hr:j<r.length),l[j]=r[j]from fun j hj hl hr=>by
      rcases Nat.lt_succ_iff_lt_or_eq.1 hj with hj|rfl
      ·exact HE.out j hj hl hr
      ·exact h4)
     have H4:=Lib.hid h4;clear h4
     go_wp2
     go_quiet (fail)
     go_wp2
     go_roundw
     case rel=>exact⟨k+1,by omega,by go_num,HT.out,hq.trans (Qw.drewN _ _)⟩
     case measure=>simp[intOf];omega
    ·have h5:(l[k] != r[k])=true:=by simpa using h4
     have HF:=Lib.hid (Zagn hl1 hl2 h4)
     clear h4
     go_wp2
     go_quiet (fail)
     go_wp2
     go_ret
     exact⟨Zav HF.out.symm,hq.trans (Qw.drewN _ _)⟩
   ·go_wp2
    go_ret
    exact⟨Zav (Zaaw (by rw[←HN.out,←HM.out]) (fun i hl hr=>HE.out i (by have:=HN.out;omega) hl hr)).symm,hq⟩
 ·have hr:=Lib.hid (Zaca (l:=l) (r:=r) (by omega))
  have hne:((n:Int) != (m:Int))=true:=by simp;omega
  have HN:=Lib.hid hn;have HM:=Lib.hid hm;clear hn hm
  go_enter Tryz.func12,Tryz.ntmps12
  go_wp2
  go_ret
  exact⟨Zav hr.out.symm,Qw.refl _⟩
end Go.Proofs.YtcjihfongfefoaaGreatDoor
