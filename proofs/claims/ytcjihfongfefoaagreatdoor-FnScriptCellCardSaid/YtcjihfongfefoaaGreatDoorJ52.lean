/- Oe -/
import Derived.Test.YtcjihfongfefoaaGreatDoorJ50
import Derived.Test.YtcjihfongfefoaaGreatDoorJ51
import Derived.Test.YtcjihfongfefoaaGreatDoorShlf
namespace Go.Proofs.YtcjihfongfefoaaGreatDoor
open Go.RowKit
set_option maxHeartbeats 25600000
set_option maxRecDepth 100000
theorem Zl8 {p q:ByteArray} {n s t x:Int} (hq:prR p n s t x=some q):allS bitC q=true∧q.size≤600∧0<q.size∧q.size%(7*n.toNat)=0∧(1≤n∧n≤40)∧regB s t x=true∧payB p=true:=by
 have h1:payB p=true:=by
  cases h:payB p with
  |true=>rfl
  |false=>rw[Zud h]at hq;cases hq
 have h2:inB n 1 40=true:=by
  cases h:inB n 1 40 with
  |true=>rfl
  |false=>rw[Zv9 h]at hq;cases hq
 have h3:regB s t x=true:=by
  cases h:regB s t x with
  |true=>rfl
  |false=>rw[Zv5 h]at hq;cases hq
 obtain⟨R,rfl,hR1,hR4⟩:=Zoh h2
 have hP:=Zo6 h1 hR1 hR4
 have hps:=Zo3 h1 h2 h3 hP
 rw[hq]at hps
 obtain⟨S,T,X,rfl,rfl,rfl,_⟩:=Zbx h3
 have hCR:(encT (padT (Zas p) (4*R))).size/R*R=(encT (padT (Zas p) (4*R))).size:=Nat.div_mul_cancel (Nat.dvd_of_mod_eq_zero (Z3c hP.rows))
 have hWB:Zan (wvT (encT (padT (Zas p) (4*R))) R)=true:=Zd9 (by rw[Zhu];exact hP.top) (Z9p (by omega) hCR (Zb5 hP.out))
 rw[Zm0 hWB h3]at hps
 have e:=Option.some.inj hps
 have hz:q.size=(encT (padT (Zas p) (4*R))).size:=by rw[←e,Ziy,Zhu]
 exact⟨by rw[←e];exact Zv0 _ _ _ _,by rw[hz];exact hP.top,by rw[hz];exact hP.pos,by rw[hz];exact hP.rows,by omega,h3,h1⟩
theorem Zaey (p:ByteArray) (n s t x:Int):allS bitC ((prR p n s t x).getD ByteArray.empty)=true∧((prR p n s t x).getD ByteArray.empty).size≤600:=by
 cases h:prR p n s t x with
 |none=>exact⟨rfl,by show(0:Nat)≤600;omega⟩
 |some q=>have:=Zl8 h;exact⟨this.1,this.2.1⟩
def RetTIR (w:World) (m:Nat) (e:Ending) (w':World):Prop:=
 ∃(p:ByteArray) (n s t x:Int),e= .returned (.tuple #[.string p,.int .i64 n,.agg #[.int .i64 s,.int .i64 t,.int .i64 x]])∧p.size≤m∧(-1≤n∧n≤41)∧Below w.heap.size w w'
theorem Zk0 {w:World} {ao:Option Addr} {n c:Nat} (h:Zzb w ao n c):Calls Tryz.prog 32 #[.slice ao n c] w (RetTIR w 101):=by
 have hbz:Below w.heap.size w (w.alloc (.cells #[.int .i64 0,.int .i64 0,.int .i64 0] 46)):=(Below.refl _ _).alloc (Nat.le_refl _) _
 have hBx:=Box.new w #[.int .i64 0,.int .i64 0,.int .i64 0] 46
 obtain⟨lb,hR0,hcap,hby⟩:=h
 have hR:=hR0.below hbz
 clear hR0
 go_enter Tryz.func32,Tryz.ntmps32
 go_wp2_with fail
 refine(Zkd hR hcap hby).mono ?_;rintro e w1 ⟨rfl,hr1,hb1⟩
 have hBx1:=hBx.below hb1 hBx.lt
 have hB1:=hbz.trans (hb1.mono hbz.size)
 have hbg:w.heap.size<(w.alloc (.cells #[.int .i64 0,.int .i64 0,.int .i64 0] 46)).heap.size:=hBx.lt
 clear hR hby hb1 hBx hbz
 obtain⟨g,hg⟩:∃g,(w.alloc (.cells #[.int .i64 0,.int .i64 0,.int .i64 0] 46)).heap.size=g:=⟨_,rfl⟩
 rw[hg]at hr1 hbg ⊢
 clear hg
 have hgl:=hr1.lt
 have hwb:w.heap.size≠g:=by omega
 go_wp2_with fail
 refine(Zie 30 hr1 (by omega) (by omega)).mono ?_;rintro e w2 ⟨p,q2,rfl,hp30,hpb,hq2,hq3,hr2,hg2⟩
 have hBx2:=hBx1.gr hg2 hwb
 have hB2:=hB1.trans (Zah hg2 (Nat.le_of_lt hbg) hB1.size)
 have hz2:=hg2.size
 clear hr1 hg2 hBx1 hB1 hpb
 go_wp2_with fail
 refine(Zbm _ hr2 (by omega)).mono ?_;rintro e w3 ⟨u,rfl,u0,u1,hr3,hg3⟩
 have hBx3:=hBx2.gr hg3 hwb
 have hB3:=hB2.trans (Zah hg3 (Nat.le_of_lt hbg) hB2.size)
 have hz3:=hg3.size
 have hu12:u≤11:=by omega
 clear hr2 hg3 hBx2 hB2 u1
 go_wp2_with fail
 refine(Zaem hr3 (by omega)).mono ?_;rintro e w4 ⟨s,t,x,q4,rfl,hq4,hq5,hr4,hg4⟩
 have hBx4:=hBx3.gr hg4 hwb
 have hB4:=hB3.trans (Zah hg4 (Nat.le_of_lt hbg) hB3.size)
 have hz4:=hg4.size
 clear hr3 hg4 hBx3 hB3
 have hY:=Box.new w4 #[.int .i64 s,.int .i64 t,.int .i64 x] 46
 have hbl1:Below w4.heap.size w4 (w4.alloc (.cells #[.int .i64 s,.int .i64 t,.int .i64 x] 46)):=(Below.refl _ _).alloc (Nat.le_refl _) _
 have hr5:=hr4.below hbl1
 have hBx5:=hBx4.below hbl1 hBx4.lt
 have hB5:=hB4.trans (hbl1.mono hB4.size)
 have hyg:w4.heap.size≠g:=by omega
 clear hBx4 hB4 hr4 hbl1
 go_wp2_with fail
 refine(Zbm _ hr5 (by omega)).mono ?_;rintro e w6 ⟨v,rfl,v0,v1,hr6,hg6⟩
 have hBx6:=hBx5.gr hg6 hwb
 have hY6:=hY.gr hg6 hyg
 have hB6:=hB5.trans (Zah hg6 (Nat.le_of_lt hbg) hB5.size)
 have hyz:w4.heap.size≠w.heap.size:=by have:=hB6.size;omega
 clear hBx5 hY hB5 hg6 hr5 v1
 by_cases hv0:(v==0)=true
 ·have hbl:Below w6.heap.size w6 (w6.alloc (.cells (([0,40,41, -1]:List Int).map (Value.int .i64)).toArray 3)):=(Below.refl _ _).alloc (Nat.le_refl _) _
  have hlt6:=hr6.lt
  have hne:w6.heap.size≠g:=by omega
  have hBx7:=hBx6.below hbl hBx6.lt
  have hY7:=hY6.below hbl hY6.lt
  have hB7:=hB6.trans (hbl.mono hB6.size)
  clear hBx6 hY6 hB6
  go_wp2_with fail
  refine(Ze6 [0,40,41, -1] hr6 (by omega) rfl rfl (by decide) (by decide)).mono ?_;rintro e w8 ⟨m,rfl,hm,hr8,hg8⟩
  have hm2: -1≤m∧m≤41:=by simp at hm;omega
  have hBx8:=hBx7.gr hg8 hwb
  have hY8:=hY7.gr hg8 hyg
  have hB8:=hB7.trans (Zah hg8 (Nat.le_of_lt hbg) hB7.size)
  clear hBx7 hY7 hB7 hg8 hm hr8 hbl
  clear hv0
  have hdr:Below w8.heap.size w8 w8.drew:=Below.drew (Below.refl _ _)
  have hBxd:=hBx8.below hdr hBx8.lt
  have hBd:=hB8.trans (hdr.mono hB8.size)
  have C0:=Z8e hY8
  have f0:=hBx8.free 0;have f1:=hBx8.free 1;have f2:=hBx8.free 2
  have d0:=hBx8.cell (i:=0) rfl;have d1:=hBx8.cell (i:=1) rfl;have d2:=hBx8.cell (i:=2) rfl
  clear hdr hBxd hBd hY8
  go_wp2_with fail
  go_region_held3 (fun w'=>w'.cell? ⟨w4.heap.size,0,none⟩=some (.int .i64 s)∧w'.cell? ⟨w4.heap.size,1,none⟩=some (.int .i64 t)∧w'.cell? ⟨w4.heap.size,2,none⟩=some (.int .i64 x)) (first|exact C0|exact Z7m hyz C0 _ _ _) (fail)
  have hBxF:=hBx8.fill3 (.int .i64 s) (.int .i64 t) (.int .i64 x)
  have hBF:=Zlh hB8 (Nat.le_refl w.heap.size) (.int .i64 s) (.int .i64 t) (.int .i64 x)
  have e0:=hBxF.cell (i:=0) rfl
  have e1:=hBxF.cell (i:=1) rfl
  have e2:=hBxF.cell (i:=2) rfl
  go_wp2_with fail
  refine bodyPost_ret (v:=.tuple #[.string p,.int .i64 (m),.agg #[.int .i64 s,.int .i64 t,.int .i64 x]]) (by simp[results,Tryz.results32,go_sem,e0,e1,e2]) rfl ?_
  exact⟨p,_,s,t,x,rfl,by omega,by omega,Below.drew hBF⟩
 ·have hv0':(v==0)=false:=by simpa using hv0
  clear hv0
  by_cases hv1:(v==1)=true
  ·have hbl:Below w6.heap.size w6 (w6.alloc (.cells (([100,101]:List Int).map (Value.int .i64)).toArray 3)):=(Below.refl _ _).alloc (Nat.le_refl _) _
   have hlt6:=hr6.lt
   have hBx7:=hBx6.below hbl hBx6.lt
   have hY7:=hY6.below hbl hY6.lt
   have hB7:=hB6.trans (hbl.mono hB6.size)
   clear hBx6 hY6 hB6
   go_wp2_with fail
   refine(Ze6 [100,101] hr6 (by omega) rfl rfl (by decide) (by decide)).mono ?_;rintro e w8 ⟨m,rfl,hm,hr8,hg8⟩
   have hm2:m=100∨m=101:=by simpa using hm
   obtain⟨M,rfl⟩:∃M:Nat,m=(M:Int):=⟨m.toNat,by omega⟩
   have hM:M≤101:=by omega
   have hBx8:=hBx7.gr hg8 hwb
   have hY8:=hY7.gr hg8 hyg
   have hB8:=hB7.trans (Zah hg8 (Nat.le_of_lt hbg) hB7.size)
   clear hBx7 hY7 hB7 hg8 hm hr8 hbl hm2
   go_wp2_with fail
   refine(Z3d M _ (by omega)).mono ?_;rintro e w' ⟨rfl,rfl⟩
   have hom:=Zj6 M
   generalize ones M=pm at*
   clear hv1 hv0'
   have hdr:Below w8.heap.size w8 w8.drew:=Below.drew (Below.refl _ _)
   have hBxd:=hBx8.below hdr hBx8.lt
   have hBd:=hB8.trans (hdr.mono hB8.size)
   have C0:=Z8e hY8
   have f0:=hBx8.free 0;have f1:=hBx8.free 1;have f2:=hBx8.free 2
   have d0:=hBx8.cell (i:=0) rfl;have d1:=hBx8.cell (i:=1) rfl;have d2:=hBx8.cell (i:=2) rfl
   clear hdr hBxd hBd hY8
   go_wp2_with fail
   go_region_held3 (fun w'=>w'.cell? ⟨w4.heap.size,0,none⟩=some (.int .i64 s)∧w'.cell? ⟨w4.heap.size,1,none⟩=some (.int .i64 t)∧w'.cell? ⟨w4.heap.size,2,none⟩=some (.int .i64 x)) (first|exact C0|exact Z7m hyz C0 _ _ _) (fail)
   have hBxF:=hBx8.fill3 (.int .i64 s) (.int .i64 t) (.int .i64 x)
   have hBF:=Zlh hB8 (Nat.le_refl w.heap.size) (.int .i64 s) (.int .i64 t) (.int .i64 x)
   have e0:=hBxF.cell (i:=0) rfl
   have e1:=hBxF.cell (i:=1) rfl
   have e2:=hBxF.cell (i:=2) rfl
   go_wp2_with fail
   refine bodyPost_ret (v:=.tuple #[.string pm,.int .i64 (1+u),.agg #[.int .i64 s,.int .i64 t,.int .i64 x]]) (by simp[results,Tryz.results32,go_sem,e0,e1,e2]) rfl ?_
   exact⟨pm,_,s,t,x,rfl,by omega,by omega,Below.drew hBF⟩
  ·have hv1':(v==1)=false:=by simpa using hv1
   clear hv1 hr6
   have hdr:Below w6.heap.size w6 w6.drew:=Below.drew (Below.refl _ _)
   have hBxd:=hBx6.below hdr hBx6.lt
   have hBd:=hB6.trans (hdr.mono hB6.size)
   have C0:=Z8e hY6
   have f0:=hBx6.free 0;have f1:=hBx6.free 1;have f2:=hBx6.free 2
   have d0:=hBx6.cell (i:=0) rfl;have d1:=hBx6.cell (i:=1) rfl;have d2:=hBx6.cell (i:=2) rfl
   clear hdr hBxd hBd hY6
   go_wp2_with fail
   go_region_held3 (fun w'=>w'.cell? ⟨w4.heap.size,0,none⟩=some (.int .i64 s)∧w'.cell? ⟨w4.heap.size,1,none⟩=some (.int .i64 t)∧w'.cell? ⟨w4.heap.size,2,none⟩=some (.int .i64 x)) (first|exact C0|exact Z7m hyz C0 _ _ _) (fail)
   have hBxF:=hBx6.fill3 (.int .i64 s) (.int .i64 t) (.int .i64 x)
   have hBF:=Zlh hB6 (Nat.le_refl w.heap.size) (.int .i64 s) (.int .i64 t) (.int .i64 x)
   have e0:=hBxF.cell (i:=0) rfl
   have e1:=hBxF.cell (i:=1) rfl
   have e2:=hBxF.cell (i:=2) rfl
   go_wp2_with fail
   refine bodyPost_ret (v:=.tuple #[.string p,.int .i64 (1+u),.agg #[.int .i64 s,.int .i64 t,.int .i64 x]]) (by simp[results,Tryz.results32,go_sem,e0,e1,e2]) rfl ?_
   exact⟨p,_,s,t,x,rfl,by omega,by omega,Below.drew hBF⟩
end Go.Proofs.YtcjihfongfefoaaGreatDoor
