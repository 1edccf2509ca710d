/- Zj -/
import Derived.Test.YtcjihfongfefoaaGreatDoorJ50
namespace Go.Proofs.YtcjihfongfefoaaGreatDoor
open Go.RowKit
set_option maxHeartbeats 25600000
set_option maxRecDepth 100000
theorem Zl9 {w:World} {ao:Option Addr} {n c:Nat} (h:Zzb w ao n c):Calls Tryz.prog 74 #[.slice ao n c] w (fun e w'=>∃s t x:Int,e= .returned (.agg #[.int .i64 s,.int .i64 t,.int .i64 x])∧Below w.heap.size w w'):=by
 have hbz:Below w.heap.size w (w.alloc (.cells #[.int .i64 0,.int .i64 0,.int .i64 0] 46)):=(Below.refl _ _).alloc (Nat.le_refl _) _
 have hBx:=Box.new w #[.int .i64 0,.int .i64 0,.int .i64 0] 46
 have hzz:(w.alloc (.cells #[.int .i64 0,.int .i64 0,.int .i64 0] 46)).heap.size=w.heap.size+1:=by simp
 obtain⟨lb,hR0,hcap,hby⟩:=h
 have hR:=hR0.below hbz
 clear hR0
 go_enter Tryz.func74,Tryz.ntmps74
 go_wp2_with fail
 refine(Zkd hR hcap hby).mono ?_;rintro e w1 ⟨rfl,hr1,hb1⟩
 rw[hzz]at hr1 hb1 ⊢
 have hBx1:=hBx.below hb1 (Nat.lt_succ_self _)
 have hB1:=hbz.trans (hb1.mono (Nat.le_succ _))
 clear hR hby hb1 hBx hbz hzz
 have hgl:=hr1.lt
 go_wp2_with fail
 refine(Zpp hr1 (by omega)).mono ?_;rintro e w2 ⟨s,t,x,q2,rfl,hv,hq2,hq3,hr2,hg2⟩
 have hBx2:=hBx1.gr hg2 (by omega)
 have hB2:=hB1.trans (Zah hg2 (Nat.le_succ _) hB1.size)
 obtain⟨S0,T0,X0,rfl,rfl,rfl,hs8,ht8,_⟩:=Zbx hv
 have hp8:2^S0≤2^8:=Nat.pow_le_pow_right (by decide) hs8.2
 have hT0:T0≤255:=by have:(2:Nat)^8=256:=by decide
                     omega
 have hBr:=Box.new w2 #[.int .i64 (S0:Int),.int .i64 (T0:Int),.int .i64 (X0:Int)] 46
 have hr3:=hr2.alloc (.cells #[.int .i64 (S0:Int),.int .i64 (T0:Int),.int .i64 (X0:Int)] 46)
 have hBx3:=hBx2.alloc (.cells #[.int .i64 (S0:Int),.int .i64 (T0:Int),.int .i64 (X0:Int)] 46)
 have hB3:=hB2.alloc hB2.size (.cells #[.int .i64 (S0:Int),.int .i64 (T0:Int),.int .i64 (X0:Int)] 46)
 have hg2l:=hr2.lt
 have hwl:=hB2.size
 obtain⟨R,hRR⟩:∃R,w2.heap.size=R:=⟨_,rfl⟩
 rw[hRR]at hBr hg2l hwl
 clear hg2 hBx1 hBx2 hB1 hB2 hr1 hr2 hv ht8 hp8
 go_wp2_with fail
 refine(Zbm _ hr3 (by omega)).mono ?_;rintro e w4 ⟨v,rfl,v0,v1,hr4,hg4⟩
 have hBr4:=hBr.gr hg4 (by omega)
 have hBx4:=hBx3.gr hg4 (by omega)
 have hB4:=hB3.trans (Zah hg4 (Nat.le_succ _) hB3.size)
 have hgl4:=hr4.lt
 clear hBr hBx3 hB3 hr3 hg4
 have d0:=hBr4.cell (i:=0) rfl
 have d1:=hBr4.cell (i:=1) rfl
 have d2:=hBr4.cell (i:=2) rfl
 have f1:=hBr4.free 1
 by_cases hv0:(0:Int)<v
 ·have hr5:=hr4.farGt (Za1 R 1 (.int .i64 ((T0:Int)/2*2+1))) hg2l
  have hBx5:=hBx4.gr (Za1 (w:=w4) R 1 (.int .i64 ((T0:Int)/2*2+1))) (by omega)
  have hB5:Below w.heap.size w (w4.setCell ⟨R,1,none⟩ (.int .i64 ((T0:Int)/2*2+1))):=hB4.setCell hwl _
  clear hr4 hBx4 hB4 hBr4
  go_wp2_with fail
  refine(Zzt (S0:Int) ((T0:Int)/2*2+1) (X0:Int) hr5 (by omega) ⟨by omega,by omega⟩).mono ?_;rintro e w6 ⟨s2,t2,x2,q6,rfl,hq6,hq7,hr6,hg6⟩
  have hBx6:=hBx5.gr hg6 (by omega)
  have hB6:=hB5.trans (Zah hg6 (Nat.le_succ _) hB5.size)
  have e0:=hBx6.cell (i:=0) rfl
  have e1:=hBx6.cell (i:=1) rfl
  have e2:=hBx6.cell (i:=2) rfl
  have f0:=hBx6.free 0
  have f2:=hBx6.free 1
  have f3:=hBx6.free 2
  have hBF:=hBx6.fill3 (.int .i64 s2) (.int .i64 t2) (.int .i64 x2)
  have b0:=hBF.cell (i:=0) rfl
  have b1:=hBF.cell (i:=1) rfl
  have b2:=hBF.cell (i:=2) rfl
  have hBB:Below w.heap.size w (((w6.setCell ⟨w.heap.size,0,none⟩ (.int .i64 s2)).setCell ⟨w.heap.size,1,none⟩ (.int .i64 t2)).setCell ⟨w.heap.size,2,none⟩ (.int .i64 x2)):=((hB6.setCell (Nat.le_refl _) _).setCell (Nat.le_refl _) _).setCell (Nat.le_refl _) _
  clear hBx6 hB6 hBF hr6 hg6 hBx5 hB5 hr5
  go_wp2_with fail
  refine bodyPost_ret (v:=.agg #[.int .i64 s2,.int .i64 t2,.int .i64 x2]) (by simp[results,Tryz.results74,go_sem,b0,b1,b2]) rfl ?_
  exact⟨s2,t2,x2,rfl,hBB⟩
 ·have hr5:=hr4
  have hBx5:=hBx4
  have hB5:=hB4
  clear hr4 hBx4 hB4 hBr4
  go_wp2_with fail
  refine(Zzt (S0:Int) (T0:Int) (X0:Int) hr5 (by omega) ⟨by omega,by omega⟩).mono ?_;rintro e w6 ⟨s2,t2,x2,q6,rfl,hq6,hq7,hr6,hg6⟩
  have hBx6:=hBx5.gr hg6 (by omega)
  have hB6:=hB5.trans (Zah hg6 (Nat.le_succ _) hB5.size)
  have e0:=hBx6.cell (i:=0) rfl
  have e1:=hBx6.cell (i:=1) rfl
  have e2:=hBx6.cell (i:=2) rfl
  have f0:=hBx6.free 0
  have f2:=hBx6.free 1
  have f3:=hBx6.free 2
  have hBF:=hBx6.fill3 (.int .i64 s2) (.int .i64 t2) (.int .i64 x2)
  have b0:=hBF.cell (i:=0) rfl
  have b1:=hBF.cell (i:=1) rfl
  have b2:=hBF.cell (i:=2) rfl
  have hBB:Below w.heap.size w (((w6.setCell ⟨w.heap.size,0,none⟩ (.int .i64 s2)).setCell ⟨w.heap.size,1,none⟩ (.int .i64 t2)).setCell ⟨w.heap.size,2,none⟩ (.int .i64 x2)):=((hB6.setCell (Nat.le_refl _) _).setCell (Nat.le_refl _) _).setCell (Nat.le_refl _) _
  clear hBx6 hB6 hBF hr6 hg6 hBx5 hB5 hr5
  go_wp2_with fail
  refine bodyPost_ret (v:=.agg #[.int .i64 s2,.int .i64 t2,.int .i64 x2]) (by simp[results,Tryz.results74,go_sem,b0,b1,b2]) rfl ?_
  exact⟨s2,t2,x2,rfl,hBB⟩
theorem Zmd {w:World} {ao:Option Addr} {n c:Nat} (h:Zzb w ao n c):Calls Tryz.prog 23 #[.slice ao n c] w (fun e w'=>∃s t x k:Int,e= .returned (.tuple #[.agg #[.int .i64 s,.int .i64 t,.int .i64 x],.int .i64 k])∧Below w.heap.size w w'):=by
 have hbz:Below w.heap.size w (w.alloc (.cells #[.int .i64 0,.int .i64 0,.int .i64 0] 46)):=(Below.refl _ _).alloc (Nat.le_refl _) _
 have hBx:=Box.new w #[.int .i64 0,.int .i64 0,.int .i64 0] 46
 have hzz:(w.alloc (.cells #[.int .i64 0,.int .i64 0,.int .i64 0] 46)).heap.size=w.heap.size+1:=by simp
 obtain⟨lb,hR0,hcap,hby⟩:=h
 have hR:=hR0.below hbz
 clear hR0
 go_enter Tryz.func23,Tryz.ntmps23
 go_wp2_with fail
 refine(Zkd hR hcap hby).mono ?_;rintro e w1 ⟨rfl,hr1,hb1⟩
 rw[hzz]at hr1 hb1 ⊢
 have hBx1:=hBx.below hb1 (Nat.lt_succ_self _)
 have hB1:=hbz.trans (hb1.mono (Nat.le_succ _))
 have hC1:Zzb w1 ao n c:=⟨lb,hR.below (by rw[hzz];exact hb1),hcap,hby⟩
 clear hR hby hb1 hBx hbz hzz
 have hgl:=hr1.lt
 go_wp2_with fail
 refine(Zl9 hC1).mono ?_;rintro e w2 ⟨s,t,x,rfl,hb2⟩
 have hBx2:=hBx1.below hb2 hBx1.lt
 have hr2:=hr1.below hb2
 have hB2:=hB1.trans (hb2.mono hB1.size)
 have hBr:=Box.new w2 #[.int .i64 s,.int .i64 t,.int .i64 x] 46
 have hr3:=hr2.alloc (.cells #[.int .i64 s,.int .i64 t,.int .i64 x] 46)
 have hBx3:=hBx2.alloc (.cells #[.int .i64 s,.int .i64 t,.int .i64 x] 46)
 have hB3:=hB2.alloc hB2.size (.cells #[.int .i64 s,.int .i64 t,.int .i64 x] 46)
 have hg2l:=hr2.lt
 have hwl:=hB2.size
 obtain⟨R,hRR⟩:∃R,w2.heap.size=R:=⟨_,rfl⟩
 rw[hRR]at hBr hg2l hwl
 clear hBx1 hBx2 hB1 hB2 hr1 hr2 hb2 hC1
 go_wp2_with fail
 refine(Zbm _ hr3 (by omega)).mono ?_;rintro e w4 ⟨v,rfl,v0,v1,hr4,hg4⟩
 have hBr4:=hBr.gr hg4 (by omega)
 have hBx4:=hBx3.gr hg4 (by omega)
 have hB4:=hB3.trans (Zah hg4 (Nat.le_succ _) hB3.size)
 have d0:=hBr4.cell (i:=0) rfl
 have d1:=hBr4.cell (i:=1) rfl
 have d2:=hBr4.cell (i:=2) rfl
 clear hBr hBx3 hB3 hr3 hg4
 have hgl4:=hr4.lt
 have hBrA:=hBr4.alloc (.cells #[.int .i64 5000,.int .i64 5001,.int .i64 (-5000),.int .i64 (-5001),.int .i64 9223372036854775807,.int .i64 (-9223372036854775808)] 3)
 have hbD:Below w4.heap.size w4 w4.drew:=(Below.refl _ _).drew
 have hrA:=hr4.below hbD
 have hBxD:=hBx4.below hbD hBx4.lt
 have hBrD:=hBr4.below hbD hBr4.lt
 have hBD:=hB4.trans (hbD.mono hB4.size)
 have a0:=hBrD.cell (i:=0) rfl
 have a1:=hBrD.cell (i:=1) rfl
 have a2:=hBrD.cell (i:=2) rfl
 have hn1:w.heap.size≠w.heap.size+1:=by omega
 have hn2:R≠w.heap.size+1:=by omega
 clear hr4 hBr4 hBx4 hB4 hbD a0 a1 a2
 by_cases hv0:v=0
 ·subst hv0
  have g0:=hBrA.cell (i:=0) rfl
  have g1:=hBrA.cell (i:=1) rfl
  have g2:=hBrA.cell (i:=2) rfl
  go_wp2_with fail
  go_region_with (first|(go_at_call 71;refine(Ze6 [5000,5001, -5000, -5001,9223372036854775807, -9223372036854775808] hrA (by omega) rfl rfl (by decide) (by decide)).mono ?_;rintro e w6 ⟨k,rfl,hk,hr6,hg6⟩;have hX:=(hBxD.alloc _).gr hg6 hn1;have hY:=(hBrD.alloc _).gr hg6 hn2;have hBA:=hBD.alloc hBD.size (.cells #[.int .i64 5000,.int .i64 5001,.int .i64 (-5000),.int .i64 (-5001),.int .i64 9223372036854775807,.int .i64 (-9223372036854775808)] 3);have hB6:=hBA.trans (Zah hg6 (Nat.le_succ _) hBA.size);have e0:=hX.cell (i:=0) rfl;have e1:=hX.cell (i:=1) rfl;have e2:=hX.cell (i:=2) rfl;have f0:=hX.free 0;have f1:=hX.free 1;have f2:=hX.free 2;have y0:=hY.cell (i:=0) rfl;have y1:=hY.cell (i:=1) rfl;have y2:=hY.cell (i:=2) rfl;have hBF:=hX.fill3 (.int .i64 s) (.int .i64 t) (.int .i64 x);have b0:=hBF.cell (i:=0) rfl;have b1:=hBF.cell (i:=1) rfl;have b2:=hBF.cell (i:=2) rfl))
  all_goals (go_wp2_with fail;refine bodyPost_ret (v:=.tuple #[.agg #[.int .i64 s,.int .i64 t,.int .i64 x],.int .i64 k]) (by simp[results,Tryz.results23,go_sem,b0,b1,b2]) rfl ?_;exact⟨s,t,x,_,rfl,((hB6.setCell (Nat.le_refl _) _).setCell (Nat.le_refl _) _).setCell (Nat.le_refl _) _⟩)
 ·have hv1:(v==0)=false:=by rw[beq_eq_false_iff_ne];exact hv0
  have hFirst:True:=trivial
  go_wp2_with fail
  go_region_with (first|(go_at_call 45;clear hFirst;refine(Zbm 256 hrA (by omega)).mono ?_;rintro e w5 ⟨k,rfl,k0,k1,hr5,hg5⟩;have hX5:=hBxD.gr hg5 hn1;have hY5:=hBrD.gr hg5 hn2;have hB5:=hBD.trans (Zah hg5 (Nat.le_succ _) hBD.size);have y0:=hY5.cell (i:=0) rfl;have y1:=hY5.cell (i:=1) rfl;have y2:=hY5.cell (i:=2) rfl)|(go_at_call 45;refine(Zbm 100 hr5 (by omega)).mono ?_;rintro e w6 ⟨l,rfl,l0,l1,hr6,hg6⟩;have hX:=hX5.gr hg6 hn1;have hY:=hY5.gr hg6 hn2;have hB6:=hB5.trans (Zah hg6 (Nat.le_succ _) hB5.size);have kw1:IntKind.i64.wrap (k+l)=k+l:=(IntWalk.i64_in _ (by omega));have kw2:IntKind.i64.wrap (k+l-170)=k+l-170:=(IntWalk.i64_in _ (by omega));have z0:=hY.cell (i:=0) rfl;have z1:=hY.cell (i:=1) rfl;have z2:=hY.cell (i:=2) rfl;have e0:=hX.cell (i:=0) rfl;have e1:=hX.cell (i:=1) rfl;have e2:=hX.cell (i:=2) rfl;have f0:=hX.free 0;have f1:=hX.free 1;have f2:=hX.free 2;have hBF:=hX.fill3 (.int .i64 s) (.int .i64 t) (.int .i64 x);have b0:=hBF.cell (i:=0) rfl;have b1:=hBF.cell (i:=1) rfl;have b2:=hBF.cell (i:=2) rfl))
  all_goals (go_wp2_with fail;refine bodyPost_ret (v:=.tuple #[.agg #[.int .i64 s,.int .i64 t,.int .i64 x],.int .i64 (k+l-170)]) (by simp[results,Tryz.results23,go_sem,b0,b1,b2]) rfl ?_;exact⟨s,t,x,_,rfl,((hB6.setCell (Nat.le_refl _) _).setCell (Nat.le_refl _) _).setCell (Nat.le_refl _) _⟩)
end Go.Proofs.YtcjihfongfefoaaGreatDoor
