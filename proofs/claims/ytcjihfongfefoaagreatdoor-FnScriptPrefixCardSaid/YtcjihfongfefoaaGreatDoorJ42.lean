/- Uf -/
import Derived.Test.YtcjihfongfefoaaGreatDoorJ15
namespace Go.Proofs.YtcjihfongfefoaaGreatDoor
open Go.RowKit
set_option maxHeartbeats 25600000
theorem Z5m (s t x k:Nat) (w:World) (hs:2≤s∧s≤8) (ht:t<2^s) (hx:x<2^s) (hk:0<k∧k≤5000):
 Calls Tryz.prog 80 #[.agg #[.int .i64 s,.int .i64 t,.int .i64 x],.int .i64 (-(k:Int))] w fun e w'=>e= .returned (.agg #[.int .i64 s,.int .i64 t,.int .i64 (Zlo s t k x)])∧Below w.heap.size w w':=by
 have HX:=Lib.hid hx
 have HT:=Lib.hid ht
 have hneg:¬(0:Int)< -(k:Int):=by omega
 have hn2:RowKit.wrap64 (-(-(k:Int)))=(k:Int):=by unfold wrap64;omega
 have hn3: - -(k:Int)=(k:Int):=Int.neg_neg _
 clear hx ht
 go_enter Tryz.func80,Tryz.ntmps80
 go_wp2_with fail
 refine wp_loop_rounds 1 ?_
 rw[rounds_succ]
 go_wp2_with fail
 go_loopw [6] (fun i wr=>∃j:Nat,j≤k∧i= .int .i64 j∧RegAt wr w.heap.size s t (Zlo s t j x)∧(∃u0 u1 u2,RegAt wr (w.heap.size+1) u0 u1 u2)∧Below w.heap.size w wr) (fun i _=>k-(intOf i).toNat)
 case atStart=>exact⟨0,Nat.zero_le _,rfl,(Zbs _ _ _ _ _ _ _).1,⟨_,_,_,(Zbs _ _ _ _ _ _ _).2⟩,by repeat (first|exact Below.refl _ _|refine Below.alloc ?_ (by simp;try omega) _)⟩
 case round=>
  obtain⟨j,hj,rfl,hR,⟨u0,u1,u2,hU⟩,hb⟩:=hrel
  have hc0:=hR.c0
  have hc1:=hR.c1
  have hc2:=hR.c2
  have hlt0:=hR.lt
  have hlt1:=hU.lt
  by_cases hlt:j<k
  ·have HJ:=Lib.hid (Ztg s t j x)
   have hlx:=Lib.hid (Zvg (t:=t) (k:=j) hs.1 HX.out)
   have HS:=Lib.hid (Zaex s t (Zlo s t j x))
   generalize Zlo s t j x=y at*
   go_wp2_with fail
   refine(HS.out _ hs HT.out hlx.out).mono ?_;rintro e w1 ⟨rfl,hb1⟩
   have hR1:=hR.below hb1 hlt0
   have hU1:=hU.below hb1 hlt1
   have d0:=hR1.c0
   have d1:=hR1.c1
   have d2:=hR1.c2
   have f0:=hR1.free 0
   have f1:=hR1.free 1
   have f2:=hR1.free 2
   have hA:=((hR1.set0 s).set1 t).set2 (Zl3 s t y)
   have hV:RegAt _ (w.heap.size+1) u0 u1 u2:=((hU1.other (a:=⟨w.heap.size,0,none⟩) (by simp) (.int .i64 s)).other (a:=⟨w.heap.size,1,none⟩) (by simp) (.int .i64 t)).other (a:=⟨w.heap.size,2,none⟩) (by simp) (.int .i64 (Zl3 s t y))
   have hB:=(((hb.trans (hb1.mono (by omega))).setCell (p:=⟨w.heap.size,0,none⟩) (Nat.le_refl _) (.int .i64 s)).setCell (p:=⟨w.heap.size,1,none⟩) (Nat.le_refl _) (.int .i64 t)).setCell (p:=⟨w.heap.size,2,none⟩) (Nat.le_refl _) (.int .i64 (Zl3 s t y))
   clear hR hU hR1 hU1 hb hb1 hc0 hc1 hc2
   go_wp2
   go_roundw
   case rel=>exact⟨j+1,by omega,by go_num,by rw[HJ.out];exact hA,⟨_,_,_,hV⟩,hB⟩
   case measure=>simp[intOf];omega
  ·obtain rfl:j=k:=by omega
   have d0:=hU.c0
   have d1:=hU.c1
   have d2:=hU.c2
   have f0:=hU.free 0
   have f1:=hU.free 1
   have f2:=hU.free 2
   go_wp2_with fail
   refine bodyPost_ret (v:=.agg #[.int .i64 s,.int .i64 t,.int .i64 (Zlo s t j x)]) (by simp[results,Tryz.results80,go_sem,d0,d1,d2]) rfl ⟨rfl,?_⟩
   refine Below.setCell (Below.setCell (Below.setCell hb (by simp) _) (by simp) _) (by simp) _
theorem regB_bd' {S T X:Nat} (h:regB S T X=true):S≤8∧T≤255∧X≤255:=by
 obtain⟨S',T',X',e1,e2,e3,h1,h2,h3⟩:=Zbx h
 have:=Zaw h1.2
 omega
theorem Z7y (S T X:Nat) (k:Int) (Y:Int) (w:World) (hv:regB S T X=true) (hk: -5000≤k∧k≤5000) (ho:¬(k<0∧T%2=0))
 (hj:∀c,Calls Tryz.prog 80 #[.agg #[.int .i64 S,.int .i64 T,.int .i64 X],.int .i64 k] c fun e w'=>e= .returned (.agg #[.int .i64 S,.int .i64 T,.int .i64 Y])∧Below c.heap.size c w'):
 Calls Tryz.prog 25 #[.agg #[.int .i64 S,.int .i64 T,.int .i64 X],.int .i64 k] w fun e w'=>e= .returned (.tuple #[.agg #[.int .i64 S,.int .i64 T,.int .i64 Y],.bool true])∧Below w.heap.size w w':=by
 have hU0:=(Zbs w S T X 0 0 0).2
 have hR0:=(Zbs w S T X 0 0 0).1
 have hb0:Below w.heap.size w ((w.alloc (.cells #[.int .i64 S,.int .i64 T,.int .i64 X] 46)).alloc (.cells #[.int .i64 0,.int .i64 0,.int .i64 0] 46)):=((Below.refl _ _).alloc (Nat.le_refl _) _).alloc (by simp) _
 have HV:=Lib.hid hv
 have HJ:=Lib.hid hj
 have HI:=Lib.hid (show inB k (-5000) 5000=true from Zax hk.1 hk.2)
 have hbd:=regB_bd' hv
 have hcase:¬k<0∨(k<0∧T%2=1):=by omega
 have HC:=Lib.hid hcase
 clear hv hj ho hcase
 rcases HC.out with hk0|⟨hk0,hk1⟩
 ·go_enter Tryz.func25,Tryz.ntmps25
  go_wp2_with fail
  refine(Zao S T X _).mono ?_;rintro e w1 ⟨rfl,hb1⟩
  rw[HV.out]
  have hU:=hU0.below hb1 (by simp;try omega)
  have hR:=hR0.below hb1 (by simp;try omega)
  have hc0:=hR.c0
  have hc1:=hR.c1
  have hc2:=hR.c2
  have hb:=hb0.trans (hb1.mono hb0.size)
  have hUl:=hU.lt
  clear hU0 hR0 hb0 hb1
  go_wp2_with fail
  refine(Zbq _ _ _ _).mono ?_;rintro e w' ⟨rfl,rfl⟩
  rw[HI.out]
  go_wp2_with fail
  refine(HJ.out _).mono ?_;rintro e w2 ⟨rfl,hb2⟩
  have hU:=hU.below hb2 hUl
  have hb:=hb.trans (hb2.mono hb.size)
  have d0:=hU.c0
  have d1:=hU.c1
  have d2:=hU.c2
  have f0:=hU.free 0
  have f1:=hU.free 1
  have f2:=hU.free 2
  go_wp2_with fail
  refine bodyPost_ret (v:=.tuple #[.agg #[.int .i64 S,.int .i64 T,.int .i64 Y],.bool true]) (by simp[results,Tryz.results25,go_sem,d0,d1,d2]) rfl ⟨rfl,?_⟩
  refine Below.setCell (Below.setCell (Below.setCell hb (by simp) _) (by simp) _) (by simp) _
 ·have hm:Int.tmod (T:Int) 2=1:=by rw[Int.tmod_eq_emod_of_nonneg (by omega)];omega
  have hm2:(T:Int)%2=1:=by omega
  go_enter Tryz.func25,Tryz.ntmps25
  go_wp2_with fail
  refine(Zao S T X _).mono ?_;rintro e w1 ⟨rfl,hb1⟩
  rw[HV.out]
  have hU:=hU0.below hb1 (by simp;try omega)
  have hR:=hR0.below hb1 (by simp;try omega)
  have hc0:=hR.c0
  have hc1:=hR.c1
  have hc2:=hR.c2
  have hb:=hb0.trans (hb1.mono hb0.size)
  have hUl:=hU.lt
  clear hU0 hR0 hb0 hb1
  go_wp2_with fail
  refine(Zbq _ _ _ _).mono ?_;rintro e w' ⟨rfl,rfl⟩
  rw[HI.out]
  go_wp2_with fail
  refine(HJ.out _).mono ?_;rintro e w2 ⟨rfl,hb2⟩
  have hU:=hU.below hb2 hUl
  have hb:=hb.trans (hb2.mono hb.size)
  have d0:=hU.c0
  have d1:=hU.c1
  have d2:=hU.c2
  have f0:=hU.free 0
  have f1:=hU.free 1
  have f2:=hU.free 2
  go_wp2_with fail
  refine bodyPost_ret (v:=.tuple #[.agg #[.int .i64 S,.int .i64 T,.int .i64 Y],.bool true]) (by simp[results,Tryz.results25,go_sem,d0,d1,d2]) rfl ⟨rfl,?_⟩
  refine Below.setCell (Below.setCell (Below.setCell hb (by simp) _) (by simp) _) (by simp) _
theorem Zadz (s t x k:Int) (w:World) (h:Zkz s t x k=false):
 Calls Tryz.prog 25 #[.agg #[.int .i64 s,.int .i64 t,.int .i64 x],.int .i64 k] w fun e w'=>e= .returned (.tuple #[.agg #[.int .i64 0,.int .i64 0,.int .i64 0],.bool false])∧Below w.heap.size w w':=by
 have hU0:=(Zbs w s t x 0 0 0).2
 have hR0:=(Zbs w s t x 0 0 0).1
 have hb0:Below w.heap.size w ((w.alloc (.cells #[.int .i64 s,.int .i64 t,.int .i64 x] 46)).alloc (.cells #[.int .i64 0,.int .i64 0,.int .i64 0] 46)):=((Below.refl _ _).alloc (Nat.le_refl _) _).alloc (by simp) _
 by_cases hr:regB s t x=true
 ·have HV:=Lib.hid hr
  obtain⟨S,T,X,rfl,rfl,rfl,h1,h2,h3⟩:=Zbx hr
  have hp2:=Zaw h1.2
  have hcase:inB k (-5000) 5000=false∨(inB k (-5000) 5000=true∧k<0∧T%2=0):=by
   unfold Zkz at h
   rw[hr,Bool.true_and]at h
   by_cases ha:inB k (-5000) 5000=true
   ·rw[ha,Bool.true_and]at h
    simp at h
    exact .inr ⟨ha,h.1,by omega⟩
   ·exact .inl (by simpa using ha)
  have HC:=Lib.hid hcase
  have hT9:T<256:=by omega
  clear hr h hcase h2 h3 hp2
  rcases HC.out with hi|⟨hi,hk0,hk1⟩
  ·have HI:=Lib.hid hi
   clear hi
   go_enter Tryz.func25,Tryz.ntmps25
   go_wp2_with fail
   refine(Zao S T X _).mono ?_;rintro e w1 ⟨rfl,hb1⟩
   rw[HV.out]
   have hU:=hU0.below hb1 (by simp;try omega)
   have hR:=hR0.below hb1 (by simp;try omega)
   have hc1:=hR.c1
   have d0:=hU.c0
   have d1:=hU.c1
   have d2:=hU.c2
   have f0:=hU.free 0
   have f1:=hU.free 1
   have f2:=hU.free 2
   have hb:=hb0.trans (hb1.mono hb0.size)
   go_wp2_with fail
   refine(Zbq _ _ _ _).mono ?_;rintro e w' ⟨rfl,rfl⟩
   rw[HI.out]
   go_wp2_with fail
   refine bodyPost_ret (v:=.tuple #[.agg #[.int .i64 0,.int .i64 0,.int .i64 0],.bool false]) (by simp[results,Tryz.results25,go_sem,d0,d1,d2]) rfl ⟨rfl,?_⟩
   refine Below.setCell (Below.setCell (Below.setCell hb (by simp) _) (by simp) _) (by simp) _
  ·have HI:=Lib.hid hi
   have hm:Int.tmod (T:Int) 2=0:=by rw[Int.tmod_eq_emod_of_nonneg (by omega)];omega
   have hm2:(T:Int)%2=0:=by omega
   clear hi
   go_enter Tryz.func25,Tryz.ntmps25
   go_wp2_with fail
   refine(Zao S T X _).mono ?_;rintro e w1 ⟨rfl,hb1⟩
   rw[HV.out]
   have hU:=hU0.below hb1 (by simp;try omega)
   have hR:=hR0.below hb1 (by simp;try omega)
   have hc1:=hR.c1
   have d0:=hU.c0
   have d1:=hU.c1
   have d2:=hU.c2
   have f0:=hU.free 0
   have f1:=hU.free 1
   have f2:=hU.free 2
   have hb:=hb0.trans (hb1.mono hb0.size)
   go_wp2_with fail
   refine(Zbq _ _ _ _).mono ?_;rintro e w' ⟨rfl,rfl⟩
   rw[HI.out]
   go_wp2_with fail
   refine bodyPost_ret (v:=.tuple #[.agg #[.int .i64 0,.int .i64 0,.int .i64 0],.bool false]) (by simp[results,Tryz.results25,go_sem,d0,d1,d2]) rfl ⟨rfl,?_⟩
   refine Below.setCell (Below.setCell (Below.setCell hb (by simp) _) (by simp) _) (by simp) _
 ·have hr':regB s t x=false:=by simpa using hr
  have HV:=Lib.hid hr'
  clear hr hr' h
  go_enter Tryz.func25,Tryz.ntmps25
  go_wp2_with fail
  refine(Zao s t x _).mono ?_;rintro e w1 ⟨rfl,hb1⟩
  rw[HV.out]
  have hU:=hU0.below hb1 (by simp;try omega)
  have d0:=hU.c0
  have d1:=hU.c1
  have d2:=hU.c2
  have f0:=hU.free 0
  have f1:=hU.free 1
  have f2:=hU.free 2
  have hb:=hb0.trans (hb1.mono hb0.size)
  go_wp2_with fail
  refine bodyPost_ret (v:=.tuple #[.agg #[.int .i64 0,.int .i64 0,.int .i64 0],.bool false]) (by simp[results,Tryz.results25,go_sem,d0,d1,d2]) rfl ⟨rfl,?_⟩
  refine Below.setCell (Below.setCell (Below.setCell hb (by simp) _) (by simp) _) (by simp) _
theorem Ze0 (s t x k:Int) (w:World):Calls Tryz.prog 25 #[.agg #[.int .i64 s,.int .i64 t,.int .i64 x],.int .i64 k] w (Zey w (jmpR s t x k)):=by
 by_cases h:Zkz s t x k=true
 ·have hr:=Z14 h
  unfold Zkz at h
  simp only[Bool.and_eq_true]at h
  obtain⟨⟨h1,h2⟩,h3⟩:=h
  have h2:=inB_iff.1 h2
  obtain⟨S,T,X,rfl,rfl,rfl,g1,g2,g3⟩:=Zbx h1
  refine(Z7y S T X k (jmpX S T X k) w h1 h2 (by simp at h3;omega) fun c=>?_).mono ?_
  ·by_cases hk:0≤k
   ·obtain⟨K,rfl⟩:=Int.eq_ofNat_of_zero_le hk
    unfold jmpX
    rw[if_pos hk]
    exact Ztu S T X K c g1 g2.2 g3 (by omega)
   ·obtain⟨K,hK⟩:∃K:Nat,k= -(K:Int):=⟨(-k).toNat,by omega⟩
    subst hK
    unfold jmpX
    rw[if_neg hk,Int.neg_neg]
    exact Z5m S T X K c g1 g2.2 g3 (by omega)
  ·rintro e w' ⟨rfl,hb⟩
   exact⟨by rw[hr];rfl,hb⟩
 ·have h':Zkz s t x k=false:=by simpa using h
  refine(Zadz s t x k w h').mono ?_
  rintro e w' ⟨rfl,hb⟩
  exact⟨by rw[Z0w h'];rfl,hb⟩
end Go.Proofs.YtcjihfongfefoaaGreatDoor
