/- Rs Rj Rh -/
import Derived.Test.YtcjihfongfefoaaGreatDoorJ05
import Derived.Deep.RegionHeld3
namespace Go.Proofs.YtcjihfongfefoaaGreatDoor
open Go.RowKit
set_option maxHeartbeats 25600000
set_option maxRecDepth 100000
def Zfx (s t x:Nat):Nat:=x/2+par (x &&& t)*2^(s-1)
theorem Z24 {s t x:Nat} (hs:2≤s) (hx:x<2^s):Zfx s t x<2^s:=by
 unfold Zfx
 have h1:=Zm4 (x &&& t)
 have h2:2^s=2*2^(s-1):=by rw[←Nat.pow_succ'];congr 1;omega
 have h3:par (x &&& t)*2^(s-1)≤1*2^(s-1):=Nat.mul_le_mul_right _ h1
 omega
theorem Zaw {s:Nat} (h:s≤8):1≤2^s∧2^s≤256:=by
 refine⟨Nat.one_le_two_pow,?_⟩
 exact Nat.le_trans (Nat.pow_le_pow_right (by omega) h) (by decide)
theorem Zwu (s t x:Nat) (w:World) (hs:2≤s∧s≤8) (ht:t<2^s) (hx:x<2^s):
 Calls Tryz.prog 163 #[.agg #[.int .i64 s,.int .i64 t,.int .i64 x]] w fun e w'=>e= .returned (.agg #[.int .i64 s,.int .i64 t,.int .i64 (Zfx s t x)])∧Below w.heap.size w w':=by
 have hb:=Zaw hs.2
 have hlt:=@Z24 s t x hs.1 hx
 have hx2:x<256:=by omega
 have ht2:t<256:=by omega
 have ha:=Zfd x t (by omega) (by omega)
 have hal:x &&& t≤x:=Nat.and_le_left
 have HP:=Lib.hid (Znm (x &&& t))
 have hq:=Zm4 (x &&& t)
 have hst:=Lib.hid (show(Zfx s t x:Int)=(x:Int)/2+(par (x &&& t):Int)*((2^(s-1):Nat):Int)by unfold Zfx;rw[Int.natCast_add,Int.natCast_mul];rfl)
 have HT:=Lib.hid (show ∀w,Calls Tryz.prog 162 #[.int .i64 ((s:Int)-1)] w fun e w'=>e= .returned (.int .i64 ((2^(s-1):Nat):Int))∧w=w' from fun w=>by
  have h:=Zdd ((s:Int)-1) w (by omega)
  rw[show((s:Int)-1).toNat=s-1 by omega]at h
  have e:((2^(s-1):Nat):Int)=(2:Int)^(s-1):=by rw[Int.natCast_pow];rfl
  rw[e];exact h)
 have hp:=Zaw (s:=s-1) (by omega)
 generalize 2^(s-1)=p at hst HT hp
 generalize par (x &&& t)=q at hst HP hq
 generalize Zfx s t x=z at*
 have hz:z<256:=by omega
 obtain⟨r,hr⟩:∃r,r=q*p:=⟨_,rfl⟩
 have hr2:r≤256:=by
  rw[hr];exact Nat.le_trans (Nat.mul_le_mul hq hp.2) (by omega)
 have hmul:(q:Int)*(p:Int)=(r:Int):=by rw[hr,Int.natCast_mul]
 have hst2:=hst.out
 rw[hmul]at hst2
 have hw1:IntKind.i64.wrap ((x:Int)/2)=(x:Int)/2:=IntWalk.i64_in _ (by omega)
 have hw2:IntKind.i64.wrap ((s:Int)-1)=(s:Int)-1:=IntWalk.i64_in _ (by omega)
 have hw3:IntKind.i64.wrap ((q:Int)*(p:Int))=(r:Int):=by rw[hmul];exact IntWalk.i64_in _ (by omega)
 have hw4:IntKind.i64.wrap ((x:Int)/2+(r:Int))=(z:Int):=by rw[←hst2];exact IntWalk.i64_in _ (by omega)
 clear hlt hb hx ht hmul hst2 hr hst
 go_enter Tryz.func163,Tryz.ntmps163
 go_wp2_with fail
 refine wp_region_still_tail 16 (by kernel_rfl) (by kernel_rfl) ?_
 simp only[List.take_succ_cons,List.take_zero,List.drop_succ_cons,List.drop_zero]
 change wpStill _ _ (World.drew _) _ _ _
 repeat (first|still_step|still_call ((HP.out _ (by omega)).mono fun _ _ ⟨a,b⟩=>⟨a,b.symm⟩)|still_call ((HT.out _).mono fun _ _ ⟨a,b⟩=>⟨a,b.symm⟩))
 refine wpStill_nil ?_
 clear hw1 hw2 hw3 hw4
 change wpList _ _ _ _ _ (World.drew _)
 go_wp2_with fail
 refine bodyPost_ret (v:=.agg #[.int .i64 s,.int .i64 t,.int .i64 z]) (by simp[results,Tryz.results163,go_sem]) rfl ⟨rfl,?_⟩
 repeat (first|exact Below.refl _ _|refine Below.drew ?_|refine Below.alloc ?_ (by simp) _|refine Below.setCell ?_ (by simp) _)
def Zdu (s t:Nat):Nat→Nat→Nat
 |0,x=>x
 |k+1,x=>Zdu s t k (Zfx s t x)
theorem Zgm (s t:Nat):∀(k x:Nat),Zdu s t (k+1) x=Zfx s t (Zdu s t k x):=by
 intro k
 induction k with
 |zero=>intro x;rfl
 |succ k ih=>intro x;rw[Zdu,ih,Zdu]
theorem Zid {s t:Nat} (hs:2≤s):∀{k x:Nat},x<2^s→Zdu s t k x<2^s:=by
 intro k
 induction k with
 |zero=>intro x h;exact h
 |succ k ih=>intro x h;exact ih (Z24 hs h)
def RegAt (w:World) (b:Nat) (s t x:Int):Prop:=w.heap[b]?=some (.cells #[.int .i64 s,.int .i64 t,.int .i64 x] 46 (0,0))
theorem RegAt.c0 {w:World} {b:Nat} {s t x:Int} (h:RegAt w b s t x):w.cell? ⟨b,0,none⟩=some (.int .i64 s):=by unfold RegAt at h;simp[World.cell?,h]
theorem RegAt.c1 {w:World} {b:Nat} {s t x:Int} (h:RegAt w b s t x):w.cell? ⟨b,1,none⟩=some (.int .i64 t):=by unfold RegAt at h;simp[World.cell?,h]
theorem RegAt.c2 {w:World} {b:Nat} {s t x:Int} (h:RegAt w b s t x):w.cell? ⟨b,2,none⟩=some (.int .i64 x):=by unfold RegAt at h;simp[World.cell?,h]
theorem RegAt.free {w:World} {b:Nat} {s t x:Int} (h:RegAt w b s t x) (j:Nat):w.frozen? ⟨b,j,none⟩=false:=by unfold RegAt at h;simp[World.frozen?,h]
theorem RegAt.lt {w:World} {b:Nat} {s t x:Int} (h:RegAt w b s t x):b<w.heap.size:=lt_of_block h
theorem RegAt.below {w w':World} {b:Nat} {s t x:Int} (h:RegAt w b s t x) {B:Nat} (hb:Below B w w') (hB:b<B):RegAt w' b s t x:=by unfold RegAt;rw[hb.block b hB];exact h
theorem RegAt.set0 {w:World} {b:Nat} {s t x:Int} (h:RegAt w b s t x) (y:Int):RegAt (w.setCell ⟨b,0,none⟩ (.int .i64 y)) b y t x:=by
 unfold RegAt at*;exact heap_setCell_same w b 0 _ _ _ h
theorem RegAt.set1 {w:World} {b:Nat} {s t x:Int} (h:RegAt w b s t x) (y:Int):RegAt (w.setCell ⟨b,1,none⟩ (.int .i64 y)) b s y x:=by
 unfold RegAt at*;exact heap_setCell_same w b 1 _ _ _ h
theorem RegAt.set2 {w:World} {b:Nat} {s t x:Int} (h:RegAt w b s t x) (y:Int):RegAt (w.setCell ⟨b,2,none⟩ (.int .i64 y)) b s t y:=by
 unfold RegAt at*;exact heap_setCell_same w b 2 _ _ _ h
theorem RegAt.other {w:World} {b:Nat} {s t x:Int} (h:RegAt w b s t x) {a:Addr} (hne:b≠a.block) (u:Value):RegAt (w.setCell a u) b s t x:=by
 unfold RegAt at*;rw[Below.heap_setCell _ _ _ _ hne];exact h
theorem Zbs (w:World) (s t x a b c:Int):RegAt ((w.alloc (.cells #[.int .i64 s,.int .i64 t,.int .i64 x] 46)).alloc (.cells #[.int .i64 a,.int .i64 b,.int .i64 c] 46)) w.heap.size s t x∧RegAt ((w.alloc (.cells #[.int .i64 s,.int .i64 t,.int .i64 x] 46)).alloc (.cells #[.int .i64 a,.int .i64 b,.int .i64 c] 46)) (w.heap.size+1) a b c:=by
 constructor
 ·unfold RegAt
  rw[Below.heap_alloc _ _ _ (by simp),heap_alloc_new]
 ·have:=heap_alloc_new (w.alloc (.cells #[.int .i64 s,.int .i64 t,.int .i64 x] 46)) (.cells #[.int .i64 a,.int .i64 b,.int .i64 c] 46)
  simpa[RegAt]using this
theorem Ztu (s t x k:Nat) (w:World) (hs:2≤s∧s≤8) (ht:t<2^s) (hx:x<2^s) (hk:k≤5000):
 Calls Tryz.prog 80 #[.agg #[.int .i64 s,.int .i64 t,.int .i64 x],.int .i64 k] w fun e w'=>e= .returned (.agg #[.int .i64 s,.int .i64 t,.int .i64 (Zdu s t k x)])∧Below w.heap.size w w':=by
 have HX:=Lib.hid hx
 have HT:=Lib.hid ht
 clear hx ht
 go_enter Tryz.func80,Tryz.ntmps80
 go_wp2_with fail
 go_loopw [5] (fun i wr=>∃j:Nat,j≤k∧i= .int .i64 j∧RegAt wr w.heap.size s t (Zdu s t j x)∧(∃u0 u1 u2,RegAt wr (w.heap.size+1) u0 u1 u2)∧Below w.heap.size w wr) (fun i _=>k-(intOf i).toNat)
 case atStart=>exact⟨0,Nat.zero_le _,rfl,(Zbs _ _ _ _ _ _ _).1,⟨_,_,_,(Zbs _ _ _ _ _ _ _).2⟩,by repeat (first|exact Below.refl _ _|refine Below.alloc ?_ (by simp;try omega) _)⟩
 case round=>
  obtain⟨j,hj,rfl,hR,⟨u0,u1,u2,hU⟩,hb⟩:=hrel
  have hc0:=hR.c0
  have hc1:=hR.c1
  have hc2:=hR.c2
  have hlt0:=hR.lt
  have hlt1:=hU.lt
  by_cases hlt:j<k
  ·have HJ:=Lib.hid (Zgm s t j x)
   have hlx:=Lib.hid (Zid (t:=t) (k:=j) hs.1 HX.out)
   have HS:=Lib.hid (Zwu s t (Zdu s t j x))
   generalize Zdu s t j x=y at*
   go_wp2_with fail
   refine(HS.out _ hs HT.out hlx.out).mono ?_;rintro e w1 ⟨rfl,hb1⟩
   have hR1:=hR.below hb1 hlt0
   have hU1:=hU.below hb1 hlt1
   have d0:=hR1.c0
   have d1:=hR1.c1
   have d2:=hR1.c2
   have f0:=hR1.free 0
   have f1:=hR1.free 1
   have f2:=hR1.free 2
   have hA:=((hR1.set0 s).set1 t).set2 (Zfx s t y)
   have hV:RegAt _ (w.heap.size+1) u0 u1 u2:=((hU1.other (a:=⟨w.heap.size,0,none⟩) (by simp) (.int .i64 s)).other (a:=⟨w.heap.size,1,none⟩) (by simp) (.int .i64 t)).other (a:=⟨w.heap.size,2,none⟩) (by simp) (.int .i64 (Zfx s t y))
   have hB:=(((hb.trans (hb1.mono (by omega))).setCell (p:=⟨w.heap.size,0,none⟩) (Nat.le_refl _) (.int .i64 s)).setCell (p:=⟨w.heap.size,1,none⟩) (Nat.le_refl _) (.int .i64 t)).setCell (p:=⟨w.heap.size,2,none⟩) (Nat.le_refl _) (.int .i64 (Zfx s t y))
   clear hR hU hR1 hU1 hb hb1 hc0 hc1 hc2
   go_wp2
   go_roundw
   case rel=>exact⟨j+1,by omega,by go_num,by rw[HJ.out];exact hA,⟨_,_,_,hV⟩,hB⟩
   case measure=>simp[intOf];omega
  ·obtain rfl:j=k:=by omega
   have hneg:¬(0:Int)< -(j:Int):=by omega
   have d0:=hU.c0
   have d1:=hU.c1
   have d2:=hU.c2
   have f0:=hU.free 0
   have f1:=hU.free 1
   have f2:=hU.free 2
   go_wp2_with fail
   refine wp_loop_rounds 1 ?_
   rw[rounds_succ]
   go_wp2
   refine bodyPost_ret (v:=.agg #[.int .i64 s,.int .i64 t,.int .i64 (Zdu s t j x)]) (by simp[results,Tryz.results80,go_sem,d0,d1,d2]) rfl ⟨rfl,?_⟩
   refine Below.setCell (Below.setCell (Below.setCell hb (by simp) _) (by simp) _) (by simp) _
theorem Zx8 (n:Int):wrap64 n=IntKind.i64.wrap n:=by rw[IntKind.wrap_i64];unfold wrap64;omega
theorem Zajc {s x q:Nat} (hs:2≤s∧s≤8) (hx:x<2^s) (hq:q≤1):bits .or .i64 ((x:Int)/2) (IntKind.i64.wrap ((q:Int)*2^(s-1)))=((x/2+q*2^(s-1):Nat):Int):=by
 have hb:=Zaw hs.2
 have hp:=Zaw (s:=s-1) (by omega)
 have hqp:q*2^(s-1)≤1*2^(s-1):=Nat.mul_le_mul_right _ hq
 have h2:2^s=2*2^(s-1):=by rw[←Nat.pow_succ'];congr 1;omega
 have e1:(q:Int)*2^(s-1)=((q*2^(s-1):Nat):Int):=by rw[Int.natCast_mul,Int.natCast_pow];rfl
 have e2:(x:Int)/2=((x/2:Nat):Int):=by omega
 have e3:q*2^(s-1)%2^(s-1)=0:=Nat.mul_mod_left _ _
 rw[e1,Zhi _ (by omega),e2,Z74 _ _ (by omega) (by omega),Nat.or_comm,nat_join (s-1) _ _ e3 (by omega),Nat.add_comm]
theorem Zlj (s t x:Nat) (w:World) (hs:2≤s∧s≤8) (ht:t<2^s) (hx:x<2^s):
 Calls Tryz.prog 76 #[.agg #[.int .i64 s,.int .i64 t,.int .i64 x]] w fun e w'=>e= .returned (.int .i64 (Zfx s t x))∧Below w.heap.size w w':=by
 have hb:=Zaw hs.2
 have hx2:x<256:=by omega
 have ht2:t<256:=by omega
 have ha:=Zfd x t (by omega) (by omega)
 have hal:x &&& t≤x:=Nat.and_le_left
 have HP:=Lib.hid (Zva (x &&& t))
 have hq:=Zm4 (x &&& t)
 have HQ:=Lib.hid (show Zfx s t x=x/2+par (x &&& t)*2^(s-1)from rfl)
 generalize par (x &&& t)=q at HP hq HQ
 generalize Zfx s t x=z at*
 have hw1:IntKind.i64.wrap ((x:Int)/2)=(x:Int)/2:=IntWalk.i64_in _ (by omega)
 have hw2:IntKind.i64.wrap ((s:Int)-1)=(s:Int)-1:=IntWalk.i64_in _ (by omega)
 have HX:=Lib.hid hx
 clear hb hx ht
 go_enter Tryz.func76,Tryz.ntmps76
 go_wp2_with fail
 go_quiet ((go_at_call 160;exact Zd7 (HP.out _ (by omega))))
 clear hw1 hw2
 go_wp2
 go_ret
 exact⟨Zd6 (by rw[Zx8,Zajc hs HX.out hq,HQ.out]),Zgv _ _ _⟩
def Zey (w:World) (r:Option (Int×Int×Int)) (e:Ending) (w':World):Prop:=
 e= .returned (.tuple #[.agg #[.int .i64 (r.getD (0,0,0)).1,.int .i64 (r.getD (0,0,0)).2.1,.int .i64 (r.getD (0,0,0)).2.2],.bool r.isSome])∧Below w.heap.size w w'
theorem Zi6 (s t x k:Nat) (w:World) (hs:2≤s∧s≤8) (ht:1≤t∧t<2^s) (hx:x<2^s) (hk:k≤5000):
 Calls Tryz.prog 24 #[.agg #[.int .i64 s,.int .i64 t,.int .i64 x],.int .i64 k] w fun e w'=>e= .returned (.tuple #[.agg #[.int .i64 s,.int .i64 t,.int .i64 (Zdu s t k x)],.bool true])∧Below w.heap.size w w':=by
 have hp:(2:Int)^s=((2^s:Nat):Int):=by rw[Int.natCast_pow];rfl
 have hv:regB s t x=true:=by
  unfold regB tapB
  rw[show((s:Int)).toNat=s from rfl,hp,Zax (by omega) (by omega),Zax (by omega) (by omega),Zax (by omega) (by omega)];rfl
 have HX:=Lib.hid hx
 have HT:=Lib.hid ht.2
 clear hx ht hp
 go_enter Tryz.func24,Tryz.ntmps24
 go_wp2_with fail
 refine(Zal s t x _).mono ?_;rintro e w1 ⟨rfl,hb1⟩
 have hR0:=(Zbs w s t x 0 0 0).1.below hb1 (by simp;try omega)
 have hU0:=(Zbs w s t x 0 0 0).2.below hb1 (by simp;try omega)
 have hb:Below w.heap.size w w1:=(((Below.refl _ _).alloc (Nat.le_refl _) _).alloc (by simp) _).trans (hb1.mono (by simp;try omega))
 have hc1:=hR0.c1
 go_wp2_with fail
 go_loopw [1] (fun i wr=>∃j:Nat,j≤k∧i= .int .i64 j∧RegAt wr w.heap.size s t (Zdu s t (k-j) x)∧(∃u0 u1 u2,RegAt wr (w.heap.size+1) u0 u1 u2)∧Below w.heap.size w wr) (fun i _=>(intOf i).toNat)
 case atStart=>exact⟨k,Nat.le_refl _,rfl,by rw[Nat.sub_self];exact hR0,⟨_,_,_,hU0⟩,hb⟩
 case round=>
  clear hR0 hU0 hb hb1 hc1
  obtain⟨j,hj,rfl,hR,⟨u0,u1,u2,hU⟩,hb⟩:=hrel
  have hc0:=hR.c0
  have hc1:=hR.c1
  have hc2:=hR.c2
  have hlt0:=hR.lt
  have hlt1:=hU.lt
  by_cases hlt:0<j
  ·have HJ:=Lib.hid (Zgm s t (k-j) x)
   rw[show k-j+1=k-(j-1)by omega]at HJ
   have hlx:=Lib.hid (Zid (t:=t) (k:=k-j) hs.1 HX.out)
   have HS:=Lib.hid (Zlj s t (Zdu s t (k-j) x))
   generalize Zdu s t (k-j) x=y at*
   go_wp2_with fail
   refine(HS.out _ hs HT.out hlx.out).mono ?_;rintro e w1 ⟨rfl,hb1⟩
   have hR1:=hR.below hb1 hlt0
   have hU1:=hU.below hb1 hlt1
   have d2:=hR1.c2
   have f2:=hR1.free 2
   have hA:=hR1.set2 (Zfx s t y)
   have hV:RegAt _ (w.heap.size+1) u0 u1 u2:=hU1.other (a:=⟨w.heap.size,2,none⟩) (by simp) (.int .i64 (Zfx s t y))
   have hB:=(hb.trans (hb1.mono (by omega))).setCell (p:=⟨w.heap.size,2,none⟩) (Nat.le_refl _) (.int .i64 (Zfx s t y))
   clear hR hU hR1 hU1 hb hb1 hc0 hc1 hc2
   go_wp2
   go_roundw
   case rel=>exact⟨j-1,by omega,Ztf (by omega),by rw[HJ.out];exact hA,⟨_,_,_,hV⟩,hB⟩
   case measure=>simp[intOf];omega
  ·obtain rfl:j=0:=by omega
   have d0:=hU.c0
   have d1:=hU.c1
   have d2:=hU.c2
   have f0:=hU.free 0
   have f1:=hU.free 1
   have f2:=hU.free 2
   go_wp2_with fail
   refine wp_loop_rounds 1 ?_
   rw[rounds_succ]
   go_wp2
   refine bodyPost_ret (v:=.tuple #[.agg #[.int .i64 s,.int .i64 t,.int .i64 (Zdu s t k x)],.bool true]) (by simp[results,Tryz.results24,go_sem,d0,d1,d2]) rfl ⟨rfl,?_⟩
   refine Below.setCell (Below.setCell (Below.setCell hb (by simp) _) (by simp) _) (by simp) _
def hopX (s t x:Nat):Nat→Nat
 |0=>x
 |i+1=>Zdu s t s (hopX s t x i)
theorem Zaal {s t x:Nat} (hs:2≤s) (hx:x<2^s):∀i,hopX s t x i<2^s:=by
 intro i
 induction i with
 |zero=>exact hx
 |succ i ih=>exact Zid hs ih
def hopL (s t x:Nat) (ch:Int) (n:Nat):List Int:=(List.range n).map fun i=>(hopX s t x i:Int)%ch
theorem Z9z {s t x n:Nat} {ch:Int}:hopL s t x ch (n+1)=hopL s t x ch n++[(hopX s t x n:Int)%ch]:=Zht (f:=fun i=>(hopX s t x i:Int)%ch) n
theorem Zm1 {s t x n:Nat} {ch:Int}:(hopL s t x ch n).length=n:=by simp[hopL]
theorem Zafd {s t x n i:Nat} {ch:Int} (h:i<n):(hopL s t x ch n).getD i 0=(hopX s t x i:Int)%ch:=by simp[hopL,List.getD,h]
def Zgh (s t x ch n:Int):Bool:=regB s t x&&chB ch&&inB n 0 300
def Zcz (s t x ch n:Int):Option (List Int):=if Zgh s t x ch n=true then some (hopL s.toNat t.toNat x.toNat ch n.toNat)else none
theorem Zft {s t x ch n:Int} (h:Zgh s t x ch n=false):Zcz s t x ch n=none:=by simp[Zcz,h]
theorem Znv {s t x ch n:Int} (h:Zgh s t x ch n=true):Zcz s t x ch n=some (hopL s.toNat t.toNat x.toNat ch n.toNat):=by simp[Zcz,h]
theorem Zbx {s t x:Int} (h:regB s t x=true):∃S T X:Nat,s=S∧t=T∧x=X∧(2≤S∧S≤8)∧(1≤T∧T<2^S)∧X<2^S:=by
 unfold regB tapB at h
 simp only[Bool.and_eq_true]at h
 obtain⟨⟨h1,h2⟩,h3⟩:=h
 have a:=inB_iff.1 h1
 have b:=inB_iff.1 h2
 have c:=inB_iff.1 h3
 obtain⟨S,rfl⟩:=Int.eq_ofNat_of_zero_le (show 0≤s by omega)
 obtain⟨T,rfl⟩:=Int.eq_ofNat_of_zero_le (show 0≤t by omega)
 obtain⟨X,rfl⟩:=Int.eq_ofNat_of_zero_le (show 0≤x by omega)
 have hp:(2:Int)^S=((2^S:Nat):Int):=by rw[Int.natCast_pow];rfl
 rw[Int.toNat_natCast,hp]at b c
 exact⟨S,T,X,rfl,rfl,rfl,by omega,by omega,by omega⟩
theorem Za4 (w:World) (s t x:Int):RegAt (w.alloc (.cells #[.int .i64 s,.int .i64 t,.int .i64 x] 46)) w.heap.size s t x:=by
 unfold RegAt;rw[heap_alloc_new]
theorem RegAt.alloc {w:World} {b:Nat} {s t x:Int} (h:RegAt w b s t x) (o:Obj):RegAt (w.alloc o) b s t x:=by
 unfold RegAt;rw[Below.heap_alloc _ _ _ h.lt];exact h
theorem Zsb (s t x ch n:Int) (w:World):Calls Tryz.prog 227 #[.agg #[.int .i64 s,.int .i64 t,.int .i64 x],.int .i64 ch,.int .i64 n] w (RetIntsB w (Zcz s t x ch n)):=by
 have hR0:RegAt ((w.alloc (.cells #[.int .i64 s,.int .i64 t,.int .i64 x] 46)).alloc (.cells #[] 3)) w.heap.size s t x:=(Za4 w s t x).alloc _
 have hO0:OwnV ((w.alloc (.cells #[.int .i64 s,.int .i64 t,.int .i64 x] 46)).alloc (.cells #[] 3)) (w.heap.size+1) (.slice (some ⟨w.heap.size+1,0,none⟩) 0 0) []:=by
  have:=OwnV.made0 (w.alloc (.cells #[.int .i64 s,.int .i64 t,.int .i64 x] 46)) (lo:=w.heap.size+1) (by simp)
  simpa using this
 have hB0:Below w.heap.size w ((w.alloc (.cells #[.int .i64 s,.int .i64 t,.int .i64 x] 46)).alloc (.cells #[] 3)):=((Below.refl _ _).alloc (Nat.le_refl _) _).alloc (by simp) _
 have hz0:((w.alloc (.cells #[.int .i64 s,.int .i64 t,.int .i64 x] 46)).alloc (.cells #[] 3)).heap.size=w.heap.size+2:=by simp
 have HZ:=Lib.hid hz0;clear hz0
 by_cases h1:regB s t x=true
 ·by_cases h2:chB ch=true
  ·have h2':=chB_iff.1 h2
   by_cases h3:inB n 0 300=true
   ·have h3':=inB_iff.1 h3
    have hr:=Lib.hid (Znv (show Zgh s t x ch n=true by simp[Zgh,h1,h2,h3]))
    obtain⟨S,T,X,rfl,rfl,rfl,hS,hT,hX⟩:=Zbx h1
    obtain⟨m,rfl⟩:=Int.eq_ofNat_of_zero_le h3'.1
    have hm:m≤300:=by omega
    have HX:=Lib.hid hX;have HT:=Lib.hid hT.2
    clear hX hT
    simp only[Int.toNat_natCast]at hr
    go_enter Tryz.func227,Tryz.ntmps227
    go_wp2_with fail
    refine(Zao _ _ _ _).mono ?_;rintro e w1 ⟨rfl,hb1⟩
    have hR1:=hR0.below hb1 (by rw[HZ.out];omega)
    have hO1:OwnV w1 (w.heap.size+1) (.slice (some ⟨w.heap.size+1,0,none⟩) 0 0) []:=Zam hO0 hb1 (by intro k hk;simp[Value.ownBlock]at hk;rw[HZ.out];omega)
    have hB1:=hB0.trans (hb1.mono (by rw[HZ.out];omega))
    clear hR0 hO0 hB0 hb1
    go_wp2_with fail
    refine(Zjy _ _).mono ?_;rintro e w' ⟨rfl,rfl⟩
    go_wp2_with fail
    refine(Zbq _ _ _ _).mono ?_;rintro e w' ⟨rfl,rfl⟩
    go_wp2_with fail
    go_loopw [8,9] (fun v i wr=>∃k:Nat,k≤m∧i= .int .i64 k∧OwnV wr (w.heap.size+1) v (hopL S T X ch k)∧RegAt wr w.heap.size S T (hopX S T X k)∧Below w.heap.size w wr) (fun _ i _=>m-(intOf i).toNat)
    case atStart=>exact⟨0,Nat.zero_le _,rfl,hO1,hR1,hB1⟩
    case round=>
     clear hR1 hO1 hB1
     obtain⟨k,hk,rfl,hown,hR,hb⟩:=hrel
     have hsz:=hR.lt
     by_cases hlt:k<m
     ·have hlx:=Zaal (t:=T) hS.1 HX.out k
      have HL:=Lib.hid (@Z9z S T X k ch)
      have hlen:=Lib.hid (show(hopL S T X ch k).length≤1099511627775 by rw[Zm1];omega)
      have HJ:=Lib.hid (Ztu S T (hopX S T X k) S)
      have HHX:=Lib.hid (show hopX S T X (k+1)=Zdu S T S (hopX S T X k)from rfl)
      have hp:=Zaw hS.2
      have hy:hopX S T X k≤256:=by omega
      have HY:=Lib.hid hlx;clear hlx hp
      generalize hopX S T X k=y at*
      have hc0:=hR.c0
      have hc1:=hR.c1
      have hc2:=hR.c2
      go_wp2_with (at_builtin;refine Zqp wr rfl _ _ rfl (w.heap.size+1) u8 _ _ rfl (by exact hown) rfl hlen.out hsz ?_;intro v' w1 hown' hgr hb';have d0:=(hR.below hb' (by omega)).c0;have d1:=(hR.below hb' (by omega)).c1;have d2:=(hR.below hb' (by omega)).c2)
      have hR2:=hR.below hb' (by omega)
      have hb2:=hb.trans (hb'.mono (by omega))
      have hl2:=hR2.lt
      refine(HJ.out _ hS HT.out HY.out (by omega)).mono ?_;rintro e w2 ⟨rfl,hb3⟩
      have hR3:=hR2.below hb3 hl2
      have e0:=hR3.c0
      have e1:=hR3.c1
      have e2:=hR3.c2
      have f0:=hR3.free 0
      have f1:=hR3.free 1
      have f2:=hR3.free 2
      have hA:=((hR3.set0 S).set1 T).set2 (Zdu S T S y)
      have hB:=(((hb2.trans (hb3.mono (by omega))).setCell (p:=⟨w.heap.size,0,none⟩) (Nat.le_refl _) (.int .i64 S)).setCell (p:=⟨w.heap.size,1,none⟩) (Nat.le_refl _) (.int .i64 T)).setCell (p:=⟨w.heap.size,2,none⟩) (Nat.le_refl _) (.int .i64 (Zdu S T S y))
      have hO2:OwnV w2 (w.heap.size+1) v' (hopL S T X ch (k+1)):=by rw[HL.out];exact Zam hown' hb3 fun j hj=>(hown'.lt j hj).2
      have hO3:OwnV _ (w.heap.size+1) v' (hopL S T X ch (k+1)):=ownsRow_setCell_below (ownsRow_setCell_below (ownsRow_setCell_below hO2 (a:=⟨w.heap.size,0,none⟩) (by simp) (.int .i64 S)) (a:=⟨w.heap.size,1,none⟩) (by simp) (.int .i64 T)) (a:=⟨w.heap.size,2,none⟩) (by simp) (.int .i64 (Zdu S T S y))
      clear hown' hown hb hb' hb2 hb3 hR hR2 hR3 hO2 hgr
      go_wp2
      go_roundw
      case rel=>exact⟨k+1,by omega,by go_num,hO3,by rw[HHX.out];exact hA,hB⟩
      case measure=>simp[intOf];omega
     ·go_wp2
      go_ret2
      obtain rfl:k=m:=by omega
      refine Zc0 (hown.mono (by omega)) (by rw[Zm1];omega) (by rw[hr.out];rfl) (by rw[hr.out];rfl) hb
   ·have h3':inB n 0 300=false:=by simpa using h3
    have hr:=Lib.hid (Zft (show Zgh s t x ch n=false by simp[Zgh,h3']))
    clear h3
    go_enter Tryz.func227,Tryz.ntmps227
    go_wp2_with fail
    refine(Zao _ _ _ _).mono ?_;rintro e w1 ⟨rfl,hb1⟩
    have hO1:OwnV w1 (w.heap.size+1) (.slice (some ⟨w.heap.size+1,0,none⟩) 0 0) []:=Zam hO0 hb1 (by intro k hk;simp[Value.ownBlock]at hk;rw[HZ.out];omega)
    have hB1:=hB0.trans (hb1.mono (by rw[HZ.out];omega))
    go_wp2_with fail
    refine(Zjy _ _).mono ?_;rintro e w' ⟨rfl,rfl⟩
    go_wp2_with fail
    refine(Zbq _ _ _ _).mono ?_;rintro e w' ⟨rfl,rfl⟩
    go_wp2_with fail
    go_ret2
    exact Zc0 (hO1.mono (by omega)) (by simp) (by rw[hr.out];rfl) (by rw[hr.out];rfl) hB1
  ·have h2':chB ch=false:=by simpa using h2
   have hr:=Lib.hid (Zft (show Zgh s t x ch n=false by simp[Zgh,h2']))
   clear h2
   go_enter Tryz.func227,Tryz.ntmps227
   go_wp2_with fail
   refine(Zao _ _ _ _).mono ?_;rintro e w1 ⟨rfl,hb1⟩
   have hO1:OwnV w1 (w.heap.size+1) (.slice (some ⟨w.heap.size+1,0,none⟩) 0 0) []:=Zam hO0 hb1 (by intro k hk;simp[Value.ownBlock]at hk;rw[HZ.out];omega)
   have hB1:=hB0.trans (hb1.mono (by rw[HZ.out];omega))
   go_wp2_with fail
   refine(Zjy _ _).mono ?_;rintro e w' ⟨rfl,rfl⟩
   go_wp2_with fail
   go_ret2
   exact Zc0 (hO1.mono (by omega)) (by simp) (by rw[hr.out];rfl) (by rw[hr.out];rfl) hB1
 ·have h1':regB s t x=false:=by simpa using h1
  have hr:=Lib.hid (Zft (show Zgh s t x ch n=false by simp[Zgh,h1']))
  clear h1
  go_enter Tryz.func227,Tryz.ntmps227
  go_wp2_with fail
  refine(Zao _ _ _ _).mono ?_;rintro e w1 ⟨rfl,hb1⟩
  have hO1:OwnV w1 (w.heap.size+1) (.slice (some ⟨w.heap.size+1,0,none⟩) 0 0) []:=Zam hO0 hb1 (by intro k hk;simp[Value.ownBlock]at hk;rw[HZ.out];omega)
  have hB1:=hB0.trans (hb1.mono (by rw[HZ.out];omega))
  go_wp2_with fail
  go_ret2
  exact Zc0 (hO1.mono (by omega)) (by simp) (by rw[hr.out];rfl) (by rw[hr.out];rfl) hB1
theorem Zi0 (s t x ch n:Int) (w:World):Calls Tryz.prog 28 #[.agg #[.int .i64 s,.int .i64 t,.int .i64 x],.int .i64 ch,.int .i64 n] w (RetIntsB w (Zcz s t x ch n)):=by
 have hR0:=Za4 w s t x
 have hB0:Below w.heap.size w (w.alloc (.cells #[.int .i64 s,.int .i64 t,.int .i64 x] 46)):=(Below.refl _ _).alloc (Nat.le_refl _) _
 have HZ:=Lib.hid (show(w.alloc (.cells #[.int .i64 s,.int .i64 t,.int .i64 x] 46)).heap.size=w.heap.size+1 by simp)
 by_cases h1:regB s t x=true
 ·by_cases h2:chB ch=true
  ·have h2':=chB_iff.1 h2
   by_cases h3:inB n 0 300=true
   ·have h3':=inB_iff.1 h3
    have hr:=Lib.hid (Znv (show Zgh s t x ch n=true by simp[Zgh,h1,h2,h3]))
    obtain⟨S,T,X,rfl,rfl,rfl,hS,hT,hX⟩:=Zbx h1
    obtain⟨m,rfl⟩:=Int.eq_ofNat_of_zero_le h3'.1
    have hm:m≤300:=by omega
    have HX:=Lib.hid hX;have HT:=Lib.hid hT
    clear hX hT
    simp only[Int.toNat_natCast]at hr
    go_enter Tryz.func28,Tryz.ntmps28
    go_wp2_with fail
    refine(Zal _ _ _ _).mono ?_;rintro e w1 ⟨rfl,hb1⟩
    have hR1:=hR0.below hb1 (by rw[HZ.out];omega)
    have hB1:=hB0.trans (hb1.mono (by rw[HZ.out];omega))
    have hl1:=hR1.lt
    clear hR0 hB0 hb1
    go_wp2_with fail
    refine(Zgu _ _).mono ?_;rintro e w' ⟨rfl,rfl⟩
    go_wp2_with fail
    refine(Zop _ _).mono ?_;rintro e w' ⟨rfl,rfl⟩
    go_wp2_with (at_make;refine Zf1 w1 rfl _ _ rfl .i64 .i64 m rfl rfl (by omega) ?_;intro w2 hown hb2)
    have hF:=Fill.start hown (@Zm1 S T X m ch) (by simp)
    have hR2:=hR1.below hb2 hl1
    have hB2:=hB1.trans (hb2.mono (by omega))
    clear hR1 hB1 hown
    go_loopw [27] (fun i wr=>∃k:Nat,k≤m∧i= .int .i64 k∧Fill wr w1.heap.size w1.heap.size m (hopL S T X ch m) (List.replicate m 0) k∧RegAt wr w.heap.size S T (hopX S T X k)∧Below w.heap.size w wr) (fun i _=>m-(intOf i).toNat)
    case atStart=>exact⟨0,Nat.zero_le _,rfl,hF,hR2,hB2⟩
    case round=>
     clear hF hR2 hB2 hb2
     obtain⟨k,hk,rfl,hF,hR,hb⟩:=hrel
     have hsz:=hR.lt
     by_cases hlt:k<m
     ·have hlx:=Zaal (t:=T) hS.1 HX.out k
      have HL:=Lib.hid (@Zafd S T X m k ch hlt)
      have HJ:=Lib.hid (Zi6 S T (hopX S T X k) S)
      have HHX:=Lib.hid (show hopX S T X (k+1)=Zdu S T S (hopX S T X k)from rfl)
      have hp:=Zaw hS.2
      have hy:hopX S T X k≤256:=by omega
      have HY:=Lib.hid hlx;clear hlx hp
      generalize hopX S T X k=y at*
      have hc0:=hR.c0
      have hc1:=hR.c1
      have hc2:=hR.c2
      have hcF:=hF.cell hlt
      have hfF:=hF.free k
      have hst:=hF.step hlt HL.out
      have hb':=hb.setCell (p:=⟨w1.heap.size,k,none⟩) (by show w.heap.size≤w1.heap.size;omega) (.int .i64 ((y:Int)%ch))
      have hR':=hR.other (a:=⟨w1.heap.size,k,none⟩) (by show w.heap.size≠w1.heap.size;omega) (.int .i64 ((y:Int)%ch))
      have g0:=hR'.c0
      have g1:=hR'.c1
      have g2:=hR'.c2
      have hl2:=hR'.lt
      go_wp2_with fail
      refine(HJ.out _ hS HT.out HY.out (by omega)).mono ?_;rintro e w2 ⟨rfl,hb3⟩
      have hR3:=hR'.below hb3 hl2
      have hF3:=hst.alter hb3
      have e0:=hR3.c0
      have e1:=hR3.c1
      have e2:=hR3.c2
      have f0:=hR3.free 0
      have f1:=hR3.free 1
      have f2:=hR3.free 2
      have hA:=((hR3.set0 S).set1 T).set2 (Zdu S T S y)
      have hB:=(((hb'.trans (hb3.mono (by simp;omega))).setCell (p:=⟨w.heap.size,0,none⟩) (Nat.le_refl _) (.int .i64 S)).setCell (p:=⟨w.heap.size,1,none⟩) (Nat.le_refl _) (.int .i64 T)).setCell (p:=⟨w.heap.size,2,none⟩) (Nat.le_refl _) (.int .i64 (Zdu S T S y))
      have hF4:Fill _ w1.heap.size w1.heap.size m (hopL S T X ch m) (List.replicate m 0) (k+1):=⟨ownsRow_setCell_below (ownsRow_setCell_below (ownsRow_setCell_below hF3.1 (a:=⟨w.heap.size,0,none⟩) hl1 (.int .i64 S)) (a:=⟨w.heap.size,1,none⟩) hl1 (.int .i64 T)) (a:=⟨w.heap.size,2,none⟩) hl1 (.int .i64 (Zdu S T S y)),hF3.2⟩
      clear hF hb hb' hb3 hR hR' hR3 hF3 hst
      go_wp2
      go_roundw
      case rel=>exact⟨k+1,by omega,by go_num,hF4,by rw[HHX.out];exact hA,hB⟩
      case measure=>simp[intOf];omega
     ·go_wp2
      go_ret2
      exact Zc0 ((hF.done (by omega)).mono (by omega)) (by rw[Zm1];omega) (by rw[hr.out];rfl) (by rw[hr.out];rfl) hb
   ·have h3':inB n 0 300=false:=by simpa using h3
    have hr:=Lib.hid (Zft (show Zgh s t x ch n=false by simp[Zgh,h3']))
    clear h3
    go_enter Tryz.func28,Tryz.ntmps28
    go_wp2_with fail
    refine(Zal _ _ _ _).mono ?_;rintro e w1 ⟨rfl,hb1⟩
    have hB1:=hB0.trans (hb1.mono (by rw[HZ.out];omega))
    go_wp2_with fail
    refine(Zgu _ _).mono ?_;rintro e w' ⟨rfl,rfl⟩
    go_wp2_with fail
    refine(Zop _ _).mono ?_;rintro e w' ⟨rfl,rfl⟩
    go_wp2_with fail
    go_ret2
    exact Zbd hr.out hB1
  ·have h2':chB ch=false:=by simpa using h2
   have hr:=Lib.hid (Zft (show Zgh s t x ch n=false by simp[Zgh,h2']))
   clear h2
   go_enter Tryz.func28,Tryz.ntmps28
   go_wp2_with fail
   refine(Zal _ _ _ _).mono ?_;rintro e w1 ⟨rfl,hb1⟩
   have hB1:=hB0.trans (hb1.mono (by rw[HZ.out];omega))
   go_wp2_with fail
   refine(Zgu _ _).mono ?_;rintro e w' ⟨rfl,rfl⟩
   go_wp2_with fail
   go_ret2
   exact Zbd hr.out hB1
 ·have h1':regB s t x=false:=by simpa using h1
  have hr:=Lib.hid (Zft (show Zgh s t x ch n=false by simp[Zgh,h1']))
  clear h1
  go_enter Tryz.func28,Tryz.ntmps28
  go_wp2_with fail
  refine(Zal _ _ _ _).mono ?_;rintro e w1 ⟨rfl,hb1⟩
  have hB1:=hB0.trans (hb1.mono (by rw[HZ.out];omega))
  go_wp2_with fail
  go_ret2
  exact Zbd hr.out hB1
end Go.Proofs.YtcjihfongfefoaaGreatDoor
