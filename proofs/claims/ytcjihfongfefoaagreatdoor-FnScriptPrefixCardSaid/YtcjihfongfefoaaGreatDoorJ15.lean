/- Kb Ks Ub Kj Ug Uh Ue Ui Uj -/
import Derived.Test.YtcjihfongfefoaaGreatDoorJ11
import Derived.Test.YtcjihfongfefoaaGreatDoorJ13
import Derived.Test.YtcjihfongfefoaaGreatDoorJ14
namespace Go.Proofs.YtcjihfongfefoaaGreatDoor
open Go.RowKit
set_option maxHeartbeats 25600000
set_option maxRecDepth 100000
theorem Zw7 {X L:List UInt8} {a m i j:Nat} (h:X=(L.drop a).take m) (hm:i+j≤m):(L.drop (a+i)).take j=(X.drop i).take j:=by
 rw[h,List.drop_take,List.take_take,List.drop_drop,Nat.min_eq_left (by omega)]
theorem Z82 (p:ByteArray):((Zas p).data.toList.drop 8).take 7=(binT p.size 7).data.toList:=by
 rw[Znt,List.drop_left' (show markT.data.toList.length=8 from rfl)]
 unfold Zet
 rw[Zhs,List.append_assoc]
 exact List.take_left' (by rw[Zdz,Zdn])
theorem Z9c (p:ByteArray):((Zas p).data.toList.drop 15).take p.size=p.data.toList:=by
 rw[show 15=8+7 from rfl,←List.drop_drop,Znt,List.drop_left' (show markT.data.toList.length=8 from rfl)]
 unfold Zet
 rw[Zhs,List.append_assoc,List.drop_left' (by rw[Zdz,Zdn])]
 exact List.take_left' (by rw[Zdz])
theorem Zrg {s p:ByteArray} {a:Nat} (hs:Zan s=true) (hp:p.size≤100) (hz:a+23+p.size≤s.size) (h:Zas p=s.extract a (a+23+p.size)):
 Zbn s a=some (p,a+23+p.size):=by
 have hX:(Zas p).data.toList=(s.data.toList.drop a).take (23+p.size):=by
  have:=congrArg (fun x:ByteArray=>x.data.toList) h
  simp only[Zea]at this
  rwa [show a+23+p.size-a=23+p.size by omega]at this
 have hN:numK (s.extract (a+8) (a+15)) 7=p.size:=by
  have e:s.extract (a+8) (a+15)=binT p.size 7:=by
   apply Zsj
   rw[Zea,show a+15-(a+8)=7 by omega,Zw7 hX (by omega),Z82]
  rw[e,Zagh (by omega)]
 have hP:s.extract (a+15) (a+15+p.size)=p:=by
  apply Zsj
  rw[Zea,show a+15+p.size-(a+15)=p.size by omega,Zw7 hX (by omega),Z9c]
 rw[Zjr hs (by omega),at_3 hN hp hz (by rw[hP];exact h),hP]
theorem Zmt {s p:ByteArray} {a:Int} {n:Nat} (h:Zbn s a=some (p,n)):
 ∃b:Nat,a=b∧n=b+23+p.size∧n≤s.size∧payB p=true∧Zas p=s.extract b n∧Zan s=true:=by
 unfold Zbn at h
 by_cases h1:Zan s=true∧0≤a∧a.toNat+23≤s.size
 ·rw[if_pos h1]at h
  obtain⟨hb,ha,hz⟩:=h1
  obtain⟨N,hN⟩:∃N,numK (s.extract (a.toNat+8) (a.toNat+15)) 7=N:=⟨_,rfl⟩
  unfold Zhq at h
  rw[hN]at h
  by_cases h2:N≤100∧a.toNat+23+N≤s.size∧Zas (s.extract (a.toNat+15) (a.toNat+15+N))=s.extract a.toNat (a.toNat+23+N)
  ·rw[if_pos h2]at h
   obtain⟨e1,e2⟩:=Prod.mk.inj (Option.some.inj h)
   have hp:p.size=N:=by rw[←e1,Zbc (by omega)];omega
   refine⟨a.toNat,by omega,by omega,by omega,?_,?_,hb⟩
   ·unfold payB
    rw[decide_eq_true (by omega:p.size≤100),←e1,Zd9 (by rw[e1];omega) (Zeb _ _ (Zb5 hb))];rfl
   ·rw[←e1,←e2];exact h2.2.2
  ·rw[if_neg h2]at h;cases h
 ·rw[if_neg h1]at h;cases h
def Zow (s:ByteArray):Nat→Nat→Int
 |0,_=> -1
 |f+1,a=>if(Zbn s a).isSome=true then(a:Int)else Zow s f (a+1)
def Zf0 (s:ByteArray) (a:Int):Int:=if Zan s=true∧0≤a then Zow s (s.size-a.toNat) a.toNat else -1
theorem Zl2 {s:ByteArray} {f a:Nat} (hf:0<f) (h:(Zbn s a).isSome=true):Zow s f a=a:=by
 obtain⟨g,rfl⟩:∃g,f=g+1:=⟨f-1,by omega⟩
 rw[Zow,if_pos h]
theorem Zuc {s:ByteArray} {f a:Nat} (hf:0<f) (h:(Zbn s a).isSome=false):Zow s f a=Zow s (f-1) (a+1):=by
 obtain⟨g,rfl⟩:∃g,f=g+1:=⟨f-1,by omega⟩
 rw[Zow,if_neg (by rw[h];decide)];rfl
theorem Zwl {s:ByteArray} {a:Int} (h:Zan s=false):Zf0 s a= -1:=by unfold Zf0;rw[if_neg (by rw[h];simp)]
theorem Z26 {s:ByteArray} {a:Int} (h:a<0):Zf0 s a= -1:=by unfold Zf0;rw[if_neg (by omega)]
theorem Zm7 {s:ByteArray} {a:Nat} (h:Zan s=true):Zf0 s a=Zow s (s.size-a) a:=by unfold Zf0;rw[if_pos ⟨h,by omega⟩];rfl
theorem Z4u {s:ByteArray}:∀f a:Nat,(Zow s f a= -1∧∀b,a≤b→b<a+f→(Zbn s b).isSome=false)∨∃v:Nat,Zow s f a=v∧a≤v∧v<a+f∧(Zbn s v).isSome=true
 |0,a=>.inl ⟨rfl,fun b h1 h2=>by omega⟩
 |f+1,a=>by
  cases hp:(Zbn s a).isSome with
  |true=>exact .inr ⟨a,Zl2 (by omega) hp,Nat.le_refl _,by omega,hp⟩
  |false=>
   rw[Zuc (by omega) hp,Nat.add_sub_cancel]
   rcases Z4u f (a+1)with ⟨h1,h2⟩|⟨v,h1,h2,h3,h4⟩
   ·refine .inl ⟨h1,fun b h3 h4=>?_⟩
    by_cases hb:b=a
    ·rw[hb];exact hp
    ·exact h2 b (by omega) (by omega)
   ·exact .inr ⟨v,h1,by omega,by omega,h4⟩
theorem Znl {s:ByteArray} {a:Int}:Zf0 s a= -1∨∃v:Nat,∃p,∃n,Zf0 s a=v∧0≤a∧a≤v∧v<s.size∧Zbn s v=some (p,n)∧n=v+23+p.size∧n≤s.size∧payB p=true:=by
 by_cases h:Zan s=true∧0≤a
 ·obtain⟨b,rfl⟩:=Int.eq_ofNat_of_zero_le h.2
  rw[Zm7 h.1]
  rcases Z4u (s:=s) (s.size-b) b with ⟨h1,_⟩|⟨v,h1,h2,h3,h4⟩
  ·exact .inl h1
  ·cases hq:Zbn s v with
   |none=>rw[hq]at h4;cases h4
   |some q=>
    obtain⟨p,n⟩:=q
    obtain⟨c,e1,e2,e3,e4,_⟩:=Zmt hq
    obtain rfl:v=c:=by omega
    exact .inr ⟨v,p,n,h1,by omega,by omega,by omega,hq,e2,e3,e4⟩
 ·unfold Zf0;rw[if_neg h];exact .inl rfl
theorem Zaco {s p:ByteArray} {a n:Nat} (h:Zbn s a=some (p,n)):Zf0 s a=a:=by
 obtain⟨b,e1,e2,e3,_,_,hb⟩:=Zmt h
 obtain rfl:a=b:=by omega
 rw[Zm7 hb]
 exact Zl2 (by omega) (by rw[h];rfl)
theorem Zafb {s:ByteArray} {a:Nat} (h:s.size≤a):Zf0 s a= -1:=by
 by_cases hb:Zan s=true
 ·rw[Zm7 hb,show s.size-a=0 by omega];rfl
 ·exact Zwl (by simpa using hb)
def allL (s:ByteArray):Nat→Nat→List ByteArray
 |0,_=>[]
 |f+1,a=>if Zf0 s a<0 then[]else match Zbn s (Zf0 s a)with
  |some (p,n)=>p::allL s f n
  |none=>[]
def allR (s:ByteArray):List ByteArray:=allL s (s.size+1) 0
theorem Zje {s:ByteArray} {a:Nat} (h:Zf0 s a<0) (f:Nat):allL s f a=[]:=by
 cases f with
 |zero=>rfl
 |succ f=>rw[allL,if_pos h]
theorem Zj9 {s p:ByteArray} {f a v n:Nat} (hf:0<f) (h:Zf0 s a=v) (h2:Zbn s v=some (p,n)):allL s f a=p::allL s (f-1) n:=by
 obtain⟨g,rfl⟩:∃g,f=g+1:=⟨f-1,by omega⟩
 rw[allL,if_neg (by omega),h,h2];rfl
theorem Zdc {s:ByteArray} (h:allS bitC s=true):∀x∈Zab s,Za7 x:=by
 intro x hx
 unfold Zab at hx
 obtain⟨c,hc,rfl⟩:=List.mem_map.1 hx
 unfold allS at h
 have:=List.all_eq_true.1 h c hc
 unfold bitC at this
 simp at this
 exact this
theorem Zut (s:ByteArray):(invT s).size=s.size:=by unfold invT;rw[Zaq,Ziq,Zac]
theorem Zw6 {s:ByteArray} (h:allS bitC s=true):Zab (invT s)=invL (Zab s):=by
 unfold invT
 exact Zcf (fun x hx=>by
  unfold invL at hx
  obtain⟨y,hy,rfl⟩:=List.mem_map.1 hx
  rcases Zdc h y hy with rfl|rfl
  ·exact .inr rfl
  ·exact .inl rfl)
theorem Zain {s:ByteArray} (h:allS bitC s=true):allS bitC (invT s)=true:=by
 unfold allS
 rw[List.all_eq_true]
 intro c hc
 have h2:(c.toNat:Int)∈Zab (invT s):=List.mem_map.2 ⟨c,hc,rfl⟩
 rw[Zw6 h]at h2
 unfold invL at h2
 obtain⟨y,hy,e⟩:=List.mem_map.1 h2
 have:=Zdc h y hy
 unfold Za7 at this
 unfold bitC
 simp
 omega
def runL (s t x n:Nat):List Int:=(List.range n).map fun i=>((48+Zdu s t i x%2:Nat):Int)
theorem Zdf (s t x n:Nat):(runL s t x n).length=n:=by simp[runL]
theorem Zt7 {s t x n i:Nat} (h:i<(runL s t x n).length):(runL s t x n)[i]=((48+Zdu s t i x%2:Nat):Int):=by simp[runL]
theorem Zki (s t x n:Nat):∀y∈runL s t x n,Za7 y:=by
 intro y hy
 unfold runL at hy
 obtain⟨i,_,rfl⟩:=List.mem_map.1 hy
 unfold Za7;omega
theorem Zpn {w:World} {lo g m k b:Nat} {L Z:List Int} (h:Zmz w lo g m L Z k) (hb:b<lo) (j:Nat) (u:Value):Zmz (w.setCell ⟨b,j,none⟩ u) lo g m L Z k:=
 ⟨Zc8 h.1 (Za1 b j u) hb,h.2⟩
theorem Zf9 (S T X m:Nat) (w:World) (h1:regB S T X=true) (hS:2≤S∧S≤8) (hT:T<2^S) (hX:X<2^S) (hm:m≤600):
 Calls Tryz.prog 81 #[.agg #[.int .i64 S,.int .i64 T,.int .i64 X],.int .i64 m] w fun e w'=>e= .returned (.tuple #[.string (text (runL S T X m)),.bool true])∧Below w.heap.size w w':=by
 have hR0:=Za4 w S T X
 have hB0:Below w.heap.size w (w.alloc (.cells #[.int .i64 S,.int .i64 T,.int .i64 X] 46)):=(Below.refl _ _).alloc (Nat.le_refl _) _
 have HZ:=Lib.hid (show(w.alloc (.cells #[.int .i64 S,.int .i64 T,.int .i64 X] 46)).heap.size=w.heap.size+1 by simp)
 have HX:=Lib.hid hX;have HT:=Lib.hid hT
 clear hX hT
 have HLL:=Lib.hid (Zdf S T X m)
 go_enter Tryz.func81,Tryz.ntmps81
 go_wp2_with fail
 refine(Zal _ _ _ _).mono ?_;rintro e w1 ⟨rfl,hb1⟩
 rw[h1]
 clear h1
 have hR1:=hR0.below hb1 (by rw[HZ.out];omega)
 have hB1:=hB0.trans (hb1.mono (by rw[HZ.out];omega))
 have hl1:=hR1.lt
 clear hR0 hB0 hb1
 go_wp2_with (at_make;refine Zcd 22 5 1 (0:Int) Tryz.underlying22 Zct rfl (by decide) w1 rfl _ _ rfl .i64 .i64 m rfl rfl (by omega) ?_;intro w2 hown hb2)
 have hF:=FillF.start hown HLL.out (by simp)
 have hR2:=hR1.below hb2 hl1
 have hB2:=hB1.trans (hb2.mono (by omega))
 clear hR1 hB1 hown
 go_loopw [23] (fun i wr=>∃k:Nat,k≤m∧i= .int .i64 k∧Zmz wr w1.heap.size w1.heap.size m (runL S T X m) (List.replicate m 0) k∧RegAt wr w.heap.size S T (Zdu S T k X)∧Below w.heap.size w wr) (fun i _=>m-(intOf i).toNat)
 case atStart=>exact⟨0,Nat.zero_le _,rfl,hF,hR2,hB2⟩
 case round=>
  clear hF hR2 hB2 hb2
  obtain⟨k,hk,rfl,hF,hR,hb⟩:=hrel
  by_cases hlt:k<m
  ·have HJ:=Lib.hid (Zgm S T k X)
   have hlx:=Zid (t:=T) (k:=k) hS.1 HX.out
   have HG:=Lib.hid (fun hl=>@Zt7 S T X m k hl)
   have hp:=Zaw hS.2
   have hy:Zdu S T k X≤256:=by omega
   have HY:=Lib.hid hlx;clear hlx hp
   generalize Zdu S T k X=y at*
   have HN:=Lib.hid (Zlj S T y)
   obtain⟨d,hd⟩:∃d,d=y%2:=⟨_,rfl⟩
   have hd1:d≤1:=by omega
   have EA:=Lib.hid (show bits .and .i64 (y:Int) 1=(d:Int)by
    have h2:=Zfd y 1 (by omega) (by omega)
    rw[show((1:Nat):Int)=1 from rfl]at h2
    rw[h2,Nat.and_one_is_mod,hd])
   rw[←hd]at HG
   clear hd
   have hc0:=hR.c0
   have hc1:=hR.c1
   have hc2:=hR.c2
   obtain⟨z,hcF⟩:=hF.cell hlt
   have hfF:=hF.free k
   have hst:=hF.step hlt (y:=.int .u8 ((48+d:Nat):Int)) (fun hl=>by rw[HG.out hl])
   have hb':=hb.setCell (p:=⟨w1.heap.size,k,none⟩) (by show w.heap.size≤w1.heap.size;omega) (.int .u8 ((48+d:Nat):Int))
   have hR':=hR.other (a:=⟨w1.heap.size,k,none⟩) (by show w.heap.size≠w1.heap.size;omega) (.int .u8 ((48+d:Nat):Int))
   have g0:=hR'.c0
   have g1:=hR'.c1
   have g2:=hR'.c2
   have hl2:=hR'.lt
   go_wp2_with fail
   rw[EA.out]
   refine(Zgy _ _ hd1).mono ?_;rintro e w' ⟨rfl,rfl⟩
   go_wp2_with fail
   refine(HN.out _ hS HT.out HY.out).mono ?_;rintro e w2 ⟨rfl,hb3⟩
   have hR3:=hR'.below hb3 hl2
   have hF3:=hst.alter hb3
   have e2:=hR3.c2
   have f2:=hR3.free 2
   have hA:=hR3.set2 (Zfx S T y)
   have hB:=(hb'.trans (hb3.mono hb'.size)).setCell (p:=⟨w.heap.size,2,none⟩) (Nat.le_refl _) (.int .i64 (Zfx S T y))
   have hF4:=Zpn hF3 (b:=w.heap.size) hl1 2 (.int .i64 (Zfx S T y))
   clear hF hb hb' hb3 hR hR' hR3 hF3 hst
   go_wp2_with fail
   go_roundw
   case rel=>exact⟨k+1,by omega,by go_num,hF4,by rw[HJ.out];exact hA,hB⟩
   case measure=>simp[intOf];omega
  ·obtain rfl:k=m:=by omega
   have hd0:=hF.done (Nat.le_refl _)
   obtain⟨a1,n1,c1,e1,ho⟩:=hd0.own (by rw[HLL.out];omega)
   cases e1
   have hrd:=ho.rd
   go_wp2_with (with_reducible refine Zca 22 5 9 Tryz.underlying22 Tryz.underlying5 Tryz.underlying9 _ rfl (.tmp 37) rfl rfl hrd ?_)
   go_ret2
   exact⟨rfl,hb⟩
theorem Zlg (S T X m:Nat) (w:World) (hS:2≤S∧S≤8) (hT:T<2^S) (hX:X<2^S) (hm:m≤600):
 Calls Tryz.prog 155 #[.agg #[.int .i64 S,.int .i64 T,.int .i64 X],.int .i64 m] w fun e w'=>e= .returned (.string (text (runL S T X m)))∧Below w.heap.size w w':=by
 have hR1:=Za4 w S T X
 have hB1:Below w.heap.size w (w.alloc (.cells #[.int .i64 S,.int .i64 T,.int .i64 X] 46)):=(Below.refl _ _).alloc (Nat.le_refl _) _
 obtain⟨w1,hw1⟩:∃w1,w1=w.alloc (.cells #[.int .i64 S,.int .i64 T,.int .i64 X] 46):=⟨_,rfl⟩
 have HX:=Lib.hid hX;have HT:=Lib.hid hT
 clear hX hT
 have HLL:=Lib.hid (Zdf S T X m)
 go_enter Tryz.func155,Tryz.ntmps155
 rw[←hw1]at hR1 hB1
 have hl1:=hR1.lt
 go_wp2_with (at_make;rw[←hw1];clear hw1;refine Zcd 22 5 1 (0:Int) Tryz.underlying22 Zct rfl (by decide) w1 rfl _ _ rfl .i64 .i64 m rfl rfl (by omega) ?_;intro w2 hown hb2)
 have hF:=FillF.start hown HLL.out (by simp)
 have hR2:=hR1.below hb2 hl1
 have hB2:=hB1.trans (hb2.mono (by omega))
 clear hR1 hB1 hown
 go_loopw [6] (fun i wr=>∃k:Nat,k≤m∧i= .int .i64 k∧Zmz wr w1.heap.size w1.heap.size m (runL S T X m) (List.replicate m 0) k∧RegAt wr w.heap.size S T (Zdu S T k X)∧Below w.heap.size w wr) (fun i _=>m-(intOf i).toNat)
 case atStart=>exact⟨0,Nat.zero_le _,rfl,hF,hR2,hB2⟩
 case round=>
  clear hF hR2 hB2 hb2
  obtain⟨k,hk,rfl,hF,hR,hb⟩:=hrel
  by_cases hlt:k<m
  ·have HJ:=Lib.hid (Zgm S T k X)
   have hlx:=Zid (t:=T) (k:=k) hS.1 HX.out
   have HG:=Lib.hid (fun hl=>@Zt7 S T X m k hl)
   have hp:=Zaw hS.2
   have hy:Zdu S T k X≤256:=by omega
   have HY:=Lib.hid hlx;clear hlx hp
   generalize Zdu S T k X=y at*
   have HN:=Lib.hid (Zwu S T y)
   obtain⟨d,hd⟩:∃d,d=y%2:=⟨_,rfl⟩
   have hd1:d≤1:=by omega
   have e1:(y:Int).tmod 2=(d:Int):=by rw[hd];rfl
   have e2:(y:Int)%2=(d:Int):=by rw[hd];rfl
   rw[←hd]at HG
   clear hd
   have hc0:=hR.c0
   have hc1:=hR.c1
   have hc2:=hR.c2
   obtain⟨z,hcF⟩:=hF.cell hlt
   have hfF:=hF.free k
   have hst:=hF.step hlt (y:=.int .u8 (48+(d:Int))) (fun hl=>by rw[HG.out hl];rfl)
   have hb':=hb.setCell (p:=⟨w1.heap.size,k,none⟩) (by show w.heap.size≤w1.heap.size;omega) (.int .u8 (48+(d:Int)))
   have hR':=hR.other (a:=⟨w1.heap.size,k,none⟩) (by show w.heap.size≠w1.heap.size;omega) (.int .u8 (48+(d:Int)))
   have g0:=hR'.c0
   have g1:=hR'.c1
   have g2:=hR'.c2
   have hl2:=hR'.lt
   go_wp2_with fail
   refine(HN.out _ hS HT.out HY.out).mono ?_;rintro e w2 ⟨rfl,hb3⟩
   have hR3:=hR'.below hb3 hl2
   have hF3:=hst.alter hb3
   have q0:=hR3.c0
   have q1:=hR3.c1
   have q2:=hR3.c2
   have f0:=hR3.free 0
   have f1:=hR3.free 1
   have f2:=hR3.free 2
   have hA:=((hR3.set0 S).set1 T).set2 (Zfx S T y)
   have hB:=(((hb'.trans (hb3.mono hb'.size)).setCell (p:=⟨w.heap.size,0,none⟩) (Nat.le_refl _) (.int .i64 S)).setCell (p:=⟨w.heap.size,1,none⟩) (Nat.le_refl _) (.int .i64 T)).setCell (p:=⟨w.heap.size,2,none⟩) (Nat.le_refl _) (.int .i64 (Zfx S T y))
   have hF4:=Zpn (Zpn (Zpn hF3 (b:=w.heap.size) hl1 0 (.int .i64 S)) (b:=w.heap.size) hl1 1 (.int .i64 T)) (b:=w.heap.size) hl1 2 (.int .i64 (Zfx S T y))
   clear hF hb hb' hb3 hR hR' hR3 hF3 hst
   go_wp2_with fail
   go_roundw
   case rel=>exact⟨k+1,by omega,by go_num,hF4,by rw[HJ.out];exact hA,hB⟩
   case measure=>simp[intOf];omega
  ·obtain rfl:k=m:=by omega
   have hd0:=hF.done (Nat.le_refl _)
   obtain⟨a1,n1,c1,e1,ho⟩:=hd0.own (by rw[HLL.out];omega)
   cases e1
   have hrd:=ho.rd
   go_wp2_with (with_reducible refine Zca 22 5 9 Tryz.underlying22 Tryz.underlying5 Tryz.underlying9 _ rfl (.tmp 24) rfl rfl hrd ?_)
   go_ret
   exact⟨rfl,hb⟩
def sumL (a b:ByteArray):List Int:=(List.range a.size).map fun i=>if(Zab a).getD i 0=(Zab b).getD i 0 then 48 else 49
def sumT (a b:ByteArray):ByteArray:=text (sumL a b)
theorem Zis (a b:ByteArray):(sumL a b).length=a.size:=by simp[sumL]
theorem Zfj {s:ByteArray} {i:Nat} (h:i<s.size):(Zab s).getD i 0=(s[i].toNat:Int):=by
 rw[List.getD_eq_getElem?_getD,List.getElem?_eq_getElem (by rw[Zac];exact h),Option.getD_some,Zcj s h]
theorem Zu5 {a b:ByteArray} {i:Nat} (h:i<(sumL a b).length):(sumL a b)[i]=if(Zab a).getD i 0=(Zab b).getD i 0 then 48 else 49:=by simp[sumL]
theorem Z79 {a b:ByteArray} {i:Nat} {x y:Int} (ha:i<a.size) (hb:i<b.size) (hx:(a[i].toNat:Int)=x) (hy:(b[i].toNat:Int)=y) (h:i<(sumL a b).length):(sumL a b)[i]=if x=y then 48 else 49:=by
 rw[Zu5 h,Zfj ha,Zfj hb,hx,hy]
theorem Zpj (a b:ByteArray):∀x∈sumL a b,Za7 x:=by
 intro x hx
 unfold sumL at hx
 obtain⟨i,_,rfl⟩:=List.mem_map.1 hx
 split
 ·exact .inl rfl
 ·exact .inr rfl
theorem Zqh (a b:ByteArray) (w:World) (hz:a.size≤1000) (hab:a.size=b.size) (ha:allS bitC a=true) (hb0:allS bitC b=true):Calls Tryz.prog 169 #[.string a,.string b] w fun e w'=>e= .returned (.string (sumT a b))∧Below w.heap.size w w':=by
 have HL:=Lib.hid (Zis a b)
 have HA:=Lib.hid ha
 have HB:=Lib.hid hb0
 have HAB:=Lib.hid hab
 have HD:=Lib.hid (show sumT a b=text (sumL a b)from rfl)
 clear ha hb0 hab
 go_enter Tryz.func169,Tryz.ntmps169
 go_wp2_with (at_make;refine Zcd 22 5 1 (0:Int) Tryz.underlying22 Zct rfl (by decide) w rfl _ _ rfl .i64 .i64 a.size rfl rfl (by omega) ?_;intro w1 hown hb)
 have hF:=FillF.start hown HL.out (by simp)
 clear hown
 go_loopw [12] (fun i wr=>∃k:Nat,k≤a.size∧i= .int .i64 k∧Zmz wr w.heap.size w.heap.size a.size (sumL a b) (List.replicate a.size 0) k∧Below w.heap.size w wr) (fun i _=>a.size-(intOf i).toNat)
 case atStart=>exact⟨0,Nat.zero_le _,rfl,hF,hb⟩
 case round=>
  clear hF hb
  obtain⟨k,hk,rfl,hF,hb⟩:=hrel
  by_cases hlt:k<a.size
  ·obtain⟨z,hc⟩:=hF.cell hlt
   have hf:=hF.free k
   have hltb:k<b.size:=by rw[←HAB.out];exact hlt
   have hva:=Zgs HA.out hlt
   have hvb:=Zgs HB.out hltb
   have HSA:=Lib.hid (fun(x y:Int) hx hy hl=>Z79 (x:=x) (y:=y) hlt hltb hx hy hl)
   have hx1:bits .xor .u8 48 48=0:=by decide
   have hx2:bits .xor .u8 48 49=1:=by decide
   have hx3:bits .xor .u8 49 48=1:=by decide
   have hx4:bits .xor .u8 49 49=0:=by decide
   have hlt':(k:Int)<(a.size:Int):=by omega
   have hltb':(k:Int)<(b.size:Int):=by omega
   rcases hva with h48|h48<;>rcases hvb with g48|g48
   ·
    have hwa:(a[k].toNat:Int)=48:=by omega
    have hwb:(b[k].toNat:Int)=48:=by omega
    have hst:=hF.step hlt (y:=.int .u8 48) (fun hl=>by rw[HSA.out 48 48 hwa hwb hl];rfl)
    have hb2:=hF.below hb (.int .u8 48)
    clear hF hb h48 g48
    go_wp2_with fail
    go_region_with (first|(go_at_call 165;refine(Zgy 0 _ (by omega)).mono ?_;rintro e w' ⟨rfl,rfl⟩))
    all_goals
     go_wp2_with fail
     go_roundw
     case rel=>exact⟨k+1,by omega,by go_num,hst,hb2.drew⟩
     case measure=>simp[intOf];omega
   ·
    have hwa:(a[k].toNat:Int)=48:=by omega
    have hwb:(b[k].toNat:Int)=49:=by omega
    have hst:=hF.step hlt (y:=.int .u8 49) (fun hl=>by rw[HSA.out 48 49 hwa hwb hl];rfl)
    have hb2:=hF.below hb (.int .u8 49)
    clear hF hb h48 g48
    go_wp2_with fail
    go_region_with (first|(go_at_call 165;refine(Zgy 1 _ (by omega)).mono ?_;rintro e w' ⟨rfl,rfl⟩))
    all_goals
     go_wp2_with fail
     go_roundw
     case rel=>exact⟨k+1,by omega,by go_num,hst,hb2.drew⟩
     case measure=>simp[intOf];omega
   ·
    have hwa:(a[k].toNat:Int)=49:=by omega
    have hwb:(b[k].toNat:Int)=48:=by omega
    have hst:=hF.step hlt (y:=.int .u8 49) (fun hl=>by rw[HSA.out 49 48 hwa hwb hl];rfl)
    have hb2:=hF.below hb (.int .u8 49)
    clear hF hb h48 g48
    go_wp2_with fail
    go_region_with (first|(go_at_call 165;refine(Zgy 1 _ (by omega)).mono ?_;rintro e w' ⟨rfl,rfl⟩))
    all_goals
     go_wp2_with fail
     go_roundw
     case rel=>exact⟨k+1,by omega,by go_num,hst,hb2.drew⟩
     case measure=>simp[intOf];omega
   ·
    have hwa:(a[k].toNat:Int)=49:=by omega
    have hwb:(b[k].toNat:Int)=49:=by omega
    have hst:=hF.step hlt (y:=.int .u8 48) (fun hl=>by rw[HSA.out 49 49 hwa hwb hl];rfl)
    have hb2:=hF.below hb (.int .u8 48)
    clear hF hb h48 g48
    go_wp2_with fail
    go_region_with (first|(go_at_call 165;refine(Zgy 0 _ (by omega)).mono ?_;rintro e w' ⟨rfl,rfl⟩))
    all_goals
     go_wp2_with fail
     go_roundw
     case rel=>exact⟨k+1,by omega,by go_num,hst,hb2.drew⟩
     case measure=>simp[intOf];omega
  ·obtain rfl:k=a.size:=by omega
   obtain⟨a1,n1,c1,e1,ho⟩:=(hF.done (Nat.le_refl _)).own (by rw[HL.out];omega)
   cases e1
   have hrd:=ho.rd
   go_wp2_with (with_reducible refine Zca 22 5 9 Tryz.underlying22 Tryz.underlying5 Tryz.underlying9 _ rfl (.tmp 28) rfl rfl hrd ?_)
   go_ret
   exact⟨by rw[HD.out];rfl,hb⟩
theorem Zuf (a b:ByteArray) (w:World) (hz:a.size≤1000) (hab:a.size=b.size) (ha:allS bitC a=true) (hb0:allS bitC b=true):Calls Tryz.prog 174 #[.string a,.string b] w fun e w'=>e= .returned (.string (sumT a b))∧Below w.heap.size w w':=by
 have HL:=Lib.hid (Zis a b)
 have HA:=Lib.hid ha
 have HB:=Lib.hid hb0
 have HAB:=Lib.hid hab
 have HD:=Lib.hid (show sumT a b=text (sumL a b)from rfl)
 clear ha hb0 hab
 go_enter Tryz.func174,Tryz.ntmps174
 go_wp2_with (at_make;refine Zcd 22 5 1 (0:Int) Tryz.underlying22 Zct rfl (by decide) w rfl _ _ rfl .i64 .i64 a.size rfl rfl (by omega) ?_;intro w1 hown hb)
 have hF:=FillF.start hown HL.out (by simp)
 clear hown
 go_loopw [6] (fun i wr=>∃k:Nat,k≤a.size∧i= .int .i64 k∧Zmz wr w.heap.size w.heap.size a.size (sumL a b) (List.replicate a.size 0) k∧Below w.heap.size w wr) (fun i _=>a.size-(intOf i).toNat)
 case atStart=>exact⟨0,Nat.zero_le _,rfl,hF,hb⟩
 case round=>
  clear hF hb
  obtain⟨k,hk,rfl,hF,hb⟩:=hrel
  by_cases hlt:k<a.size
  ·obtain⟨z,hc⟩:=hF.cell hlt
   have hf:=hF.free k
   have hltb:k<b.size:=by rw[←HAB.out];exact hlt
   have hva:=Zgs HA.out hlt
   have hvb:=Zgs HB.out hltb
   have HSA:=Lib.hid (fun(x y:Int) hx hy hl=>Z79 (x:=x) (y:=y) hlt hltb hx hy hl)
   have hx1:bits .xor .u8 48 0=48:=by decide
   have hx2:bits .xor .u8 48 1=49:=by decide
   have hx3:bits .xor .u8 49 0=49:=by decide
   have hx4:bits .xor .u8 49 1=48:=by decide
   have hlt':(k:Int)<(a.size:Int):=by omega
   have hltb':(k:Int)<(b.size:Int):=by omega
   rcases hva with h48|h48<;>rcases hvb with g48|g48
   ·
    have hwa:(a[k].toNat:Int)=48:=by omega
    have hwb:(b[k].toNat:Int)=48:=by omega
    have hst:=hF.step hlt (y:=.int .u8 48) (fun hl=>by rw[HSA.out 48 48 hwa hwb hl];rfl)
    have hb2:=hF.below hb (.int .u8 48)
    clear hF hb h48 g48
    go_wp2_with fail
    go_still_tail 13,(by kernel_rfl)
    go_wp2_with fail
    go_roundw
    case rel=>exact⟨k+1,by omega,by go_num,hst,hb2.drew⟩
    case measure=>simp[intOf];omega
   ·
    have hwa:(a[k].toNat:Int)=48:=by omega
    have hwb:(b[k].toNat:Int)=49:=by omega
    have hst:=hF.step hlt (y:=.int .u8 49) (fun hl=>by rw[HSA.out 48 49 hwa hwb hl];rfl)
    have hb2:=hF.below hb (.int .u8 49)
    clear hF hb h48 g48
    go_wp2_with fail
    go_still_tail 13,(by kernel_rfl)
    go_wp2_with fail
    go_roundw
    case rel=>exact⟨k+1,by omega,by go_num,hst,hb2.drew⟩
    case measure=>simp[intOf];omega
   ·
    have hwa:(a[k].toNat:Int)=49:=by omega
    have hwb:(b[k].toNat:Int)=48:=by omega
    have hst:=hF.step hlt (y:=.int .u8 49) (fun hl=>by rw[HSA.out 49 48 hwa hwb hl];rfl)
    have hb2:=hF.below hb (.int .u8 49)
    clear hF hb h48 g48
    go_wp2_with fail
    go_still_tail 13,(by kernel_rfl)
    go_wp2_with fail
    go_roundw
    case rel=>exact⟨k+1,by omega,by go_num,hst,hb2.drew⟩
    case measure=>simp[intOf];omega
   ·
    have hwa:(a[k].toNat:Int)=49:=by omega
    have hwb:(b[k].toNat:Int)=49:=by omega
    have hst:=hF.step hlt (y:=.int .u8 48) (fun hl=>by rw[HSA.out 49 49 hwa hwb hl];rfl)
    have hb2:=hF.below hb (.int .u8 48)
    clear hF hb h48 g48
    go_wp2_with fail
    go_still_tail 13,(by kernel_rfl)
    go_wp2_with fail
    go_roundw
    case rel=>exact⟨k+1,by omega,by go_num,hst,hb2.drew⟩
    case measure=>simp[intOf];omega
  ·obtain rfl:k=a.size:=by omega
   obtain⟨a1,n1,c1,e1,ho⟩:=(hF.done (Nat.le_refl _)).own (by rw[HL.out];omega)
   cases e1
   have hrd:=ho.rd
   go_wp2_with (with_reducible refine Zca 22 5 9 Tryz.underlying22 Tryz.underlying5 Tryz.underlying9 _ rfl (.tmp 29) rfl rfl hrd ?_)
   go_ret
   exact⟨by rw[HD.out];rfl,hb⟩
def scrT (b:ByteArray) (S T X:Nat):ByteArray:=sumT b (text (runL S T X b.size))
def scrR (b:ByteArray) (s t x:Int):Option ByteArray:=if(Zan b&&regB s t x)=true then some (scrT b s.toNat t.toNat x.toNat)else none
theorem Z5a {b:ByteArray} {s t x:Int} (h:Zan b=false):scrR b s t x=none:=by unfold scrR;rw[h];rfl
theorem Z12 {b:ByteArray} {s t x:Int} (h:regB s t x=false):scrR b s t x=none:=by unfold scrR;rw[h,Bool.and_false];rfl
theorem Zm0 {b:ByteArray} {S T X:Nat} (h1:Zan b=true) (h2:regB S T X=true):scrR b S T X=some (scrT b S T X):=by unfold scrR;rw[h1,h2];rfl
theorem Zpv (S T X n:Nat):allS bitC (text (runL S T X n))=true:=by
 unfold allS text
 rw[List.all_eq_true]
 intro c hc
 simp only[List.mem_map]at hc
 obtain⟨x,hx,rfl⟩:=hc
 rcases Zki S T X n x hx with rfl|rfl<;>rfl
theorem Zv0 (b:ByteArray) (S T X:Nat):allS bitC (scrT b S T X)=true:=by
 unfold allS scrT sumT text
 rw[List.all_eq_true]
 intro c hc
 simp only[List.mem_map]at hc
 obtain⟨x,hx,rfl⟩:=hc
 rcases Zpj _ _ x hx with rfl|rfl<;>rfl
theorem Ziy (b:ByteArray) (S T X:Nat):(scrT b S T X).size=b.size:=by unfold scrT sumT;rw[Zaq,Zis]
theorem Zk8 (b:ByteArray) (s t x:Int) (w:World):Calls Tryz.prog 94 #[.string b,.agg #[.int .i64 s,.int .i64 t,.int .i64 x]] w (Zdx w (scrR b s t x)):=by
 have hR0:=Za4 w s t x
 have hB0:Below w.heap.size w (w.alloc (.cells #[.int .i64 s,.int .i64 t,.int .i64 x] 46)):=(Below.refl _ _).alloc (Nat.le_refl _) _
 have HZ:=Lib.hid (show(w.alloc (.cells #[.int .i64 s,.int .i64 t,.int .i64 x] 46)).heap.size=w.heap.size+1 by simp)
 have c0:=hR0.c0
 have c1:=hR0.c1
 have c2:=hR0.c2
 by_cases h1:Zan b=true
 ·by_cases h2:regB s t x=true
  ·obtain⟨S,T,X,rfl,rfl,rfl,hS,hT,hX⟩:=Zbx h2
   have hr:=Lib.hid (Zm0 h1 h2)
   have h6:=Zcm h1
   have HA:=Lib.hid (Zb5 h1)
   have HB:=Lib.hid (Zpv S T X b.size)
   have HD:=Lib.hid (show scrT b S T X=sumT b (text (runL S T X b.size))from rfl)
   have hrz:(text (runL S T X b.size)).size=b.size:=by rw[Zaq,Zdf]
   have HRZ:=Lib.hid hrz
   have HTX:=Lib.hid (And.intro hT.2 hX)
   have HRG:=Lib.hid h2
   clear hT hX hrz
   go_enter Tryz.func94,Tryz.ntmps94
   go_wp2_with fail
   refine(Za2 _ _).mono ?_;rintro e w' ⟨rfl,rfl⟩
   rw[h1]
   go_wp2_with fail
   refine(Zal _ _ _ _).mono ?_;rintro e w1 ⟨rfl,hb1⟩
   rw[h2]
   have hR1:=hR0.below hb1 (by rw[HZ.out];omega)
   have hB1:=hB0.trans (hb1.mono (by rw[HZ.out];omega))
   have d0:=hR1.c0
   have d1:=hR1.c1
   have d2:=hR1.c2
   clear hR0 hB0 hb1 c0 c1 c2 h1 h2
   go_wp2_with fail
   refine(Zf9 S T X b.size _ HRG.out hS HTX.out.1 HTX.out.2 h6).mono ?_;rintro e w2 ⟨rfl,hb2⟩
   have hB2:=hB1.trans (hb2.mono hB1.size)
   clear hR1 hB1 hb2 d0 d1 d2
   generalize text (runL S T X b.size)=r at*
   go_wp2_with fail
   refine(Zqh b r _ (by omega) HRZ.out.symm HA.out HB.out).mono ?_;rintro e w3 ⟨rfl,hb3⟩
   go_wp2_with fail
   go_ret2
   exact Zbb (by rw[hr.out,HD.out]) (hB2.trans (hb3.mono hB2.size))
  ·have h2':regB s t x=false:=by simpa using h2
   have hr:=Lib.hid (Z12 (b:=b) h2')
   clear h2
   go_enter Tryz.func94,Tryz.ntmps94
   go_wp2_with fail
   refine(Za2 _ _).mono ?_;rintro e w' ⟨rfl,rfl⟩
   rw[h1]
   go_wp2_with fail
   refine(Zal _ _ _ _).mono ?_;rintro e w1 ⟨rfl,hb1⟩
   rw[h2']
   have hB1:=hB0.trans (hb1.mono (by rw[HZ.out];omega))
   go_wp2_with fail
   go_ret2
   exact Zag hr.out hB1
 ·have h1':Zan b=false:=by simpa using h1
  have hr:=Lib.hid (Z5a (s:=s) (t:=t) (x:=x) h1')
  clear h1
  go_enter Tryz.func94,Tryz.ntmps94
  go_wp2_with fail
  refine(Za2 _ _).mono ?_;rintro e w' ⟨rfl,rfl⟩
  rw[h1']
  go_wp2_with fail
  go_ret2
  exact Zag hr.out hB0
theorem Zjw (b:ByteArray) (s t x:Int) (w:World) (hs:b.size≤1099511627776):Calls Tryz.prog 98 #[.string b,.agg #[.int .i64 s,.int .i64 t,.int .i64 x]] w (Zdx w (scrR b s t x)):=by
 have hR0:=Za4 w s t x
 have hB0:Below w.heap.size w (w.alloc (.cells #[.int .i64 s,.int .i64 t,.int .i64 x] 46)):=(Below.refl _ _).alloc (Nat.le_refl _) _
 have HZ:=Lib.hid (show(w.alloc (.cells #[.int .i64 s,.int .i64 t,.int .i64 x] 46)).heap.size=w.heap.size+1 by simp)
 have c0:=hR0.c0
 have c1:=hR0.c1
 have c2:=hR0.c2
 by_cases h1:Zan b=true
 ·by_cases h2:regB s t x=true
  ·obtain⟨S,T,X,rfl,rfl,rfl,hS,hT,hX⟩:=Zbx h2
   have hr:=Lib.hid (Zm0 h1 h2)
   have h6:=Zcm h1
   have HA:=Lib.hid (Zb5 h1)
   have HB:=Lib.hid (Zpv S T X b.size)
   have HD:=Lib.hid (show scrT b S T X=sumT b (text (runL S T X b.size))from rfl)
   have hrz:(text (runL S T X b.size)).size=b.size:=by rw[Zaq,Zdf]
   have HRZ:=Lib.hid hrz
   have HTX:=Lib.hid (And.intro hT.2 hX)
   clear hT hX hrz
   go_enter Tryz.func98,Tryz.ntmps98
   go_wp2_with fail
   refine(Za0 _ _ hs).mono ?_;rintro e w' ⟨rfl,rfl⟩
   rw[h1]
   go_wp2_with fail
   refine(Zao _ _ _ _).mono ?_;rintro e w1 ⟨rfl,hb1⟩
   rw[h2]
   have hR1:=hR0.below hb1 (by rw[HZ.out];omega)
   have hB1:=hB0.trans (hb1.mono (by rw[HZ.out];omega))
   have d0:=hR1.c0
   have d1:=hR1.c1
   have d2:=hR1.c2
   clear hR0 hB0 hb1 c0 c1 c2 h1 h2
   go_wp2_with fail
   refine(Zlg S T X b.size _ hS HTX.out.1 HTX.out.2 h6).mono ?_;rintro e w2 ⟨rfl,hb2⟩
   have hB2:=hB1.trans (hb2.mono hB1.size)
   clear hR1 hB1 hb2 d0 d1 d2
   generalize text (runL S T X b.size)=r at*
   go_wp2_with fail
   refine(Zuf b r _ (by omega) HRZ.out.symm HA.out HB.out).mono ?_;rintro e w3 ⟨rfl,hb3⟩
   go_wp2_with fail
   go_ret2
   exact Zbb (by rw[hr.out,HD.out]) (hB2.trans (hb3.mono hB2.size))
  ·have h2':regB s t x=false:=by simpa using h2
   have hr:=Lib.hid (Z12 (b:=b) h2')
   clear h2
   go_enter Tryz.func98,Tryz.ntmps98
   go_wp2_with fail
   refine(Za0 _ _ hs).mono ?_;rintro e w' ⟨rfl,rfl⟩
   rw[h1]
   go_wp2_with fail
   refine(Zao _ _ _ _).mono ?_;rintro e w1 ⟨rfl,hb1⟩
   rw[h2']
   have hB1:=hB0.trans (hb1.mono (by rw[HZ.out];omega))
   go_wp2_with fail
   go_ret2
   exact Zag hr.out hB1
 ·have h1':Zan b=false:=by simpa using h1
  have hr:=Lib.hid (Z5a (s:=s) (t:=t) (x:=x) h1')
  clear h1
  go_enter Tryz.func98,Tryz.ntmps98
  go_wp2_with fail
  refine(Za0 _ _ hs).mono ?_;rintro e w' ⟨rfl,rfl⟩
  rw[h1']
  go_wp2_with fail
  go_ret2
  exact Zag hr.out hB0
def Zl3 (s t x:Nat):Nat:=x%2^(s-1)*2+(x/2^(s-1)+par ((x%2^(s-1)*2) &&& t))%2
theorem Zadm {s t x:Nat} (hs:2≤s):Zl3 s t x<2^s:=by
 unfold Zl3
 have h2:2^s=2*2^(s-1):=by rw[←Nat.pow_succ'];congr 1;omega
 have:=Nat.mod_lt x (Nat.two_pow_pos (s-1))
 have:=Nat.mod_lt (x/2^(s-1)+par ((x%2^(s-1)*2) &&& t)) (show 0<2 by omega)
 omega
def Zlo (s t:Nat):Nat→Nat→Nat
 |0,x=>x
 |k+1,x=>Zl3 s t (Zlo s t k x)
theorem Zvg {s t:Nat} (hs:2≤s):∀{k x:Nat},x<2^s→Zlo s t k x<2^s
 |0,_,h=>h
 |_+1,_,_=>Zadm hs
def Zkz (s t x k:Int):Bool:=regB s t x&&inB k (-5000) 5000&&!(decide (k<0)&&decide (t%2=0))
def jmpX (s t x k:Int):Int:=if 0≤k then(Zdu s.toNat t.toNat k.toNat x.toNat:Int)else(Zlo s.toNat t.toNat (-k).toNat x.toNat:Int)
def jmpR (s t x k:Int):Option (Int×Int×Int):=if Zkz s t x k=true then some (s,t,jmpX s t x k)else none
theorem Z0w {s t x k:Int} (h:Zkz s t x k=false):jmpR s t x k=none:=by unfold jmpR;rw[h];rfl
theorem Z14 {s t x k:Int} (h:Zkz s t x k=true):jmpR s t x k=some (s,t,jmpX s t x k):=by unfold jmpR;rw[if_pos h]
def Zdj (q:Nat→Nat) (n v:Nat):Option Nat:=(List.range n).find? fun i=>decide (q i=v)
theorem Z5n (q:Nat→Nat) (v:Nat):Zdj q 0 v=none:=rfl
theorem Z5v (q:Nat→Nat) (n v:Nat):Zdj q (n+1) v=(Zdj q n v).or (if q n=v then some n else none):=by
 unfold Zdj
 rw[List.range_succ,List.find?_append]
 congr 1
 by_cases h:q n=v
 ·simp[h]
 ·simp[h]
theorem Zl5 {q:Nat→Nat} {n v i:Nat} (h:Zdj q n v=some i):i<n:=by
 have:=List.mem_of_find?_eq_some h
 exact List.mem_range.1 this
def orbN (q:Nat→Nat):Nat:=((List.range 300).find? fun n=>(Zdj q n (q n)).isSome).getD 0
def orbI (q:Nat→Nat):Nat:=(Zdj q (orbN q) (q (orbN q))).getD 0
theorem Z9g {q:Nat→Nat} {n i:Nat} (hn:n<300) (h:∀m,m<n→Zdj q m (q m)=none) (hi:Zdj q n (q n)=some i):orbN q=n∧orbI q=i:=by
 have e:orbN q=n:=by
  unfold orbN
  have:(List.range 300).find? (fun n=>(Zdj q n (q n)).isSome)=some n:=by
   rw[List.find?_range_eq_some]
   refine⟨by rw[hi];rfl,List.mem_range.2 hn,fun j hj=>?_⟩
   rw[h j hj];rfl
  rw[this];rfl
 refine⟨e,?_⟩
 unfold orbI
 rw[e,hi];rfl
def visL (q:Nat→Nat) (z d:Int) (m n:Nat):List Int:=(List.range m).map fun v=>match Zdj q n v with|some i=>(i:Int)+d|none=>z
theorem Zm8 (q:Nat→Nat) (z d:Int) (m n:Nat):(visL q z d m n).length=m:=by simp[visL]
theorem Zp9 (q:Nat→Nat) (z d:Int) (m:Nat):visL q z d m 0=List.replicate m z:=by
 apply List.ext_getElem
 ·simp[visL]
 ·intro i h1 h2
  simp[visL,Z5n]
theorem Zir {q:Nat→Nat} {z d:Int} {m n v:Nat} (h:v<(visL q z d m n).length):(visL q z d m n)[v]=match Zdj q n v with|some i=>(i:Int)+d|none=>z:=by simp[visL]
theorem Zu7 {q:Nat→Nat} {z d:Int} {m n:Nat} (h:Zdj q n (q n)=none):(visL q z d m n).set (q n) ((n:Int)+d)=visL q z d m (n+1):=by
 apply List.ext_getElem
 ·simp[visL]
 ·intro i h1 h2
  rw[List.getElem_set,Zir,Zir,Z5v]
  by_cases e:q n=i
  ·subst e
   rw[if_pos rfl,if_pos rfl,h];rfl
  ·rw[if_neg e,if_neg e,Option.or_none]
theorem Ztb {q:Nat→Nat} {z d:Int} {m:Nat} (hz:∀i:Nat,(i:Int)+d≠z) (hq:∀i,q i<m):∀{n:Nat},(∀k,k<n→Zdj q k (q k)=none)→n+(visL q z d m n).count z=m
 |0,_=>by rw[Zp9];simp
 |n+1,h=>by
  have ih:=Ztb hz hq (n:=n) fun k hk=>h k (by omega)
  have hn:=h n (by omega)
  have hl:q n<(visL q z d m n).length:=by rw[Zm8];exact hq n
  have hv:(visL q z d m n)[q n]=z:=by rw[Zir,hn]
  rw[←Zu7 hn,List.count_set hl,hv]
  have h1:0<(visL q z d m n).count z:=List.count_pos_iff.2 (by have hm:=List.getElem_mem hl;rw[hv]at hm;exact hm)
  have h2:((n:Int)+d==z)=false:=by simpa using hz n
  rw[h2]
  simp
  omega
theorem Zvn {q:Nat→Nat} {m n:Nat} (hq:∀i,q i<m) (h:∀k,k<n→Zdj q k (q k)=none):n≤m:=by
 have:=Ztb (q:=q) (z:=0) (d:=1) (m:=m) (fun i=>by omega) hq h
 omega
def rgQ (s t x:Nat) (i:Nat):Nat:=Zdu s t i x
theorem Zpz {s t x:Nat} (hs:2≤s) (hx:x<2^s) (i:Nat):rgQ s t x i<2^s:=Zid hs hx
theorem Z3q (s t x i:Nat):rgQ s t x (i+1)=Zfx s t (rgQ s t x i):=Zgm s t i x
theorem orb_ex {q:Nat→Nat} {m:Nat} (hm:m≤256) (hq:∀i,q i<m):∃n i,n≤m∧(∀k,k<n→Zdj q k (q k)=none)∧Zdj q n (q n)=some i∧orbN q=n∧orbI q=i:=by
 have hex:∃n,n≤m∧Zdj q n (q n)≠none:=by
  by_cases h:∃n,n≤m∧Zdj q n (q n)≠none
  ·exact h
  ·exfalso
   have h2:∀k,k<m+1→Zdj q k (q k)=none:=fun k hk=>by
    by_cases e:Zdj q k (q k)=none
    ·exact e
    ·exact absurd ⟨k,by omega,e⟩ h
   have:=Zvn (n:=m+1) hq h2
   omega
 have hmin:∃n,(n≤m∧Zdj q n (q n)≠none)∧∀k,k<n→Zdj q k (q k)=none:=by
  obtain⟨n,h1,h2⟩:=hex
  have:∀n,n≤m→Zdj q n (q n)≠none→∃n',(n'≤m∧Zdj q n' (q n')≠none)∧∀k,k<n'→Zdj q k (q k)=none:=by
   intro n
   induction n using Nat.strongRecOn with
   |ind n ih=>
    intro h1 h2
    by_cases hk:∃k,k<n∧Zdj q k (q k)≠none
    ·obtain⟨k,hk1,hk2⟩:=hk
     exact ih k hk1 (by omega) hk2
    ·refine⟨n,⟨h1,h2⟩,fun k hk1=>?_⟩
     by_cases e:Zdj q k (q k)=none
     ·exact e
     ·exact absurd ⟨k,hk1,e⟩ hk
  exact this n h1 h2
 obtain⟨n,⟨h1,h2⟩,h3⟩:=hmin
 cases hf:Zdj q n (q n)with
 |none=>exact absurd hf h2
 |some i=>
  have:=Z9g (q:=q) (n:=n) (i:=i) (by omega) h3 hf
  exact⟨n,i,h1,h3,hf,this.1,this.2⟩
def perR (s t x:Int):Int:=if regB s t x=true then(orbN (rgQ s.toNat t.toNat x.toNat):Int)-(orbI (rgQ s.toNat t.toNat x.toNat):Int)else -1
def Zfn (s t x:Int):Int:=if regB s t x=true then(orbI (rgQ s.toNat t.toNat x.toNat):Int)else -1
def maxB (s t:Int):Bool:=tapB s t&&decide (perR s t 1=2^s.toNat-1)
def mxtL (s:Nat) (k:Nat):List Int:=((List.range k).map fun j=>((j+1:Nat):Int)).filter fun t=>maxB s t
def mxtR (s:Int):List Int:=if inB s 2 8=true then mxtL s.toNat (2^s.toNat-1)else[]
theorem Z2a {s k:Nat} (h:maxB s ((k+1:Nat):Int)=true):mxtL s (k+1)=mxtL s k++[((k+1:Nat):Int)]:=by
 unfold mxtL;rw[List.range_succ,List.map_append,List.filter_append,List.map_cons,List.map_nil,List.filter_cons,List.filter_nil,h];simp
theorem Z9m {s k:Nat} (h:maxB s ((k+1:Nat):Int)=false):mxtL s (k+1)=mxtL s k:=by
 unfold mxtL;rw[List.range_succ,List.map_append,List.filter_append,List.map_cons,List.map_nil,List.filter_cons,List.filter_nil,h];simp
theorem Zwt (s k:Nat):(mxtL s k).length≤k:=by
 unfold mxtL;exact Nat.le_trans (List.length_filter_le _ _) (by simp)
def frmX (b:ByteArray):Nat→Nat
 |0=>0
 |i+1=>frmX b i+((Zab b).getD i 0-48).toNat*2^i
def shG (b:ByteArray) (s t:Nat):Bool:=decide (runL s t (frmX b s) b.size=Zab b)
def shN (b:ByteArray) (s k:Nat):Option Nat:=(List.range k).find? fun j=>shG b s (j+1)
def shM (b:ByteArray) (k:Nat):Option (Nat×Nat):=(List.range k).findSome? fun i=>(shN b (i+2) (2^(i+2)-1)).map fun j=>(i+2,j+1)
def shOk (b:ByteArray):Bool:=Zan b&&inB (b.size:Int) 8 64
def shR (b:ByteArray):Option (Int×Int×Int):=if shOk b=true then(shM b 7).map fun p=>((p.1:Int),(p.2:Int),(frmX b p.1:Int))else none
theorem Zahy {b:ByteArray} (h:shOk b=false):shR b=none:=by unfold shR;rw[h];rfl
theorem Z0d {b:ByteArray} (h:shOk b=true):shR b=(shM b 7).map fun p=>((p.1:Int),(p.2:Int),(frmX b p.1:Int)):=by unfold shR;rw[if_pos h]
theorem Zafc {b:ByteArray} {s k:Nat} (h:shN b s k=none) (h1:shG b s (k+1)=false):shN b s (k+1)=none:=by
 unfold shN at*;rw[List.range_succ,List.find?_append,h];simp[h1]
theorem Zakj {b:ByteArray} {s k m:Nat} (h:shN b s k=none) (h1:shG b s (k+1)=true) (hk:k<m):shN b s m=some k:=by
 unfold shN at*
 rw[List.find?_range_eq_some]
 refine⟨h1,List.mem_range.2 hk,fun j hj=>?_⟩
 rw[List.find?_eq_none]at h
 simpa using h j (List.mem_range.2 hj)
theorem Zafq {b:ByteArray} {k:Nat} (h:shM b k=none) (h1:shN b (k+2) (2^(k+2)-1)=none):shM b (k+1)=none:=by
 unfold shM at*;rw[List.range_succ,List.findSome?_append,h];simp[h1]
theorem Zajn {b:ByteArray} {k j:Nat} (h:shM b k=none) (h1:shN b (k+2) (2^(k+2)-1)=some j) (hk:k<7):shM b 7=some (k+2,j+1):=by
 have h2:shM b (k+1)=some (k+2,j+1):=by
  unfold shM at*;rw[List.range_succ,List.findSome?_append,h];simp[h1]
 have:∀d,shM b (k+1+d)=some (k+2,j+1):=by
  intro d
  induction d with
  |zero=>exact h2
  |succ d ih=>
   unfold shM at*;rw[show k+1+(d+1)=(k+1+d)+1 from rfl,List.range_succ,List.findSome?_append,ih];rfl
 have:=this (7-(k+1))
 rwa [show k+1+(7-(k+1))=7 by omega]at this
theorem Zp3 {b:ByteArray} (hb:∀x∈Zab b,Za7 x):∀n,frmX b n<2^n
 |0=>Nat.one_pos
 |n+1=>by
  have ih:=Zp3 hb n
  have hx:((Zab b).getD n 0-48).toNat≤1:=by
   rcases Nat.lt_or_ge n (Zab b).length with h|h
   ·have:(Zab b).getD n 0=(Zab b)[n]:=by simp[List.getD,h]
    rw[this]
    rcases hb _ (List.getElem_mem h)with e|e<;>rw[e]<;>decide
   ·have:(Zab b).getD n 0=0:=by simp[List.getD,List.getElem?_eq_none h]
    rw[this];decide
  have:=Nat.mul_le_mul_right (2^n) hx
  show frmX b n+_<_
  rw[Nat.pow_succ]
  omega
def cntO (s:ByteArray) (a k:Nat):Nat:=((s.data.toList.drop a).take k).count 49
theorem Zxt (s:ByteArray) (a:Nat):cntO s a 0=0:=by unfold cntO;simp
theorem Zy9 {s:ByteArray} {a k:Nat} (h:a+k<s.size):(s.data.toList.drop a).take (k+1)=(s.data.toList.drop a).take k++[s[a+k]]:=by
 have hl:k<(s.data.toList.drop a).length:=by rw[List.length_drop,Zdz];omega
 rw[List.take_succ_eq_append_getElem hl,List.getElem_drop];rfl
theorem Z2k {s:ByteArray} {a k:Nat} (h:a+k<s.size) (h1:s[a+k].toNat=49):cntO s a (k+1)=cntO s a k+1:=by
 have e:s[a+k]=49:=by apply UInt8.toNat_inj.1;show s[a+k].toNat=49;exact h1
 unfold cntO;rw[Zy9 h,List.count_append,e];rfl
theorem Z8k {s:ByteArray} {a k:Nat} (h:a+k<s.size) (h1:¬s[a+k].toNat=49):cntO s a (k+1)=cntO s a k:=by
 have e:¬s[a+k]=49:=by intro e;exact h1 (by rw[e];rfl)
 unfold cntO;rw[Zy9 h,List.count_append,List.count_cons_of_ne (by simpa using e)];rfl
theorem Zaad (s:ByteArray) (a k:Nat):cntO s a k≤k:=by
 unfold cntO;exact Nat.le_trans List.count_le_length (by rw[List.length_take];omega)
def Zg6 (c:Int) (n:Nat):ByteArray:=text (List.replicate n c)
theorem Zh6 (c:Int) (n:Nat):(Zg6 c n).size=n:=by unfold Zg6;rw[Zaq,List.length_replicate]
theorem Zyk (c:Int) (a b:Nat):Zg6 c a++Zg6 c b=Zg6 c (a+b):=by unfold Zg6;rw[Ze3,List.replicate_append_replicate]
theorem Zpu {w:World} {b:Nat} {L:List Int} {t:TypeId} (h:Box w b (L.map (Value.int .i64)).toArray t) (i:Nat) (x:Int):Box (w.setCell ⟨b,i,none⟩ (.int .i64 x)) b ((L.set i x).map (Value.int .i64)).toArray t:=by
 unfold Box at*
 simp only[World.setCell,Array.getElem?_modify,if_true,h,Option.map_some]
 simp[List.map_set]
theorem Zgq {w:World} {b:Nat} {L:List Int} {t:TypeId} (h:Box w b (L.map (Value.int .i64)).toArray t) {i:Nat} (hi:i<L.length):w.cell? ⟨b,i,none⟩=some (.int .i64 L[i]):=h.cell (by simp[hi])
theorem Zaje:Tryz.zeroCells153=((List.replicate 256 (0:Int)).map (Value.int .i64)).toArray:=by kernel_rfl
theorem Zx6 (s t x:Nat) (w:World) (hs:2≤s∧s≤8) (ht:t<2^s) (hx:x<2^s):
 Calls Tryz.prog 86 #[.agg #[.int .i64 s,.int .i64 t,.int .i64 x]] w fun e w'=>e= .returned (.tuple #[.int .i64 (orbI (rgQ s t x)),.int .i64 ((orbN (rgQ s t x):Int)-(orbI (rgQ s t x):Int))])∧Below w.heap.size w w':=by
 have hp:=Zaw hs.2
 have HX:=Lib.hid hx
 have HT:=Lib.hid ht
 have HQ:=Lib.hid (fun i=>Zpz (t:=t) hs.1 hx i)
 have HS:=Lib.hid (Z3q s t x)
 have HO:=Lib.hid (fun n i hn h hi=>Z9g (q:=rgQ s t x) (n:=n) (i:=i) hn h hi)
 have HV:=Lib.hid (fun n h=>Zvn (q:=rgQ s t x) (m:=2^s) (n:=n) (fun i=>Zpz hs.1 hx i) h)
 clear hx ht
 have hR0:RegAt ((w.alloc (.cells #[.int .i64 s,.int .i64 t,.int .i64 x] 46)).alloc (.cells Tryz.zeroCells153 153)) w.heap.size s t (rgQ s t x 0:Nat):=(Za4 w s t x).alloc _
 have hV0:Box ((w.alloc (.cells #[.int .i64 s,.int .i64 t,.int .i64 x] 46)).alloc (.cells Tryz.zeroCells153 153)) (w.heap.size+1) ((visL (rgQ s t x) 0 1 256 0).map (Value.int .i64)).toArray 153:=by
  rw[Zp9,←Zaje]
  have:=Box.new (w.alloc (.cells #[.int .i64 s,.int .i64 t,.int .i64 x] 46)) Tryz.zeroCells153 153
  simpa using this
 have hb0:Below w.heap.size w ((w.alloc (.cells #[.int .i64 s,.int .i64 t,.int .i64 x] 46)).alloc (.cells Tryz.zeroCells153 153)):=((Below.refl _ _).alloc (Nat.le_refl _) _).alloc (by simp) _
 generalize rgQ s t x=q at*
 go_enter Tryz.func86,Tryz.ntmps86
 go_wp2_with fail
 go_loopw [5] (fun i wr=>∃n:Nat,i= .int .i64 n∧Hid (∀k,k<n→Zdj q k (q k)=none)∧RegAt wr w.heap.size s t (q n:Nat)∧Box wr (w.heap.size+1) ((visL q 0 1 256 n).map (Value.int .i64)).toArray 153∧Below w.heap.size w wr) (fun i _=>300-(intOf i).toNat)
 case atStart=>exact⟨0,rfl,Lib.hid (fun k h=>absurd h (by omega)),hR0,hV0,hb0⟩
 case round=>
  clear hR0 hV0 hb0
  obtain⟨n,rfl,HF,hR,hV,hb⟩:=hrel
  have hn:=HV.out n HF.out
  have hqn:=HQ.out n
  have hq256:q n<256:=by omega
  have hc:=Zgq hV (i:=q n) (by rw[Zm8];exact hq256)
  rw[Zir]at hc
  have hc0:=hR.c0
  have hc1:=hR.c1
  have hc2:=hR.c2
  have hfv:=hV.free (q n)
  have hlt0:=hR.lt
  cases hf:Zdj q n (q n)with
  |none=>
   rw[hf]at hc
   have HSE:=Lib.hid (Zu7 (z:=0) (d:=1) (m:=256) hf)
   have HF2:=Lib.hid (show ∀k,k<n+1→Zdj q k (q k)=none from fun k hk=>by
    rcases Nat.lt_succ_iff_lt_or_eq.1 hk with h|rfl
    ·exact HF.out k h
    ·exact hf)
   have HSN:=Lib.hid (HS.out n)
   clear hf
   have hV1:=Zpu hV (q n) ((n:Int)+1)
   rw[HSE.out]at hV1
   have hR1:RegAt _ w.heap.size s t (q n:Nat):=hR.other (a:=⟨w.heap.size+1,q n,none⟩) (by simp) (.int .i64 ((n:Int)+1))
   have hb1:=hb.setCell (p:=⟨w.heap.size+1,q n,none⟩) (by simp) (.int .i64 ((n:Int)+1))
   have hd0:=hR1.c0
   have hd1:=hR1.c1
   have hd2:=hR1.c2
   have hc:wr.cell? ⟨w.heap.size+1,q n,none⟩=some (.int .i64 0):=hc
   generalize hw1:wr.setCell ⟨w.heap.size+1,q n,none⟩ (.int .i64 ((n:Int)+1))=w1 at*
   have HW1:=Lib.hid hw1
   clear hw1 hV hR hb
   go_wp2_with fail
   rw[HW1.out]
   go_wp2_with fail
   refine(Zlj s t (q n) _ hs HT.out hqn).mono ?_;rintro e w2 ⟨rfl,hb2⟩
   rw[←HSN.out]
   have hR2:=hR1.below hb2 hR1.lt
   have hV2:=hV1.below hb2 hV1.lt
   have f2:=hR2.free 2
   have e2:=hR2.c2
   have hA:=hR2.set2 (q (n+1):Nat)
   have hV3:=hV2.other (a:=⟨w.heap.size,2,none⟩) (by simp) (.int .i64 (q (n+1):Nat))
   have hB:=(hb1.trans (hb2.mono hb1.size)).setCell (p:=⟨w.heap.size,2,none⟩) (Nat.le_refl _) (.int .i64 (q (n+1):Nat))
   clear hR1 hV1 hR2 hV2 hb1 hb2 hc0 hc1 hc2 hd0 hd1 hd2 hc hfv
   go_wp2_with fail
   go_roundw
   case rel=>exact⟨n+1,by go_num,HF2,hA,hV3,hB⟩
   case measure=>simp[intOf];omega
  |some i=>
   rw[hf]at hc
   have hc:wr.cell? ⟨w.heap.size+1,q n,none⟩=some (.int .i64 ((i:Int)+1)):=hc
   have hi:=Zl5 hf
   obtain⟨h1,h2⟩:=HO.out n i (by omega) HF.out hf
   have H1:=Lib.hid h1
   have H2:=Lib.hid h2
   have hne:((i:Int)+1==0)=false:=by simp;omega
   clear hf h1 h2
   go_wp2_with fail
   go_ret2
   exact⟨by rw[H1.out,H2.out];rfl,hb⟩
theorem Z21 {S T X:Nat} (h:regB S T X=true):perR S T X=(orbN (rgQ S T X):Int)-(orbI (rgQ S T X):Int):=by unfold perR;rw[if_pos h];rfl
theorem Zyf {S T X:Nat} (h:regB S T X=true):Zfn S T X=(orbI (rgQ S T X):Int):=by unfold Zfn;rw[if_pos h];rfl
theorem Zacz {s t x:Int} (h:regB s t x=false):perR s t x= -1:=by unfold perR;rw[h];rfl
theorem Z2x {s t x:Int} (h:regB s t x=false):Zfn s t x= -1:=by unfold Zfn;rw[h];rfl
theorem Zn4 (s t x:Int) (w:World):Calls Tryz.prog 30 #[.agg #[.int .i64 s,.int .i64 t,.int .i64 x]] w fun e w'=>e= .returned (.int .i64 (perR s t x))∧Below w.heap.size w w':=by
 have hB0:Below w.heap.size w (w.alloc (.cells #[.int .i64 s,.int .i64 t,.int .i64 x] 46)):=(Below.refl _ _).alloc (Nat.le_refl _) _
 have hR0:=Za4 w s t x
 by_cases hr:regB s t x=true
 ·obtain⟨S,T,X,rfl,rfl,rfl,h1,h2,h3⟩:=Zbx hr
  have HP:=Lib.hid (Z21 hr)
  have HV:=Lib.hid hr
  clear hr
  have HC:=Lib.hid (fun c=>Zx6 S T X c h1 h2.2 h3)
  generalize orbN (rgQ S T X)=a at*
  generalize orbI (rgQ S T X)=b at*
  go_enter Tryz.func30,Tryz.ntmps30
  go_wp2_with fail
  refine(Zal S T X _).mono ?_;rintro e w1 ⟨rfl,hb1⟩
  rw[HV.out]
  have hR:=hR0.below hb1 hR0.lt
  have hb:=hB0.trans (hb1.mono hB0.size)
  have c0:=hR.c0
  have c1:=hR.c1
  have c2:=hR.c2
  go_wp2_with fail
  refine(HC.out _).mono ?_;rintro e w2 ⟨rfl,hb2⟩
  have hbz:=hb.trans (hb2.mono hb.size)
  go_wp2_with fail
  go_ret
  exact⟨Zd6 (by rw[HP.out]),hbz⟩
 ·have hr':regB s t x=false:=by simpa using hr
  have HP:=Lib.hid (Zacz hr')
  have HV:=Lib.hid hr'
  clear hr hr'
  go_enter Tryz.func30,Tryz.ntmps30
  go_wp2_with fail
  refine(Zal s t x _).mono ?_;rintro e w1 ⟨rfl,hb1⟩
  rw[HV.out]
  have hb:=hB0.trans (hb1.mono hB0.size)
  go_wp2_with fail
  go_ret
  exact⟨Zd6 (by rw[HP.out]),hb⟩
theorem Z4i (s t x:Int) (w:World):Calls Tryz.prog 31 #[.agg #[.int .i64 s,.int .i64 t,.int .i64 x]] w fun e w'=>e= .returned (.int .i64 (Zfn s t x))∧Below w.heap.size w w':=by
 have hB0:Below w.heap.size w (w.alloc (.cells #[.int .i64 s,.int .i64 t,.int .i64 x] 46)):=(Below.refl _ _).alloc (Nat.le_refl _) _
 have hR0:=Za4 w s t x
 by_cases hr:regB s t x=true
 ·obtain⟨S,T,X,rfl,rfl,rfl,h1,h2,h3⟩:=Zbx hr
  have HP:=Lib.hid (Zyf hr)
  have HV:=Lib.hid hr
  clear hr
  have HC:=Lib.hid (fun c=>Zx6 S T X c h1 h2.2 h3)
  generalize orbN (rgQ S T X)=a at*
  generalize orbI (rgQ S T X)=b at*
  go_enter Tryz.func31,Tryz.ntmps31
  go_wp2_with fail
  refine(Zal S T X _).mono ?_;rintro e w1 ⟨rfl,hb1⟩
  rw[HV.out]
  have hR:=hR0.below hb1 hR0.lt
  have hb:=hB0.trans (hb1.mono hB0.size)
  have c0:=hR.c0
  have c1:=hR.c1
  have c2:=hR.c2
  go_wp2_with fail
  refine(HC.out _).mono ?_;rintro e w2 ⟨rfl,hb2⟩
  have hbz:=hb.trans (hb2.mono hb.size)
  go_wp2_with fail
  go_ret
  exact⟨Zd6 (by rw[HP.out]),hbz⟩
 ·have hr':regB s t x=false:=by simpa using hr
  have HP:=Lib.hid (Z2x hr')
  have HV:=Lib.hid hr'
  clear hr hr'
  go_enter Tryz.func31,Tryz.ntmps31
  go_wp2_with fail
  refine(Zal s t x _).mono ?_;rintro e w1 ⟨rfl,hb1⟩
  rw[HV.out]
  have hb:=hB0.trans (hb1.mono hB0.size)
  go_wp2_with fail
  go_ret
  exact⟨Zd6 (by rw[HP.out]),hb⟩
theorem Own.setI {w:World} {lo b n c k:Nat} {l:List Int} (h:Own w lo (some ⟨b,0,none⟩) n c l) (x:Int):Own (w.setCell ⟨b,k,none⟩ (.int .i64 x)) lo (some ⟨b,0,none⟩) n c (l.set k x):=by
 refine⟨by rw[List.length_set];exact h.1,h.2.1,?_⟩
 rw[List.map_set]
 exact(h.2.2.stored k (.int .i64 x)).1
theorem Own.cellI {w:World} {lo b n c k:Nat} {l:List Int} (h:Own w lo (some ⟨b,0,none⟩) n c l) (hk:k<l.length):w.cell? ⟨b,k,none⟩=some (.int .i64 l[k]):=by
 obtain⟨b',off,e,hl,hc⟩:=h.rd.at (i:=k) (by have:=h.1;omega)
 cases e
 rw[Nat.zero_add]at hc
 exact hc
theorem Own.far {w:World} {lo n c b i:Nat} {ao:Option Addr} {l:List Int} (h:Own w lo ao n c l) (hb:b<lo) (u:Value):Own (w.setCell ⟨b,i,none⟩ u) lo ao n c l:=h.gr (Za1 b i u) hb
def Zaed (w:World) (s t:Nat) (q:Nat→Nat) (e:Ending) (w':World):Prop:=
 ∃b c,e= .returned (.tuple #[.slice (some ⟨b,0,none⟩) (2^s) c,.int .i64 (orbN q),.agg #[.int .i64 s,.int .i64 t,.int .i64 (q (orbN q):Nat)]])∧
  Own w' w.heap.size (some ⟨b,0,none⟩) (2^s) c (visL q (-1) 0 (2^s) (orbN q))∧Below w.heap.size w w'
theorem Z3l (s t x:Nat) (w:World) (hs:2≤s∧s≤8) (ht:t<2^s) (hx:x<2^s):
 Calls Tryz.prog 215 #[.agg #[.int .i64 s,.int .i64 t,.int .i64 x]] w (Zaed w s t (rgQ s t x)):=by
 have hp:=Zaw hs.2
 have HX:=Lib.hid hx
 have HT:=Lib.hid ht
 have HQ:=Lib.hid (fun i=>Zpz (t:=t) hs.1 hx i)
 have HS:=Lib.hid (Z3q s t x)
 have HO:=Lib.hid (fun n i hn h hi=>Z9g (q:=rgQ s t x) (n:=n) (i:=i) hn h hi)
 have HV:=Lib.hid (fun n h=>Zvn (q:=rgQ s t x) (m:=2^s) (n:=n) (fun i=>Zpz hs.1 hx i) h)
 have HTW:=Lib.hid (show ∀w,Calls Tryz.prog 162 #[.int .i64 (s:Int)] w fun e w'=>e= .returned (.int .i64 ((2^s:Nat):Int))∧w=w' from fun w=>by
  have h:=Zdd (s:Int) w (by omega)
  have e:((2^s:Nat):Int)=(2:Int)^s:=by rw[Int.natCast_pow];rfl
  rw[e];exact h)
 have hR0:=(Zbs w s t x 0 0 0).1
 have hU0:=(Zbs w s t x 0 0 0).2
 have hR0:RegAt _ w.heap.size s t (rgQ s t x 0:Nat):=hR0
 have hb0:Below w.heap.size w ((w.alloc (.cells #[.int .i64 s,.int .i64 t,.int .i64 x] 46)).alloc (.cells #[.int .i64 0,.int .i64 0,.int .i64 0] 46)):=((Below.refl _ _).alloc (Nat.le_refl _) _).alloc (by simp) _
 unfold Zaed
 generalize rgQ s t x=q at*
 obtain⟨P,hP⟩:∃P,2^s=P:=⟨_,rfl⟩
 rw[hP]at HQ HV HTW hp ⊢
 have HPE:=Lib.hid hP
 clear hx ht hP
 have hUl:=hU0.lt
 go_enter Tryz.func215,Tryz.ntmps215
 go_wp2_with fail
 refine(HTW.out _).mono ?_;rintro e w' ⟨rfl,rfl⟩
 generalize (w.alloc (.cells #[.int .i64 s,.int .i64 t,.int .i64 x] 46)).alloc (.cells #[.int .i64 0,.int .i64 0,.int .i64 0] 46)=w1 at*
 go_wp2_with (at_make;refine Zf1 w1 rfl _ _ rfl .i64 .i64 P rfl rfl (by omega) ?_;intro w2 hown hb2)
 have hF:=Fill.start (L:=List.replicate P (-1)) hown (by simp) (by simp)
 have hR2:=hR0.below hb2 hR0.lt
 have hU2:=hU0.below hb2 hU0.lt
 have hb2':=hb0.trans (hb2.mono hb0.size)
 have hgz:w.heap.size+2≤w1.heap.size:=by omega
 clear hown hR0 hU0 hb2
 generalize w1.heap.size=g at*
 go_wp2_with fail
 go_loopw [6] (fun i wr=>∃k:Nat,k≤P∧i= .int .i64 k∧Fill wr g g P (List.replicate P (-1)) (List.replicate P 0) k∧RegAt wr w.heap.size s t (q 0:Nat)∧RegAt wr (w.heap.size+1) 0 0 0∧Below w.heap.size w wr) (fun i _=>P-(intOf i).toNat)
 case atStart=>exact⟨0,Nat.zero_le _,rfl,hF,hR2,hU2,hb2'⟩
 case round=>
  clear hF hR2 hU2 hb2'
  obtain⟨k,hk,rfl,hF,hR,hU,hb⟩:=hrel
  by_cases hlt:k<P
  ·have hc:=hF.cell hlt
   have hf:=hF.free k
   have hst:=hF.step hlt (y:= -1) (by simp[List.getD,hlt])
   have hR3:=hR.other (a:=⟨g,k,none⟩) (by simp;omega) (.int .i64 (-1))
   have hU3:=hU.other (a:=⟨g,k,none⟩) (by simp;omega) (.int .i64 (-1))
   have hb3:=hb.setCell (p:=⟨g,k,none⟩) (show w.heap.size≤g by omega) (.int .i64 (-1))
   clear hF hR hU hb
   go_wp2_with fail
   go_roundw
   case rel=>exact⟨k+1,by omega,by go_num,hst,hR3,hU3,hb3⟩
   case measure=>simp[intOf];omega
  ·obtain rfl:k=P:=by omega
   obtain⟨a1,n1,c1,e1,ho⟩:=(hF.done (Nat.le_refl _)).own (by simp;omega)
   cases e1
   rw[←Zp9 q (-1) 0 k]at ho
   clear hF
   go_wp2_with fail
   go_loopw [7] (fun i ws=>∃n:Nat,i= .int .i64 n∧Hid (∀j,j<n→Zdj q j (q j)=none)∧RegAt ws w.heap.size s t (q n:Nat)∧RegAt ws (w.heap.size+1) 0 0 0∧Own ws g (some ⟨g,0,none⟩) k k (visL q (-1) 0 k n)∧Below w.heap.size w ws) (fun i _=>300-(intOf i).toNat)
   case atStart=>exact⟨0,rfl,Lib.hid (fun j h=>absurd h (by omega)),hR,hU,ho,hb⟩
   case round=>
    clear hR hU ho hb
    obtain⟨n,rfl,HF,hR,hU,ho,hb⟩:=hrel
    have hn:=HV.out n HF.out
    have hqn:=HQ.out n
    have hc:=ho.cellI (k:=q n) (by rw[Zm8];exact hqn)
    rw[Zir]at hc
    have hc0:=hR.c0
    have hc1:=hR.c1
    have hc2:=hR.c2
    cases hf:Zdj q n (q n)with
    |none=>
     rw[hf]at hc
     have hc:wr.cell? ⟨g,q n,none⟩=some (.int .i64 (-1)):=hc
     have hfr:=ho.2.2.frozenAt (q n)
     have HSE:=Lib.hid (Zu7 (z:= -1) (d:=0) (m:=k) hf)
     rw[Int.add_zero]at HSE
     have HF2:=Lib.hid (show ∀j,j<n+1→Zdj q j (q j)=none from fun j hj=>by
      rcases Nat.lt_succ_iff_lt_or_eq.1 hj with h|rfl
      ·exact HF.out j h
      ·exact hf)
     have HSN:=Lib.hid (HS.out n)
     clear hf
     have ho1:=ho.setI (k:=q n) (n:Int)
     rw[HSE.out]at ho1
     have hR1:RegAt _ w.heap.size s t (q n:Nat):=hR.other (a:=⟨g,q n,none⟩) (by simp;omega) (.int .i64 (n:Int))
     have hU1:RegAt _ (w.heap.size+1) 0 0 0:=hU.other (a:=⟨g,q n,none⟩) (by simp;omega) (.int .i64 (n:Int))
     have hb1:=hb.setCell (p:=⟨g,q n,none⟩) (show w.heap.size≤g by omega) (.int .i64 (n:Int))
     have hd0:=hR1.c0
     have hd1:=hR1.c1
     have hd2:=hR1.c2
     generalize hw1:wr.setCell ⟨g,q n,none⟩ (.int .i64 (n:Int))=w3 at*
     have HW1:=Lib.hid hw1
     clear hw1 ho hR hU hb
     go_wp2_with fail
     rw[HW1.out]
     go_wp2_with fail
     refine(Zwu s t (q n) _ hs HT.out (by rw[HPE.out];exact hqn)).mono ?_;rintro e w4 ⟨rfl,hb4⟩
     rw[←HSN.out]
     have hR2:=hR1.below hb4 hR1.lt
     have hU2:=hU1.below hb4 hU1.lt
     have ho2:=ho1.below hb4
     have d0:=hR2.c0
     have d1:=hR2.c1
     have d2:=hR2.c2
     have f0:=hR2.free 0
     have f1:=hR2.free 1
     have f2:=hR2.free 2
     have hA:=((hR2.set0 s).set1 t).set2 (q (n+1):Nat)
     have hV3:RegAt _ (w.heap.size+1) 0 0 0:=((hU2.other (a:=⟨w.heap.size,0,none⟩) (by simp) (.int .i64 s)).other (a:=⟨w.heap.size,1,none⟩) (by simp) (.int .i64 t)).other (a:=⟨w.heap.size,2,none⟩) (by simp) (.int .i64 (q (n+1):Nat))
     have ho3:Own _ g (some ⟨g,0,none⟩) k k (visL q (-1) 0 k (n+1)):=((ho2.far (b:=w.heap.size) (i:=0) (by omega) (.int .i64 s)).far (b:=w.heap.size) (i:=1) (by omega) (.int .i64 t)).far (b:=w.heap.size) (i:=2) (by omega) (.int .i64 (q (n+1):Nat))
     have hB:=(((hb1.trans (hb4.mono hb1.size)).setCell (p:=⟨w.heap.size,0,none⟩) (Nat.le_refl _) (.int .i64 s)).setCell (p:=⟨w.heap.size,1,none⟩) (Nat.le_refl _) (.int .i64 t)).setCell (p:=⟨w.heap.size,2,none⟩) (Nat.le_refl _) (.int .i64 (q (n+1):Nat))
     clear hR1 hU1 ho1 hR2 hU2 ho2 hb1 hb4 hc0 hc1 hc2 hd0 hd1 hd2 hc hfr
     go_wp2_with fail
     go_roundw
     case rel=>exact⟨n+1,by go_num,HF2,hA,hV3,ho3,hB⟩
     case measure=>simp[intOf];omega
    |some i=>
     rw[hf]at hc
     have hc:wr.cell? ⟨g,q n,none⟩=some (.int .i64 ((i:Int)+0)):=hc
     rw[Int.add_zero]at hc
     obtain⟨h1,h2⟩:=HO.out n i (by omega) HF.out hf
     have H1:=Lib.hid h1
     have hni:¬(i:Int)<0:=by omega
     clear hf h1 h2
     go_wp2_with fail
     go_still_tail 5,(by kernel_rfl)
     have hU9:RegAt wr.drew (w.heap.size+1) 0 0 0:=hU
     have ho9:Own wr.drew g (some ⟨g,0,none⟩) k k (visL q (-1) 0 k n):=ho
     have hb9:Below w.heap.size w wr.drew:=Below.drew hb
     clear hU hR ho hb hc0 hc1 hc2 hc
     change wpList _ _ _ _ _ wr.drew
     generalize wr.drew=w9 at*
     have d0:=hU9.c0
     have d1:=hU9.c1
     have d2:=hU9.c2
     have f0:=hU9.free 0
     have f1:=hU9.free 1
     have f2:=hU9.free 2
     have ho8:Own _ g (some ⟨g,0,none⟩) k k (visL q (-1) 0 k n):=((ho9.far (b:=w.heap.size+1) (i:=0) (by omega) (.int .i64 s)).far (b:=w.heap.size+1) (i:=1) (by omega) (.int .i64 t)).far (b:=w.heap.size+1) (i:=2) (by omega) (.int .i64 (q n:Nat))
     have hb8:=((hb9.setCell (p:=⟨w.heap.size+1,0,none⟩) (by simp) (.int .i64 s)).setCell (p:=⟨w.heap.size+1,1,none⟩) (by simp) (.int .i64 t)).setCell (p:=⟨w.heap.size+1,2,none⟩) (by simp) (.int .i64 (q n:Nat))
     clear hU9 ho9 hb9
     go_wp2_with fail
     refine bodyPost_ret (v:=.tuple #[.slice (some ⟨g,0,none⟩) k k,.int .i64 n,.agg #[.int .i64 s,.int .i64 t,.int .i64 (q n:Nat)]]) (by simp[results,Tryz.results215,go_sem,d0,d1,d2]) rfl ?_
     rw[H1.out]
     exact⟨g,k,rfl,ho8.mono (by omega),hb8⟩
theorem Znu {s t x:Nat} (hs:2≤s∧s≤8) (hx:x<2^s):orbN (rgQ s t x)≤256∧Zdj (rgQ s t x) (orbN (rgQ s t x)) (rgQ s t x (orbN (rgQ s t x)))=some (orbI (rgQ s t x)):=by
 have hp:=Zaw hs.2
 obtain⟨n,i,h1,h2,h3,h4,h5⟩:=orb_ex (q:=rgQ s t x) hp.2 fun i=>Zpz hs.1 hx i
 rw[h4,h5]
 exact⟨by omega,h3⟩
theorem Zql (s t x:Int) (w:World):Calls Tryz.prog 142 #[.agg #[.int .i64 s,.int .i64 t,.int .i64 x]] w fun e w'=>e= .returned (.int .i64 (perR s t x))∧Below w.heap.size w w':=by
 have hB0:Below w.heap.size w (w.alloc (.cells #[.int .i64 s,.int .i64 t,.int .i64 x] 46)):=(Below.refl _ _).alloc (Nat.le_refl _) _
 have hR0:=Za4 w s t x
 by_cases hr:regB s t x=true
 ·obtain⟨S,T,X,rfl,rfl,rfl,h1,h2,h3⟩:=Zbx hr
  have HP:=Lib.hid (Z21 hr)
  have HV:=Lib.hid hr
  clear hr
  have HC:=Lib.hid (fun c=>Z3l S T X c h1 h2.2 h3)
  have HN:=Lib.hid (Znu h1 h3 (t:=T))
  have HQ:=Lib.hid (fun i=>Zpz (t:=T) h1.1 h3 i)
  unfold Zaed at HC
  generalize rgQ S T X=q at*
  generalize 2^S=P at*
  go_enter Tryz.func142,Tryz.ntmps142
  go_wp2_with fail
  refine(Zao S T X _).mono ?_;rintro e w1 ⟨rfl,hb1⟩
  rw[HV.out]
  have hR:=hR0.below hb1 hR0.lt
  have hb:=hB0.trans (hb1.mono hB0.size)
  have c0:=hR.c0
  have c1:=hR.c1
  have c2:=hR.c2
  go_wp2_with fail
  refine(HC.out _).mono ?_;rintro e w2 ⟨b,c,rfl,ho2,hb2⟩
  have hbz:=hb.trans (hb2.mono hb.size)
  obtain⟨hN,hI⟩:=HN.out
  have hq:=HQ.out (orbN q)
  have hc:=ho2.cellI (k:=q (orbN q)) (by rw[Zm8];exact hq)
  rw[Zir]at hc
  rw[hI]at hc
  have hc:w2.cell? ⟨b,q (orbN q),none⟩=some (.int .i64 ((orbI q:Int)+0)):=hc
  rw[Int.add_zero]at hc
  have hil:=Zl5 hI
  generalize orbI q=I at*
  clear hI HN
  generalize orbN q=N at*
  clear HQ HC
  generalize q N=V at*
  have hba:Below w2.heap.size w2 (w2.alloc (.cells #[.int .i64 S,.int .i64 T,.int .i64 V] 46)):=(Below.refl _ _).alloc (Nat.le_refl _) _
  have hcA:=(hba.cell (Zaa hc)).trans hc
  have hRN:=Za4 w2 S T V
  have e0:=hRN.c0
  have e1:=hRN.c1
  have e2:=hRN.c2
  have hbw:=hbz.trans (hba.mono hbz.size)
  clear hRN hba ho2 hb2 hbz hb
  go_wp2_with fail
  go_ret
  exact⟨Zd6 (by rw[HP.out]),hbw⟩
 ·have hr':regB s t x=false:=by simpa using hr
  have HP:=Lib.hid (Zacz hr')
  have HV:=Lib.hid hr'
  clear hr hr'
  go_enter Tryz.func142,Tryz.ntmps142
  go_wp2_with fail
  refine(Zao s t x _).mono ?_;rintro e w1 ⟨rfl,hb1⟩
  rw[HV.out]
  have hb:=hB0.trans (hb1.mono hB0.size)
  go_wp2_with fail
  go_ret
  exact⟨Zd6 (by rw[HP.out]),hb⟩
theorem Zaa0 (s t x:Int) (w:World):Calls Tryz.prog 143 #[.agg #[.int .i64 s,.int .i64 t,.int .i64 x]] w fun e w'=>e= .returned (.int .i64 (Zfn s t x))∧Below w.heap.size w w':=by
 have hB0:Below w.heap.size w (w.alloc (.cells #[.int .i64 s,.int .i64 t,.int .i64 x] 46)):=(Below.refl _ _).alloc (Nat.le_refl _) _
 have hR0:=Za4 w s t x
 by_cases hr:regB s t x=true
 ·obtain⟨S,T,X,rfl,rfl,rfl,h1,h2,h3⟩:=Zbx hr
  have HP:=Lib.hid (Zyf hr)
  have HV:=Lib.hid hr
  clear hr
  have HC:=Lib.hid (fun c=>Z3l S T X c h1 h2.2 h3)
  have HN:=Lib.hid (Znu h1 h3 (t:=T))
  have HQ:=Lib.hid (fun i=>Zpz (t:=T) h1.1 h3 i)
  unfold Zaed at HC
  generalize rgQ S T X=q at*
  generalize 2^S=P at*
  go_enter Tryz.func143,Tryz.ntmps143
  go_wp2_with fail
  refine(Zao S T X _).mono ?_;rintro e w1 ⟨rfl,hb1⟩
  rw[HV.out]
  have hR:=hR0.below hb1 hR0.lt
  have hb:=hB0.trans (hb1.mono hB0.size)
  have c0:=hR.c0
  have c1:=hR.c1
  have c2:=hR.c2
  go_wp2_with fail
  refine(HC.out _).mono ?_;rintro e w2 ⟨b,c,rfl,ho2,hb2⟩
  have hbz:=hb.trans (hb2.mono hb.size)
  obtain⟨hN,hI⟩:=HN.out
  have hq:=HQ.out (orbN q)
  have hc:=ho2.cellI (k:=q (orbN q)) (by rw[Zm8];exact hq)
  rw[Zir]at hc
  rw[hI]at hc
  have hc:w2.cell? ⟨b,q (orbN q),none⟩=some (.int .i64 ((orbI q:Int)+0)):=hc
  rw[Int.add_zero]at hc
  have hil:=Zl5 hI
  generalize orbI q=I at*
  clear hI HN
  generalize orbN q=N at*
  clear HQ HC
  generalize q N=V at*
  have hba:Below w2.heap.size w2 (w2.alloc (.cells #[.int .i64 S,.int .i64 T,.int .i64 V] 46)):=(Below.refl _ _).alloc (Nat.le_refl _) _
  have hcA:=(hba.cell (Zaa hc)).trans hc
  have hRN:=Za4 w2 S T V
  have e0:=hRN.c0
  have e1:=hRN.c1
  have e2:=hRN.c2
  have hbw:=hbz.trans (hba.mono hbz.size)
  clear hRN hba ho2 hb2 hbz hb
  go_wp2_with fail
  go_ret
  exact⟨Zd6 (by rw[HP.out]),hbw⟩
 ·have hr':regB s t x=false:=by simpa using hr
  have HP:=Lib.hid (Z2x hr')
  have HV:=Lib.hid hr'
  clear hr hr'
  go_enter Tryz.func143,Tryz.ntmps143
  go_wp2_with fail
  refine(Zao s t x _).mono ?_;rintro e w1 ⟨rfl,hb1⟩
  rw[HV.out]
  have hb:=hB0.trans (hb1.mono hB0.size)
  go_wp2_with fail
  go_ret
  exact⟨Zd6 (by rw[HP.out]),hb⟩
theorem Zaid {u f:Nat} (hu:u%2=0) (hf:f≤1):u ||| f=u+f:=by
 rcases(show f=0∨f=1 by omega)with rfl|rfl
 ·simp
 ·exact nat_join 1 u 1 (by simpa using hu) (by decide)
theorem wrp1 {P:Nat} (h:1≤P∧P≤256):RowKit.wrap64 ((P:Int)-1)=(P:Int)-1:=by unfold wrap64;omega
theorem wrp2 {s:Nat} (h:s≤8):RowKit.wrap64 ((2:Int)^s)=((2^s:Nat):Int):=by
 have hp:(2:Int)^s=((2^s:Nat):Int):=by rw[Int.natCast_pow];rfl
 have:=Zaw h
 rw[hp];unfold wrap64;omega
theorem Z1l (s t x:Nat) (w:World) (hs:2≤s∧s≤8) (ht:t<2^s) (hx:x<2^s):
 Calls Tryz.prog 77 #[.agg #[.int .i64 s,.int .i64 t,.int .i64 x]] w fun e w'=>e= .returned (.int .i64 (Zl3 s t x))∧Below w.heap.size w w':=by
 have hb:=Zaw hs.2
 have hpe:(2:Int)^s=((2^s:Nat):Int):=by rw[Int.natCast_pow];rfl
 have h2:2^s=2*2^(s-1):=by rw[←Nat.pow_succ'];congr 1;omega
 have hqe:(2:Int)^(s-1)=((2^(s-1):Nat):Int):=by rw[Int.natCast_pow];rfl
 have hand:bits .and .i64 ((x:Int)*2) (((2^s:Nat):Int)-1)=((x%2^(s-1)*2:Nat):Int):=by
  have h:=Zfd (x*2) (2^s-1) (by omega) (by omega)
  rw[Nat.and_two_pow_sub_one_eq_mod,h2,Nat.mul_comm x 2,Nat.mul_mod_mul_left]at h
  rw[show(x:Int)*2=((2*x:Nat):Int)by omega,show((2^s:Nat):Int)-1=((2^s-1:Nat):Int)by omega,h2,h,Nat.mul_comm]
 have HB:=Lib.hid (show Zl3 s t x=x%2^(s-1)*2+(x/2^(s-1)+par ((x%2^(s-1)*2) &&& t))%2 from rfl)
 have hD:(x:Int)/2^(s-1)=((x/2^(s-1):Nat):Int):=by rw[hqe,Int.natCast_ediv]
 have hD1:x/2^(s-1)≤1:=by
  have:x/2^(s-1)<2:=Nat.div_lt_of_lt_mul (by rw[Nat.mul_comm];omega)
  omega
 have hU:x%2^(s-1)*2<256:=by have:=Nat.mod_lt x (Nat.two_pow_pos (s-1));omega
 have hUe:x%2^(s-1)*2%2=0:=by omega
 generalize x%2^(s-1)*2=U at*
 generalize x/2^(s-1)=D at*
 have ht2:t<256:=by omega
 have hx2:x<256:=by omega
 have ha:=Zfd U t (by omega) (by omega)
 have hal:U &&& t≤U:=Nat.and_le_left
 have HP:=Lib.hid (Zva (U &&& t))
 have hq:=Zm4 (U &&& t)
 generalize par (U &&& t)=q at HP hq HB
 have hxr:bits .xor .i64 (D:Int) (q:Int)=(((D+q)%2:Nat):Int):=by rw[Zlc D q (by omega) (by omega),Zz3 hD1 hq]
 have hf:(D+q)%2≤1:=by omega
 generalize (D+q)%2=f at*
 have hor:bits .or .i64 (U:Int) (f:Int)=((U+f:Nat):Int):=by rw[Z74 U f (by omega) (by omega),Zaid hUe hf]
 have hc1:=wrp2 hs.2
 have hc2:=wrp1 hb
 generalize 2^s=P at*
 have hw2:=Lib.hid (show IntKind.i64.wrap ((s:Int)-1)=(s:Int)-1 from IntWalk.i64_in _ (by omega))
 have hw3:RowKit.wrap64 ((x:Int)*2)=(x:Int)*2:=by unfold wrap64;omega
 have HD:=Lib.hid hD
 have HA:=Lib.hid ha
 have HXR:=Lib.hid hxr
 have HOR:=Lib.hid hor
 have hz:=Lib.hid (show U &&& t≤1099511627776 by omega)
 have hs1:1≤s:=by omega
 have hs9:s<9:=by omega
 clear hpe h2 hqe hx ht hUe hD1 hD ha hxr hor hU hal hq hf ht2 hx2 hb hs
 go_enter Tryz.func77,Tryz.ntmps77
 go_wp2_with fail
 go_quiet (fail)
 clear hc1 hc2 hand hw3
 have hR0:=Za4 w s t x
 obtain⟨W1,hW1⟩:∃W1,W1=(w.alloc (.cells #[.int .i64 s,.int .i64 t,.int .i64 x] 46)).drewN nq:=⟨_,rfl⟩
 have hR1:RegAt W1 w.heap.size s t x:=by rw[hW1];exact hR0
 have hB1:Below w.heap.size w W1:=by rw[hW1];exact Zgv _ _ _
 rw[←hW1]
 clear hW1 hR0
 have c0:=hR1.c0
 have c1:=hR1.c1
 have c2:=hR1.c2
 have hD:=HD.out
 have ha:=HA.out
 have hxr:=HXR.out
 have hw2:=hw2.out
 go_wp2_with fail
 go_quiet ((go_at_call 160;exact Zd7 (HP.out _ hz.out)))
 clear hD ha hxr hw2
 have hor:=HOR.out
 go_wp2_with fail
 go_ret
 exact⟨Zd6 (by rw[HB.out];omega),below_drewN hB1 _⟩
theorem Zaex (s t x:Nat) (w:World) (hs:2≤s∧s≤8) (ht:t<2^s) (hx:x<2^s):
 Calls Tryz.prog 164 #[.agg #[.int .i64 s,.int .i64 t,.int .i64 x]] w fun e w'=>e= .returned (.agg #[.int .i64 s,.int .i64 t,.int .i64 (Zl3 s t x)])∧Below w.heap.size w w':=by
 have hb:=Zaw hs.2
 have h2:2^s=2*2^(s-1):=by rw[←Nat.pow_succ'];congr 1;omega
 have HB:=Lib.hid (show Zl3 s t x=x%2^(s-1)*2+(x/2^(s-1)+par ((x%2^(s-1)*2) &&& t))%2 from rfl)
 have HT:=Lib.hid (show ∀w,Calls Tryz.prog 162 #[.int .i64 ((s:Int)-1)] w fun e w'=>e= .returned (.int .i64 ((2^(s-1):Nat):Int))∧w=w' from fun w=>by
  have h:=Zdd ((s:Int)-1) w (by omega)
  rw[show((s:Int)-1).toNat=s-1 by omega]at h
  have e:((2^(s-1):Nat):Int)=(2:Int)^(s-1):=by rw[Int.natCast_pow];rfl
  rw[e];exact h)
 have hp:=Zaw (s:=s-1) (by omega)
 have hD1:x/2^(s-1)≤1:=by
  have:x/2^(s-1)<2:=Nat.div_lt_of_lt_mul (by rw[Nat.mul_comm];omega)
  omega
 have hr1:x%2^(s-1)<2^(s-1):=Nat.mod_lt x (Nat.two_pow_pos (s-1))
 have hdv:Int.tdiv (x:Int) ((2^(s-1):Nat):Int)=((x/2^(s-1):Nat):Int):=by rw[Int.tdiv_eq_ediv_of_nonneg (by omega),Int.natCast_ediv]
 have hmd:Int.tmod (x:Int) ((2^(s-1):Nat):Int)=((x%2^(s-1):Nat):Int):=by rw[Int.tmod_eq_emod_of_nonneg (by omega),Int.natCast_emod]
 generalize x/2^(s-1)=D at*
 generalize x%2^(s-1)=r at*
 generalize 2^(s-1)=H at*
 have hn1:¬(H:Int)=0:=by omega
 have hn2:¬H=0:=by omega
 have hr3:r<128:=by omega
 obtain⟨U,hU⟩:∃U,r*2=U:=⟨_,rfl⟩
 rw[hU]at HB
 have ha:=Zfd U t (by omega) (by omega)
 have hal:U &&& t≤U:=Nat.and_le_left
 have HP:=Lib.hid (Znm (U &&& t))
 have hq:=Zm4 (U &&& t)
 generalize par (U &&& t)=q at HP hq HB
 have hw1:IntKind.i64.wrap ((s:Int)-1)=(s:Int)-1:=IntWalk.i64_in _ (by omega)
 have hw2:IntKind.i64.wrap (D:Int)=(D:Int):=IntWalk.i64_in _ (by omega)
 have HW3:=Lib.hid (show IntKind.i64.wrap (r:Int)=(r:Int)from IntWalk.i64_in _ (by omega))
 have HW4:=Lib.hid (show IntKind.i64.wrap ((r:Int)*2)=(U:Int)by rw[IntWalk.i64_in _ (by omega)];omega)
 have HMD:=Lib.hid hmd
 have HA:=Lib.hid ha
 have hz:=Lib.hid (show U &&& t≤1099511627776 by omega)
 have hU9:U<256:=by omega
 clear hmd ha hal hU
 go_enter Tryz.func164,Tryz.ntmps164
 go_wp2_with fail
 go_quiet ((go_at_call 162;exact Zd7 (HT.out _)))
 have hR0:=(Zbs w s t x 0 0 0).1
 have hU0:=(Zbs w s t x 0 0 0).2
 obtain⟨W1,hW1⟩:∃W1,W1=((w.alloc (.cells #[.int .i64 s,.int .i64 t,.int .i64 x] 46)).alloc (.cells #[.int .i64 0,.int .i64 0,.int .i64 0] 46)).drewN nq:=⟨_,rfl⟩
 have hR1:RegAt W1 w.heap.size s t x:=by rw[hW1];exact hR0
 have hU1:RegAt W1 (w.heap.size+1) 0 0 0:=by rw[hW1];exact hU0
 have hB1:Below w.heap.size w W1:=by rw[hW1];exact below_drewN (((Below.refl _ _).alloc (Nat.le_refl _) _).alloc (by simp) _) _
 rw[←hW1]
 clear hW1 hR0 hU0 hw2 hdv
 have c0:=hR1.c0
 have c1:=hR1.c1
 have c2:=hR1.c2
 have hw3:=HW3.out
 have hw4:=HW4.out
 have hmd:=HMD.out
 go_wp2_with fail
 go_quiet ((go_at_call 162;exact Zd7 (HT.out _)))
 clear hw3 hw4 hmd hw1 c0 c1 c2 HT
 obtain⟨W2,hW2⟩:∃W2,W2=W1.drewN nq:=⟨_,rfl⟩
 have hR2:RegAt W2 w.heap.size s t x:=by rw[hW2];exact hR1
 have hU2:RegAt W2 (w.heap.size+1) 0 0 0:=by rw[hW2];exact hU1
 have hB2:Below w.heap.size w W2:=by rw[hW2];exact below_drewN hB1 _
 rw[←hW2]
 clear hW2 hR1 hU1 hB1
 have c0:=hR2.c0
 have c1:=hR2.c1
 have c2:=hR2.c2
 have f2:=hR2.free 2
 have ha:=HA.out
 clear hr3 hn1 hn2
 go_wp2_with fail
 refine(HP.out _ hz.out).mono ?_;rintro e w' ⟨rfl,rfl⟩
 have hV:RegAt _ (w.heap.size+1) 0 0 0:=hU2.other (a:=⟨w.heap.size,2,none⟩) (by simp) (.int .i64 ((U:Int)+((D:Int)+(q:Int))%2))
 have d0:=hV.c0
 have d1:=hV.c1
 have d2:=hV.c2
 have e0:=hV.free 0
 have e1:=hV.free 1
 have e2:=hV.free 2
 have hA:=hR2.set2 ((U:Int)+((D:Int)+(q:Int))%2)
 have g0:=hA.c0
 have g1:=hA.c1
 have g2:=hA.c2
 have hB3:=hB2.setCell (p:=⟨w.heap.size,2,none⟩) (Nat.le_refl _) (.int .i64 ((U:Int)+((D:Int)+(q:Int))%2))
 clear hV hA hR2 hU2 hB2
 go_wp2_with fail
 refine bodyPost_ret (v:=.agg #[.int .i64 s,.int .i64 t,.int .i64 ((U:Int)+((D:Int)+(q:Int))%2)]) (by simp[results,Tryz.results164,go_sem,d0,d1,d2]) rfl ⟨by rw[HB.out];simp,?_⟩
 exact((hB3.setCell (by simp) _).setCell (by simp) _).setCell (by simp) _
theorem Ztg (s t k x:Nat):Zlo s t (k+1) x=Zl3 s t (Zlo s t k x):=rfl
theorem Zacx (t:Nat) (ht:t<4611686018427387904):bits .and .i64 (t:Int) 1=((t%2:Nat):Int):=by
 have e1:=Zfd t 1 ht (by omega)
 rw[Nat.and_one_is_mod]at e1
 exact e1
theorem Zoy (s t x k:Nat) (w:World) (hs:2≤s∧s≤8) (ht:1≤t∧t<2^s) (hodd:t%2=1) (hx:x<2^s) (hk:0<k∧k≤5000):
 Calls Tryz.prog 24 #[.agg #[.int .i64 s,.int .i64 t,.int .i64 x],.int .i64 (-(k:Int))] w fun e w'=>e= .returned (.tuple #[.agg #[.int .i64 s,.int .i64 t,.int .i64 (Zlo s t k x)],.bool true])∧Below w.heap.size w w':=by
 have hp:(2:Int)^s=((2^s:Nat):Int):=by rw[Int.natCast_pow];rfl
 have hv:regB s t x=true:=by
  unfold regB tapB
  rw[show((s:Int)).toNat=s from rfl,hp,Zax (by omega) (by omega),Zax (by omega) (by omega),Zax (by omega) (by omega)];rfl
 have hp2:=Zaw hs.2
 have ho:=Zacx t (by omega)
 rw[hodd]at ho
 have HX:=Lib.hid hx
 have HT:=Lib.hid ht.2
 have HV:=Lib.hid hv
 clear hx ht hp hv hodd hp2
 go_enter Tryz.func24,Tryz.ntmps24
 go_wp2_with fail
 refine(Zal s t x _).mono ?_;rintro e w1 ⟨rfl,hb1⟩
 rw[HV.out]
 have hR0:=(Zbs w s t x 0 0 0).1.below hb1 (by simp;try omega)
 have hU0:=(Zbs w s t x 0 0 0).2.below hb1 (by simp;try omega)
 have hb:Below w.heap.size w w1:=(((Below.refl _ _).alloc (Nat.le_refl _) _).alloc (by simp) _).trans (hb1.mono (by simp;try omega))
 have hc1:=hR0.c1
 go_wp2_with fail
 refine wp_loop_rounds 1 ?_
 rw[rounds_succ]
 go_wp2_with fail
 go_loopw [1] (fun i wr=>∃j:Nat,j≤k∧i= .int .i64 (-(j:Int))∧RegAt wr w.heap.size s t (Zlo s t (k-j) x)∧(∃u0 u1 u2,RegAt wr (w.heap.size+1) u0 u1 u2)∧Below w.heap.size w wr) (fun i _=>(-(intOf i)).toNat)
 case atStart=>exact⟨k,Nat.le_refl _,rfl,by rw[Nat.sub_self];exact hR0,⟨_,_,_,hU0⟩,hb⟩
 case round=>
  clear hR0 hU0 hb hb1 hc1
  obtain⟨j,hj,rfl,hR,⟨u0,u1,u2,hU⟩,hb⟩:=hrel
  have hc0:=hR.c0
  have hc1:=hR.c1
  have hc2:=hR.c2
  have hlt0:=hR.lt
  have hlt1:=hU.lt
  by_cases hlt:0<j
  ·have HJ:=Lib.hid (Ztg s t (k-j) x)
   rw[show k-j+1=k-(j-1)by omega]at HJ
   have hlx:=Lib.hid (Zvg (t:=t) (k:=k-j) hs.1 HX.out)
   have HS:=Lib.hid (Z1l s t (Zlo s t (k-j) x))
   generalize Zlo s t (k-j) x=y at*
   go_wp2_with fail
   refine(HS.out _ hs HT.out hlx.out).mono ?_;rintro e w1 ⟨rfl,hb1⟩
   have hR1:=hR.below hb1 hlt0
   have hU1:=hU.below hb1 hlt1
   have d2:=hR1.c2
   have f2:=hR1.free 2
   have hA:=hR1.set2 (Zl3 s t y)
   have hV:RegAt _ (w.heap.size+1) u0 u1 u2:=hU1.other (a:=⟨w.heap.size,2,none⟩) (by simp) (.int .i64 (Zl3 s t y))
   have hB:=(hb.trans (hb1.mono (by omega))).setCell (p:=⟨w.heap.size,2,none⟩) (Nat.le_refl _) (.int .i64 (Zl3 s t y))
   clear hR hU hR1 hU1 hb hb1 hc0 hc1 hc2
   go_wp2
   go_roundw
   case rel=>exact⟨j-1,by omega,Ztf (by omega),by rw[HJ.out];exact hA,⟨_,_,_,hV⟩,hB⟩
   case measure=>simp[intOf];omega
  ·obtain rfl:j=0:=by omega
   have d0:=hU.c0
   have d1:=hU.c1
   have d2:=hU.c2
   have f0:=hU.free 0
   have f1:=hU.free 1
   have f2:=hU.free 2
   go_wp2_with fail
   refine bodyPost_ret (v:=.tuple #[.agg #[.int .i64 s,.int .i64 t,.int .i64 (Zlo s t k x)],.bool true]) (by simp[results,Tryz.results24,go_sem,d0,d1,d2]) rfl ⟨rfl,?_⟩
   refine Below.setCell (Below.setCell (Below.setCell hb (by simp) _) (by simp) _) (by simp) _
theorem Zpx (s t x k:Int) (w:World) (h:Zkz s t x k=false):
 Calls Tryz.prog 24 #[.agg #[.int .i64 s,.int .i64 t,.int .i64 x],.int .i64 k] w fun e w'=>e= .returned (.tuple #[.agg #[.int .i64 0,.int .i64 0,.int .i64 0],.bool false])∧Below w.heap.size w w':=by
 have hU0:=(Zbs w s t x 0 0 0).2
 have hR0:=(Zbs w s t x 0 0 0).1
 have hb0:Below w.heap.size w ((w.alloc (.cells #[.int .i64 s,.int .i64 t,.int .i64 x] 46)).alloc (.cells #[.int .i64 0,.int .i64 0,.int .i64 0] 46)):=((Below.refl _ _).alloc (Nat.le_refl _) _).alloc (by simp) _
 by_cases hr:regB s t x=true
 ·have HV:=Lib.hid hr
  obtain⟨S,T,X,rfl,rfl,rfl,h1,h2,h3⟩:=Zbx hr
  have hp2:=Zaw h1.2
  have ho:=Zacx T (by omega)
  have hcase:k< -5000∨5000<k∨(¬k< -5000∧¬5000<k∧k<0∧T%2=0):=by
   unfold Zkz at h
   rw[hr,Bool.true_and]at h
   by_cases ha:inB k (-5000) 5000=true
   ·rw[ha,Bool.true_and]at h
    have:=inB_iff.1 ha
    simp at h
    omega
   ·have:¬(-5000≤k∧k≤5000):=fun e=>ha (inB_iff.2 e)
    omega
  have HC:=Lib.hid hcase
  clear hr h hcase h2 h3 hp2
  rcases HC.out with hk|hk|⟨hk1,hk2,hk3,hk4⟩
  ·go_enter Tryz.func24,Tryz.ntmps24
   go_wp2_with fail
   refine(Zal S T X _).mono ?_;rintro e w1 ⟨rfl,hb1⟩
   rw[HV.out]
   have hU:=hU0.below hb1 (by simp;try omega)
   have hR:=hR0.below hb1 (by simp;try omega)
   have hc1:=hR.c1
   have d0:=hU.c0
   have d1:=hU.c1
   have d2:=hU.c2
   have f0:=hU.free 0
   have f1:=hU.free 1
   have f2:=hU.free 2
   have hb:=hb0.trans (hb1.mono hb0.size)
   go_wp2_with fail
   refine bodyPost_ret (v:=.tuple #[.agg #[.int .i64 0,.int .i64 0,.int .i64 0],.bool false]) (by simp[results,Tryz.results24,go_sem,d0,d1,d2]) rfl ⟨rfl,?_⟩
   refine Below.setCell (Below.setCell (Below.setCell hb (by simp) _) (by simp) _) (by simp) _
  ·go_enter Tryz.func24,Tryz.ntmps24
   go_wp2_with fail
   refine(Zal S T X _).mono ?_;rintro e w1 ⟨rfl,hb1⟩
   rw[HV.out]
   have hU:=hU0.below hb1 (by simp;try omega)
   have hR:=hR0.below hb1 (by simp;try omega)
   have hc1:=hR.c1
   have d0:=hU.c0
   have d1:=hU.c1
   have d2:=hU.c2
   have f0:=hU.free 0
   have f1:=hU.free 1
   have f2:=hU.free 2
   have hb:=hb0.trans (hb1.mono hb0.size)
   go_wp2_with fail
   refine bodyPost_ret (v:=.tuple #[.agg #[.int .i64 0,.int .i64 0,.int .i64 0],.bool false]) (by simp[results,Tryz.results24,go_sem,d0,d1,d2]) rfl ⟨rfl,?_⟩
   refine Below.setCell (Below.setCell (Below.setCell hb (by simp) _) (by simp) _) (by simp) _
  ·rw[hk4]at ho
   go_enter Tryz.func24,Tryz.ntmps24
   go_wp2_with fail
   refine(Zal S T X _).mono ?_;rintro e w1 ⟨rfl,hb1⟩
   rw[HV.out]
   have hU:=hU0.below hb1 (by simp;try omega)
   have hR:=hR0.below hb1 (by simp;try omega)
   have hc1:=hR.c1
   have d0:=hU.c0
   have d1:=hU.c1
   have d2:=hU.c2
   have f0:=hU.free 0
   have f1:=hU.free 1
   have f2:=hU.free 2
   have hb:=hb0.trans (hb1.mono hb0.size)
   go_wp2_with fail
   refine bodyPost_ret (v:=.tuple #[.agg #[.int .i64 0,.int .i64 0,.int .i64 0],.bool false]) (by simp[results,Tryz.results24,go_sem,d0,d1,d2]) rfl ⟨rfl,?_⟩
   refine Below.setCell (Below.setCell (Below.setCell hb (by simp) _) (by simp) _) (by simp) _
 ·have hr':regB s t x=false:=by simpa using hr
  have HV:=Lib.hid hr'
  clear hr hr' h
  go_enter Tryz.func24,Tryz.ntmps24
  go_wp2_with fail
  refine(Zal s t x _).mono ?_;rintro e w1 ⟨rfl,hb1⟩
  rw[HV.out]
  have hU:=hU0.below hb1 (by simp;try omega)
  have d0:=hU.c0
  have d1:=hU.c1
  have d2:=hU.c2
  have f0:=hU.free 0
  have f1:=hU.free 1
  have f2:=hU.free 2
  have hb:=hb0.trans (hb1.mono hb0.size)
  go_wp2_with fail
  refine bodyPost_ret (v:=.tuple #[.agg #[.int .i64 0,.int .i64 0,.int .i64 0],.bool false]) (by simp[results,Tryz.results24,go_sem,d0,d1,d2]) rfl ⟨rfl,?_⟩
  refine Below.setCell (Below.setCell (Below.setCell hb (by simp) _) (by simp) _) (by simp) _
theorem Zff (s t x k:Int) (w:World):Calls Tryz.prog 24 #[.agg #[.int .i64 s,.int .i64 t,.int .i64 x],.int .i64 k] w (Zey w (jmpR s t x k)):=by
 by_cases h:Zkz s t x k=true
 ·have hr:=Z14 h
  unfold Zkz at h
  simp only[Bool.and_eq_true]at h
  obtain⟨⟨h1,h2⟩,h3⟩:=h
  have h2:=inB_iff.1 h2
  obtain⟨S,T,X,rfl,rfl,rfl,g1,g2,g3⟩:=Zbx h1
  by_cases hk:0≤k
  ·obtain⟨K,rfl⟩:=Int.eq_ofNat_of_zero_le hk
   refine(Zi6 S T X K w g1 g2 g3 (by omega)).mono ?_
   rintro e w' ⟨rfl,hb⟩
   refine⟨?_,hb⟩
   rw[hr]
   unfold jmpX
   rw[if_pos hk]
   rfl
  ·obtain⟨K,hK⟩:∃K:Nat,k= -(K:Int):=⟨(-k).toNat,by omega⟩
   have hodd:T%2=1:=by
    simp at h3
    omega
   subst hK
   refine(Zoy S T X K w g1 g2 hodd g3 (by omega)).mono ?_
   rintro e w' ⟨rfl,hb⟩
   refine⟨?_,hb⟩
   rw[hr]
   unfold jmpX
   rw[if_neg hk,Int.neg_neg]
   rfl
 ·have h':Zkz s t x k=false:=by simpa using h
  refine(Zpx s t x k w h').mono ?_
  rintro e w' ⟨rfl,hb⟩
  exact⟨by rw[Z0w h'];rfl,hb⟩
theorem Zaaa {s t:Int} (h:tapB s t=false):maxB s t=false:=by unfold maxB;rw[h];rfl
theorem Z4b {s t:Int} (h:tapB s t=true):maxB s t=decide (perR s t 1=2^s.toNat-1):=by unfold maxB;rw[h];rfl
theorem Zt0 {s t:Int} (h:tapB s t=true):∃S:Nat,s=S∧(2≤S∧S≤8)∧(1≤t∧t≤((2^S:Nat):Int)-1):=by
 unfold tapB at h
 rw[Bool.and_eq_true]at h
 have h1:=inB_iff.1 h.1
 obtain⟨S,rfl⟩:=Int.eq_ofNat_of_zero_le (show 0≤s by omega)
 have h2:=inB_iff.1 h.2
 rw[show((S:Int)).toNat=S from rfl,show(2:Int)^S=((2^S:Nat):Int)by rw[Int.natCast_pow];rfl]at h2
 exact⟨S,rfl,by omega,h2⟩
theorem per_bd (s t x:Int): -1≤perR s t x∧perR s t x≤300:=by
 unfold perR
 split
 ·next h=>
  obtain⟨S,T,X,rfl,rfl,rfl,h1,h2,h3⟩:=Zbx h
  obtain⟨a,b⟩:=Znu (t:=T) h1 h3
  have:=Zl5 b
  show -1≤(orbN (rgQ S T X):Int)-(orbI (rgQ S T X):Int)∧(orbN (rgQ S T X):Int)-(orbI (rgQ S T X):Int)≤300
  omega
 ·omega
theorem iwrp1 {P:Nat} (h:1≤P∧P≤256):IntKind.i64.wrap ((P:Int)-1)=(P:Int)-1:=IntWalk.i64_in _ (by omega)
theorem Zuq {s:Nat} (h:s≤8):IntKind.i64.wrap ((2:Int)^s)=((2^s:Nat):Int):=by
 have hp:(2:Int)^s=((2^s:Nat):Int):=by rw[Int.natCast_pow];rfl
 have:=Zaw h
 rw[hp];exact IntWalk.i64_in _ (by omega)
theorem Zlv (s t:Int) (w:World):Calls Tryz.prog 260 #[.int .i64 s,.int .i64 t] w fun e w'=>e= .returned (.bool (maxB s t))∧Below w.heap.size w w':=by
 by_cases ht:tapB s t=true
 ·have hr:=Lib.hid (Z4b ht)
  have HT:=Lib.hid ht
  obtain⟨S,rfl,hs,_⟩:=Zt0 ht
  have hb:=Zaw hs.2
  have HP:=Lib.hid (Zn4 S t 1)
  have hc1:=Zuq hs.2
  have hc2:=iwrp1 hb
  have HE:=Lib.hid (show(2:Int)^((S:Int)).toNat-1=((2^S:Nat):Int)-1 by rw[show((S:Int)).toNat=S from rfl,show(2:Int)^S=((2^S:Nat):Int)by rw[Int.natCast_pow];rfl])
  generalize perR S t 1=p at*
  rw[HE.out]at hr
  clear HE
  generalize 2^S=P at*
  clear ht
  have hs9:S<64:=by omega
  go_enter Tryz.func260,Tryz.ntmps260
  go_wp2_with fail
  go_region_with (first|(go_at_call 159;refine(Zg5 _ _ _).mono ?_;rintro e w' ⟨rfl,rfl⟩;rw[HT.out])|(go_at_call 30;refine(HP.out _).mono ?_;rintro e w1 ⟨rfl,hb1⟩))
  all_goals
   have hbz:=(Below.drew (Below.refl w.heap.size w)).trans hb1
   clear hc1 hc2 hb1
   go_wp2_with fail
   go_ret
   exact⟨Zav (by rw[hr.out];rfl),hbz⟩
 ·have ht':tapB s t=false:=by simpa using ht
  have hr:=Lib.hid (Zaaa ht')
  have HT:=Lib.hid (fun c=>(show Calls Tryz.prog 159 #[.int .i64 s,.int .i64 t] c fun e w'=>e= .returned (.bool false)∧c=w' by rw[←ht'];exact Zg5 s t c))
  clear ht ht'
  go_enter Tryz.func260,Tryz.ntmps260
  go_wp2_with fail
  go_quiet ((go_at_call 159;exact Zd7 (HT.out _)))
  go_wp2_with fail
  go_ret
  exact⟨Zav hr.out.symm,below_drewN (Below.refl _ _) _⟩
theorem Zr2 (s t:Int) (w:World) (ht:tapB s t=true):Calls Tryz.prog 275 #[.int .i64 s,.int .i64 t] w fun e w'=>e= .returned (.bool (maxB s t))∧Below w.heap.size w w':=by
 have hr:=Lib.hid (Z4b ht)
 obtain⟨S,rfl,hs,_⟩:=Zt0 ht
 have hb:=Zaw hs.2
 have HP:=Lib.hid (Zql S t 1)
 have hpb:=per_bd S t 1
 have HE:=Lib.hid (show(2:Int)^((S:Int)).toNat-1=((2^S:Nat):Int)-1 by rw[show((S:Int)).toNat=S from rfl,show(2:Int)^S=((2^S:Nat):Int)by rw[Int.natCast_pow];rfl])
 have HTW:=Lib.hid (show ∀w,Calls Tryz.prog 162 #[.int .i64 (S:Int)] w fun e w'=>e= .returned (.int .i64 ((2^S:Nat):Int))∧w=w' from fun w=>by
  have h:=Zdd (S:Int) w (by omega)
  have e:((2^S:Nat):Int)=(2:Int)^S:=by rw[Int.natCast_pow];rfl
  rw[e];exact h)
 generalize perR S t 1=p at*
 rw[HE.out]at hr
 clear HE ht
 generalize 2^S=P at*
 have hR0:=Za4 w S t 1
 have hb0:Below w.heap.size w (w.alloc (.cells #[.int .i64 S,.int .i64 t,.int .i64 1] 46)):=(Below.refl _ _).alloc (Nat.le_refl _) _
 have c0:=hR0.c0
 have c1:=hR0.c1
 have c2:=hR0.c2
 go_enter Tryz.func275,Tryz.ntmps275
 go_wp2_with fail
 refine(HP.out _).mono ?_;rintro e w1 ⟨rfl,hb1⟩
 have hbz:=hb0.trans (hb1.mono hb0.size)
 go_wp2_with fail
 refine(HTW.out _).mono ?_;rintro e w' ⟨rfl,rfl⟩
 go_wp2_with fail
 go_ret
 exact⟨Zav (by rw[hr.out];rfl),hbz⟩
theorem Zjm (s t:Int) (w:World):Calls Tryz.prog 309 #[.int .i64 s,.int .i64 t] w fun e w'=>e= .returned (.bool (maxB s t))∧Below w.heap.size w w':=by
 by_cases ht:tapB s t=true
 ·have HT:=Lib.hid ht
  have HM:=Lib.hid (fun c=>Zr2 s t c ht)
  clear ht
  go_enter Tryz.func309,Tryz.ntmps309
  go_wp2_with fail
  refine(Zkr _ _ _).mono ?_;rintro e w' ⟨rfl,rfl⟩
  rw[HT.out]
  go_wp2_with fail
  refine(HM.out _).mono ?_;rintro e w1 ⟨rfl,hb1⟩
  go_wp2_with fail
  go_ret
  exact⟨rfl,hb1⟩
 ·have ht':tapB s t=false:=by simpa using ht
  have hr:=Lib.hid (Zaaa ht')
  have HT:=Lib.hid ht'
  clear ht ht'
  go_enter Tryz.func309,Tryz.ntmps309
  go_wp2_with fail
  refine(Zkr _ _ _).mono ?_;rintro e w' ⟨rfl,rfl⟩
  rw[HT.out]
  go_wp2_with fail
  go_ret
  exact⟨Zav hr.out.symm,Below.refl _ _⟩
theorem Zab3 {s:Int} (h:inB s 2 8=false):mxtR s=[]:=by unfold mxtR;rw[h];rfl
theorem Z13 {S:Nat} (h:inB (S:Int) 2 8=true):mxtR S=mxtL S (2^S-1):=by unfold mxtR;rw[if_pos h];rfl
theorem Zmm (s:Int) (w:World):Calls Tryz.prog 203 #[.int .i64 s] w (Zdw w (mxtR s)):=by
 by_cases hi:inB s 2 8=true
 ·have hs:=inB_iff.1 hi
  obtain⟨S,rfl⟩:=Int.eq_ofNat_of_zero_le (show 0≤s by omega)
  have hr:=Lib.hid (Z13 hi)
  have hb:=Zaw (s:=S) (by omega)
  have hc1:=Zuq (s:=S) (by omega)
  have hc2:=wrp2 (s:=S) (by omega)
  have HM:=Lib.hid (Zlv S)
  have ho0:OwnV (w.alloc (.cells #[] 3)) w.heap.size (.slice (some ⟨w.heap.size,0,none⟩) 0 0) []:=OwnV.made0 w (Nat.le_refl _)
  have hb0:Below w.heap.size w (w.alloc (.cells #[] 3)):=(Below.refl _ _).alloc (Nat.le_refl _) _
  generalize 2^S=P at*
  clear hi
  go_enter Tryz.func203,Tryz.ntmps203
  go_wp2_with fail
  go_loopw [3,4] (fun v i wr=>∃k:Nat,k≤P-1∧i= .int .i64 ((k+1:Nat):Int)∧OwnV wr w.heap.size v (mxtL S k)∧Below w.heap.size w wr) (fun _ i _=>300-(intOf i).toNat)
  case atStart=>exact⟨0,Nat.zero_le _,rfl,ho0,hb0⟩
  case round=>
   clear ho0 hb0
   obtain⟨k,hk,rfl,ho,hbw⟩:=hrel
   have HLN:=Lib.hid (Zwt S k)
   by_cases hlt:k+1<P
   ·have hz:=hbw.size
    cases hm:maxB (S:Int) ((k+1:Nat):Int)with
    |true=>
     have HY:=Lib.hid (Z2a hm)
     have HMM:=Lib.hid (show maxB (S:Int) ((k:Int)+1)=true from hm)
     clear hm
     go_wp2_with fail
     refine(HM.out _ _).mono ?_;rintro e w2 ⟨rfl,hb2⟩
     rw[HMM.out]
     have ho2:OwnV w2 w.heap.size _ _:=Zam ho hb2 fun j hj=>(ho.lt j hj).2
     have hb3:=hbw.trans (hb2.mono hbw.size)
     have hz3:=hb3.size
     clear ho hbw hb2
     go_wp2_with (at_builtin;refine Zqp w2 rfl (.tmp 21) (.tmp 23) rfl w.heap.size _ (mxtL S k) ((k+1:Nat):Int) rfl ho2 rfl (by have:=HLN.out;omega) hz3 ?_;intro v' w3 ho3 _ hb4)
     have hb5:=hb3.trans hb4
     rw[←HY.out]at ho3
     clear ho2 hb3 hb4
     go_roundw
     case rel=>exact⟨k+1,by omega,by go_num,ho3,hb5⟩
     case measure=>simp[intOf];omega
    |false=>
     have HY:=Lib.hid (Z9m hm)
     have HMM:=Lib.hid (show maxB (S:Int) ((k:Int)+1)=false from hm)
     clear hm
     go_wp2_with fail
     refine(HM.out _ _).mono ?_;rintro e w2 ⟨rfl,hb2⟩
     rw[HMM.out]
     have ho2:OwnV w2 w.heap.size _ _:=Zam ho hb2 fun j hj=>(ho.lt j hj).2
     have hb3:=hbw.trans (hb2.mono hbw.size)
     rw[←HY.out]at ho2
     clear ho hbw hb2
     go_wp2_with fail
     go_roundw
     case rel=>exact⟨k+1,by omega,by go_num,ho2,hb3⟩
     case measure=>simp[intOf];omega
   ·obtain rfl:P=k+1:=by omega
    rw[Nat.add_sub_cancel]at hr
    obtain⟨a1,n1,c1,hv,ho1⟩:=ho.own (by have:=HLN.out;omega)
    subst hv
    go_wp2_with fail
    go_ret
    exact⟨_,_,_,rfl,by rw[hr.out];exact ho1,hbw⟩
 ·have hi':inB s 2 8=false:=by simpa using hi
  have hr:=Lib.hid (Zab3 hi')
  have hcase:s<2∨8<s:=by
   have:¬(2≤s∧s≤8):=fun e=>hi (inB_iff.2 e)
   omega
  have HC:=Lib.hid hcase
  clear hi hi' hcase
  rcases HC.out with h1|h1
  ·go_enter Tryz.func203,Tryz.ntmps203
   go_wp2_with fail
   go_ret
   exact⟨none,0,0,rfl,by rw[hr.out];exact⟨rfl,by omega,World.ownsRow_nil _ _ _ _⟩,Below.refl _ _⟩
  ·go_enter Tryz.func203,Tryz.ntmps203
   go_wp2_with fail
   go_ret
   exact⟨none,0,0,rfl,by rw[hr.out];exact⟨rfl,by omega,World.ownsRow_nil _ _ _ _⟩,Below.refl _ _⟩
theorem Zk4 (s:Int) (w:World):Calls Tryz.prog 222 #[.int .i64 s] w (Zdw w (mxtR s)):=by
 have ho0:OwnV (w.alloc (.cells #[] 3)) w.heap.size (.slice (some ⟨w.heap.size,0,none⟩) 0 0) []:=OwnV.made0 w (Nat.le_refl _)
 have hb0:Below w.heap.size w (w.alloc (.cells #[] 3)):=(Below.refl _ _).alloc (Nat.le_refl _) _
 by_cases hi:inB s 2 8=true
 ·have hs:=inB_iff.1 hi
  obtain⟨S,rfl⟩:=Int.eq_ofNat_of_zero_le (show 0≤s by omega)
  have hr:=Lib.hid (Z13 hi)
  have hb:=Zaw (s:=S) (by omega)
  have HTB:=Lib.hid (fun(k:Nat)=>show tapB (S:Int) ((k+1:Nat):Int)=decide (k+1<2^S)by
   unfold tapB
   rw[hi,Bool.true_and,show((S:Int)).toNat=S from rfl,show(2:Int)^S=((2^S:Nat):Int)by rw[Int.natCast_pow];rfl,Bool.eq_iff_iff,inB_iff,decide_eq_true_eq]
   omega)
  have HM:=Lib.hid (Zr2 S)
  have HT:=Lib.hid (Zkr S)
  generalize 2^S=P at*
  clear hi
  go_enter Tryz.func222,Tryz.ntmps222
  go_wp2_with fail
  go_loopw [3,4] (fun v i wr=>∃k:Nat,k≤P-1∧i= .int .i64 ((k+1:Nat):Int)∧OwnV wr w.heap.size v (mxtL S k)∧Below w.heap.size w wr) (fun _ i _=>300-(intOf i).toNat)
  case atStart=>exact⟨0,Nat.zero_le _,rfl,ho0,hb0⟩
  case round=>
   clear ho0 hb0
   obtain⟨k,hk,rfl,ho,hbw⟩:=hrel
   have HLN:=Lib.hid (Zwt S k)
   by_cases hlt:k+1<P
   ·have hz:=hbw.size
    have HTK:=Lib.hid (show tapB (S:Int) ((k:Int)+1)=true from(HTB.out k).trans (decide_eq_true hlt))
    cases hm:maxB (S:Int) ((k+1:Nat):Int)with
    |true=>
     have HY:=Lib.hid (Z2a hm)
     have HMM:=Lib.hid (show maxB (S:Int) ((k:Int)+1)=true from hm)
     clear hm
     go_wp2_with fail
     refine(HT.out _ _).mono ?_;rintro e w' ⟨rfl,rfl⟩
     rw[HTK.out]
     go_wp2_with fail
     refine(HM.out _ _ HTK.out).mono ?_;rintro e w2 ⟨rfl,hb2⟩
     rw[HMM.out]
     have ho2:OwnV w2 w.heap.size _ _:=Zam ho hb2 fun j hj=>(ho.lt j hj).2
     have hb3:=hbw.trans (hb2.mono hbw.size)
     have hz3:=hb3.size
     clear ho hbw hb2
     go_wp2_with (at_builtin;refine Zqp w2 rfl (.tmp 14) (.tmp 16) rfl w.heap.size _ (mxtL S k) ((k+1:Nat):Int) rfl ho2 rfl (by have:=HLN.out;omega) hz3 ?_;intro v' w3 ho3 _ hb4)
     have hb5:=hb3.trans hb4
     rw[←HY.out]at ho3
     clear ho2 hb3 hb4
     go_roundw
     case rel=>exact⟨k+1,by omega,by go_num,ho3,hb5⟩
     case measure=>simp[intOf];omega
    |false=>
     have HY:=Lib.hid (Z9m hm)
     have HMM:=Lib.hid (show maxB (S:Int) ((k:Int)+1)=false from hm)
     clear hm
     go_wp2_with fail
     refine(HT.out _ _).mono ?_;rintro e w' ⟨rfl,rfl⟩
     rw[HTK.out]
     go_wp2_with fail
     refine(HM.out _ _ HTK.out).mono ?_;rintro e w2 ⟨rfl,hb2⟩
     rw[HMM.out]
     have ho2:OwnV w2 w.heap.size _ _:=Zam ho hb2 fun j hj=>(ho.lt j hj).2
     have hb3:=hbw.trans (hb2.mono hbw.size)
     rw[←HY.out]at ho2
     clear ho hbw hb2
     go_wp2_with fail
     go_roundw
     case rel=>exact⟨k+1,by omega,by go_num,ho2,hb3⟩
     case measure=>simp[intOf];omega
   ·obtain rfl:P=k+1:=by omega
    rw[Nat.add_sub_cancel]at hr
    have HTK:=Lib.hid (show tapB (S:Int) ((k:Int)+1)=false from(HTB.out k).trans (decide_eq_false hlt))
    obtain⟨a1,n1,c1,hv,ho1⟩:=ho.own (by have:=HLN.out;omega)
    subst hv
    go_wp2_with fail
    refine(HT.out _ _).mono ?_;rintro e w' ⟨rfl,rfl⟩
    rw[HTK.out]
    go_wp2_with fail
    go_ret
    exact⟨_,_,_,rfl,by rw[hr.out];exact ho1,hbw⟩
 ·have hi':inB s 2 8=false:=by simpa using hi
  have hr:=Lib.hid (Zab3 hi')
  have HTK:=Lib.hid (show tapB s 1=false by unfold tapB;rw[hi'];rfl)
  clear hi hi'
  go_enter Tryz.func222,Tryz.ntmps222
  go_wp2_with fail
  refine wp_loop_rounds 1 ?_
  rw[rounds_succ]
  go_wp2_with fail
  refine(Zkr _ _ _).mono ?_;rintro e w' ⟨rfl,rfl⟩
  rw[HTK.out]
  obtain⟨a1,n1,c1,hv,ho1⟩:=ho0.own (by simp)
  cases hv
  go_wp2_with fail
  go_ret
  exact⟨_,_,_,rfl,by rw[hr.out];exact ho1,hb0⟩
theorem Z49 {b:ByteArray} {i:Nat} (h:i<b.size) (h1:b[i].toNat=49):frmX b (i+1)=frmX b i+2^i:=by
 show frmX b i+((Zab b).getD i 0-48).toNat*2^i=_
 rw[Zfj h,h1];simp
theorem Zyt {b:ByteArray} {i:Nat} (h:i<b.size) (h1:b[i].toNat=48):frmX b (i+1)=frmX b i:=by
 show frmX b i+((Zab b).getD i 0-48).toNat*2^i=_
 rw[Zfj h,h1];simp
theorem Zxj {b:ByteArray} (hb:∀x∈Zab b,Za7 x) {i:Nat} (h:i<b.size):b[i].toNat=48∨b[i].toNat=49:=by
 have hk:i<(Zab b).length:=by rw[Zac];exact h
 have:=hb _ (List.getElem_mem hk)
 rw[Zcj b h]at this
 rcases this with e|e
 ·exact .inl (by omega)
 ·exact .inr (by omega)
theorem Zaj8 {x i:Nat} (hi:i≤8) (hx:x<2^i):bits .or .i64 (x:Int) ((2^i:Nat):Int)=((x+2^i:Nat):Int):=by
 have hp:=Zaw hi
 rw[Z74 x (2^i) (by omega) (by omega),Nat.or_comm,nat_join i (2^i) x (Nat.mod_self _) hx,Nat.add_comm]
theorem Zw0 (S t:Nat) (b:ByteArray) (w:World) (hs:2≤S∧S≤8) (hz:S≤b.size) (hz2:b.size≤1000) (hb:∀x∈Zab b,Za7 x):
 Calls Tryz.prog 83 #[.int .i64 S,.int .i64 t,.string b] w fun e w'=>e= .returned (.agg #[.int .i64 S,.int .i64 t,.int .i64 (frmX b S)])∧Below w.heap.size w w':=by
 have HB:=Lib.hid (fun i (h:i<b.size)=>Zxj hb h)
 have HL:=Lib.hid (fun i=>Zp3 hb i)
 clear hb
 have hU0:=(Zbs w 0 0 0 S t 0).1
 have hR0:=(Zbs w 0 0 0 S t 0).2
 have hb0:Below w.heap.size w ((w.alloc (.cells #[.int .i64 0,.int .i64 0,.int .i64 0] 46)).alloc (.cells #[.int .i64 S,.int .i64 t,.int .i64 0] 46)):=((Below.refl _ _).alloc (Nat.le_refl _) _).alloc (by simp) _
 go_enter Tryz.func83,Tryz.ntmps83
 go_wp2_with fail
 go_loopw [13] (fun i wr=>∃k:Nat,k≤S∧i= .int .i64 k∧RegAt wr w.heap.size 0 0 0∧RegAt wr (w.heap.size+1) S t (frmX b k:Nat)∧Below w.heap.size w wr) (fun i _=>S-(intOf i).toNat)
 case atStart=>exact⟨0,Nat.zero_le _,rfl,hU0,hR0,hb0⟩
 case round=>
  clear hU0 hR0 hb0
  obtain⟨k,hk,rfl,hU,hR,hbw⟩:=hrel
  by_cases hlt:k<S
  ·have hkb:k<b.size:=by omega
   rcases HB.out k hkb with h48|h49
   ·have HN:=Lib.hid (Zyt hkb h48)
    have h48':(b[k].toNat:Int)=48:=by omega
    clear h48
    rw[←HN.out]at hR
    go_wp2_with fail
    go_roundw
    case rel=>exact⟨k+1,by omega,by go_num,hU,hR,hbw⟩
    case measure=>simp[intOf];omega
   ·have HN:=Lib.hid (Z49 hkb h49)
    have h49':(b[k].toNat:Int)=49:=by omega
    have hor:=Zaj8 (by omega) (HL.out k)
    have hx:=HL.out k
    have hp:=Zaw (s:=k) (by omega)
    have hw1:=wrp2 (s:=k) (by omega)
    have hw2:=Zuq (s:=k) (by omega)
    clear h49
    have hR1:RegAt wr.drew (w.heap.size+1) S t (frmX b k:Nat):=hR
    have hU1:RegAt wr.drew w.heap.size 0 0 0:=hU
    have hbw1:Below w.heap.size w wr.drew:=Below.drew hbw
    have hR2:=hR1.set2 (frmX b (k+1):Nat)
    have hU2:=hU1.other (a:=⟨w.heap.size+1,2,none⟩) (by simp) (.int .i64 (frmX b (k+1):Nat))
    have hb2:=hbw1.setCell (p:=⟨w.heap.size+1,2,none⟩) (by simp) (.int .i64 (frmX b (k+1):Nat))
    rw[HN.out]at hR2 hU2 hb2
    have c2:=hR.c2
    have e2:=hR1.free 2
    have e3:=hR1.c2
    generalize frmX b k=x at*
    generalize 2^k=p at*
    clear hR hU hbw hR1 hU1 hbw1
    go_wp2_with fail
    go_still_tail 6,(by kernel_rfl)
    change wpList _ _ _ _ _ wr.drew
    clear hw1 hw2 hor
    go_wp2_with fail
    refine⟨⟨k+1,by omega,rfl,hU2,?_,hb2⟩,by simp[intOf];omega⟩
    rw[HN.out]
    exact hR2
  ·obtain rfl:k=S:=by omega
   have c0:=hR.c0
   have c1:=hR.c1
   have c2:=hR.c2
   have d0:=hU.c0
   have d1:=hU.c1
   have d2:=hU.c2
   have f0:=hU.free 0
   have f1:=hU.free 1
   have f2:=hU.free 2
   go_wp2_with fail
   refine bodyPost_ret (v:=.agg #[.int .i64 k,.int .i64 t,.int .i64 (frmX b k:Nat)]) (by simp[results,Tryz.results83,go_sem,d0,d1,d2]) rfl ⟨rfl,?_⟩
   refine Below.setCell (Below.setCell (Below.setCell hbw (by simp) _) (by simp) _) (by simp) _
theorem Zad2 {b:ByteArray} {k x:Nat} (h:k<b.size) (h1:b[k].toNat=48∨b[k].toNat=49):(2*x+(b[k].toNat-48))*2^k+frmX b k=x*2^(k+1)+frmX b (k+1):=by
 rcases h1 with e|e
 ·rw[Zyt h e,e,Nat.pow_succ]
  simp[Nat.mul_comm,Nat.mul_assoc]
 ·rw[Z49 h e,e,Nat.pow_succ,Nat.add_mul]
  simp[Nat.mul_comm,Nat.mul_assoc]
  omega
theorem Zaep (S t:Nat) (b:ByteArray) (w:World) (hs:2≤S∧S≤8) (hz:S≤b.size) (hz2:b.size≤1000) (hb:∀x∈Zab b,Za7 x):
 Calls Tryz.prog 274 #[.int .i64 S,.int .i64 t,.string b] w fun e w'=>e= .returned (.agg #[.int .i64 S,.int .i64 t,.int .i64 (frmX b S)])∧Below w.heap.size w w':=by
 have HB:=Lib.hid (fun i (h:i<b.size)=>Zxj hb h)
 have HL:=Lib.hid (Zp3 hb S)
 clear hb
 have hU0:=(Zbs w 0 0 0 S t 0).1
 have hR0:=(Zbs w 0 0 0 S t 0).2
 have hb0:Below w.heap.size w ((w.alloc (.cells #[.int .i64 0,.int .i64 0,.int .i64 0] 46)).alloc (.cells #[.int .i64 S,.int .i64 t,.int .i64 0] 46)):=((Below.refl _ _).alloc (Nat.le_refl _) _).alloc (by simp) _
 have hpS:=Zaw hs.2
 go_enter Tryz.func274,Tryz.ntmps274
 go_wp2_with fail
 go_loopw [8] (fun i wr=>∃k x:Nat,k≤S∧i= .int .i64 ((k:Int)-1)∧RegAt wr w.heap.size 0 0 0∧RegAt wr (w.heap.size+1) S t (x:Nat)∧Hid (x*2^k+frmX b k=frmX b S)∧Below w.heap.size w wr) (fun i _=>(intOf i+1).toNat)
 case atStart=>exact⟨S,0,Nat.le_refl _,rfl,hU0,hR0,Lib.hid (by simp),hb0⟩
 case round=>
  clear hU0 hR0 hb0
  obtain⟨k,x,hk,rfl,hU,hR,HX,hbw⟩:=hrel
  by_cases hlt:0<k
  ·obtain⟨j,rfl⟩:∃j,k=j+1:=⟨k-1,by omega⟩
   have hkb:j<b.size:=by omega
   have hx9:x<256:=by
    have h1:=HX.out
    have h2:=HL.out
    have h3:x*1≤x*2^(j+1):=Nat.mul_le_mul_left _ Nat.one_le_two_pow
    omega
   have hbt:=HB.out j hkb
   have HN:=Lib.hid ((Zad2 (x:=x) hkb hbt).trans HX.out)
   obtain⟨v,hv⟩:∃v:Nat,b[j].toNat=v+48:=⟨b[j].toNat-48,by omega⟩
   have hv1:v≤1:=by omega
   rw[hv,Nat.add_sub_cancel]at HN
   have hbi:(b[j].toNat:Int)=(v:Int)+48:=by omega
   have w1:IntKind.i64.wrap (2*(x:Int))=2*(x:Int):=IntWalk.i64_in _ (by omega)
   have w2:IntKind.i64.wrap (2*(x:Int)+((v:Int)+48))=2*(x:Int)+((v:Int)+48):=IntWalk.i64_in _ (by omega)
   have w3:IntKind.i64.wrap (2*(x:Int)+((v:Int)+48)-48)=2*(x:Int)+(v:Int):=by rw[IntWalk.i64_in _ (by omega)];omega
   have w4:(((j+1:Nat):Int)-1)=(j:Int):=by omega
   clear hbt hv
   rw[w4]
   clear w4
   have hR1:RegAt wr.drew (w.heap.size+1) S t (x:Nat):=hR
   have hU1:RegAt wr.drew w.heap.size 0 0 0:=hU
   have hbw1:Below w.heap.size w wr.drew:=Below.drew hbw
   have hR2:=hR1.set2 (2*x+v:Nat)
   have hU2:=hU1.other (a:=⟨w.heap.size+1,2,none⟩) (by simp) (.int .i64 (2*x+v:Nat))
   have hb2:=hbw1.setCell (p:=⟨w.heap.size+1,2,none⟩) (by simp) (.int .i64 (2*x+v:Nat))
   have c2:=hR.c2
   have e2:=hR1.free 2
   have e3:=hR1.c2
   clear hR hU hbw hR1 hU1 hbw1
   go_wp2_with fail
   go_still_tail 10,(by kernel_rfl)
   change wpList _ _ _ _ _ wr.drew
   clear w1 w2 w3
   go_wp2_with fail
   rw[show(2*(x:Int)+((v:Int)+48)-48)=((2*x+v:Nat):Int)by omega]
   refine⟨⟨j,2*x+v,by omega,rfl,hU2,hR2,HN,hb2⟩,?_⟩
   simp[intOf];try omega
  ·obtain rfl:k=0:=by omega
   have hx:x=frmX b S:=by
    have h1:=HX.out
    have h2:frmX b 0=0:=rfl
    omega
   subst hx
   have c0:=hR.c0
   have c1:=hR.c1
   have c2:=hR.c2
   have d0:=hU.c0
   have d1:=hU.c1
   have d2:=hU.c2
   have f0:=hU.free 0
   have f1:=hU.free 1
   have f2:=hU.free 2
   go_wp2_with fail
   refine bodyPost_ret (v:=.agg #[.int .i64 S,.int .i64 t,.int .i64 (frmX b S:Nat)]) (by simp[results,Tryz.results274,go_sem,d0,d1,d2]) rfl ⟨rfl,?_⟩
   refine Below.setCell (Below.setCell (Below.setCell hbw (by simp) _) (by simp) _) (by simp) _
end Go.Proofs.YtcjihfongfefoaaGreatDoor
