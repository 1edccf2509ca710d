/- Ka Kc -/
import Derived.Test.YtcjihfongfefoaaGreatDoorJ07
import Derived.Lib.Strings
namespace Go.Proofs.YtcjihfongfefoaaGreatDoor
open Go.RowKit
set_option maxHeartbeats 25600000
theorem Zsj {a b:ByteArray} (h:a.data.toList=b.data.toList):a=b:=by
 cases a;cases b;congr;exact Array.ext' h
theorem Zea (s:ByteArray) (a b:Nat):(s.extract a b).data.toList=(s.data.toList.drop a).take (b-a):=by
 rw[ByteArray.data_extract,Array.toList_extract]
theorem Zhs (s t:ByteArray):(s++t).data.toList=s.data.toList++t.data.toList:=by rw[ByteArray.data_append,Array.toList_append]
theorem Zdz (s:ByteArray):s.data.toList.length=s.size:=by simp
theorem Zap (s t:ByteArray):(s++t).size=s.size+t.size:=by rw[←Zdz,Zhs,List.length_append,Zdz,Zdz]
theorem Zbc {s:ByteArray} {a b:Nat} (h:b≤s.size):(s.extract a b).size=b-a:=by
 rw[←Zdz,Zea,List.length_take,List.length_drop,Zdz];omega
theorem Zls (p:UInt8→Bool) (s t:ByteArray):allS p (s++t)=(allS p s&&allS p t):=by
 unfold allS;rw[Zhs,List.all_append]
theorem Zeb {p:UInt8→Bool} {s:ByteArray} (a b:Nat) (h:allS p s=true):allS p (s.extract a b)=true:=by
 unfold allS at*
 rw[Zea,List.all_eq_true]
 rw[List.all_eq_true]at h
 exact fun x hx=>h x (List.mem_of_mem_drop (List.mem_of_mem_take hx))
theorem Zb5 {s:ByteArray} (h:Zan s=true):allS bitC s=true:=by unfold Zan at h;rw[Bool.and_eq_true]at h;exact h.2
theorem Zcm {s:ByteArray} (h:Zan s=true):s.size≤600:=by unfold Zan at h;rw[Bool.and_eq_true]at h;exact of_decide_eq_true h.1
theorem Zd9 {s:ByteArray} (h1:s.size≤600) (h2:allS bitC s=true):Zan s=true:=by unfold Zan;rw[h2,decide_eq_true h1];rfl
theorem Zgs {s:ByteArray} {i:Nat} (h:allS bitC s=true) (hi:i<s.size):s[i].toNat=48∨s[i].toNat=49:=by
 have h2:bitC s[i]=true:=by
  cases hb:bitC s[i]with
  |true=>rfl
  |false=>rw[Ze7 hi hb]at h;cases h
 unfold bitC at h2
 simp at h2
 omega
def dig (c:UInt8):Nat:=c.toNat-48
def Zjd (x:Nat) (c:UInt8):Nat:=if dig c ^^^ (x/128)=1 then(x*2%256) ^^^ 7 else x*2%256
def crcK (s:ByteArray) (k:Nat):Nat:=(s.data.toList.take k).foldl Zjd 0
theorem Z9b (s:ByteArray):crcK s 0=0:=rfl
theorem Zqk {s:ByteArray} {k:Nat} (h:k<s.size):crcK s (k+1)=Zjd (crcK s k) s[k]:=by
 unfold crcK;rw[Zn0 s k h,List.foldl_append];rfl
theorem Z68 (x:Nat) (c:UInt8):Zjd x c<256:=by
 unfold Zjd
 split
 ·exact Nat.xor_lt_two_pow (n:=8) (by omega) (by omega)
 ·omega
theorem Zzn (s:ByteArray):∀k,k≤s.size→crcK s k<256
 |0,_=>by rw[Z9b];omega
 |k+1,h=>by rw[Zqk (show k<s.size by omega)];exact Z68 _ _
def crcN (s:ByteArray):Nat:=crcK s s.size
theorem Z7e (s:ByteArray):crcN s<256:=Zzn s _ (Nat.le_refl _)
theorem Z22 {x:Nat} {c:UInt8} (h:dig c=x/128):Zjd x c=x*2%256:=by
 unfold Zjd;rw[h,Nat.xor_self];rfl
theorem Z4h {x:Nat} {c:UInt8} (hx:x<256) (hc:dig c≤1) (h:¬dig c=x/128):Zjd x c=(x*2%256) ^^^ 7:=by
 unfold Zjd
 have h2:(dig c=0∧x/128=1)∨(dig c=1∧x/128=0):=by omega
 rcases h2 with ⟨e1,e2⟩|⟨e1,e2⟩<;>rw[e1,e2]<;>rfl
def Zo0 (n d i:Nat):ByteArray:=text ((binL n d).drop (d-i))
theorem Z9e (n d:Nat):Zo0 n d 0=⟨#[]⟩:=by
 unfold Zo0;rw[List.drop_of_length_le (by rw[Zhm];omega)];rfl
theorem Zafo (n d:Nat):Zo0 n d d=binT n d:=by unfold Zo0 binT;rw[Nat.sub_self,List.drop_zero]
theorem Zacm {n d i:Nat} (h:i<d):text [((48+n/2^i%2:Nat):Int)]++Zo0 n d i=Zo0 n d (i+1):=by
 unfold Zo0
 rw[Ze3]
 congr 1
 have hl:d-(i+1)<(binL n d).length:=by rw[Zhm];omega
 rw[List.drop_eq_getElem_cons hl,Zpd,show d-(i+1)+1=d-i by omega]
 unfold bitN
 rw[show d-1-(d-(i+1))=i by omega];rfl
theorem Zacv (n d i:Nat) (h:i≤d):(Zo0 n d i).size=i:=by
 unfold Zo0;rw[Zaq,List.length_drop,Zhm];omega
theorem Zyl (n d:Nat):allS bitC (binT n d)=true:=by
 unfold allS binT text binL
 rw[List.all_eq_true]
 intro x hx
 simp only[List.mem_map]at hx
 obtain⟨y,⟨i,_,rfl⟩,rfl⟩:=hx
 have:=Zwp n d i
 have h2:bitN n d i=0∨bitN n d i=1:=by omega
 rcases h2 with e|e<;>rw[e]<;>rfl
def markT:ByteArray:=⟨#[49,49,49,48,49,48,48,48]⟩
def Zet (p:ByteArray):ByteArray:=binT p.size 7++p
def Zas (p:ByteArray):ByteArray:=markT++Zet p++binT (crcN (Zet p)) 8
def payB (p:ByteArray):Bool:=decide (p.size≤100)&&Zan p
theorem Zkx (p:ByteArray):(Zet p).size=7+p.size:=by unfold Zet;rw[Zap,Zdn]
theorem Zcp (p:ByteArray):(Zas p).size=23+p.size:=by
 unfold Zas;rw[Zap,Zap,Zkx,Zdn,show markT.size=8 from rfl];omega
theorem Znz {p:ByteArray} (h:payB p=true):Zan (Zet p)=true:=by
 unfold payB at h;rw[Bool.and_eq_true,decide_eq_true_eq]at h
 refine Zd9 (by rw[Zkx];omega) ?_
 unfold Zet;rw[Zls,Zyl,Zb5 h.2];rfl
theorem Zsx {p:ByteArray} (h:payB p=true):allS bitC (Zas p)=true:=by
 unfold Zas
 rw[Zls,Zls,Zb5 (Znz h),Zyl];rfl
theorem Znt (p:ByteArray):(Zas p).data.toList=markT.data.toList++((Zet p).data.toList++(binT (crcN (Zet p)) 8).data.toList):=by
 unfold Zas;rw[Zhs,Zhs,List.append_assoc]
def numK (s:ByteArray) (k:Nat):Nat:=(s.data.toList.take k).foldl (fun n c=>2*n+dig c) 0
theorem Zrm {s:ByteArray} {k:Nat} (h:k<s.size):numK s (k+1)=2*numK s k+dig s[k]:=by
 unfold numK;rw[Zn0 s k h,List.foldl_append];rfl
theorem Zu9 {s:ByteArray} (h:allS bitC s=true):∀k,k≤s.size→numK s k<2^k
 |0,_=>by unfold numK;simp
 |k+1,hk=>by
  have hk2:k<s.size:=by omega
  rw[Zrm hk2,Nat.pow_succ]
  have:=Zu9 h k (by omega)
  have:=Zgs h hk2
  unfold dig;omega
theorem Zagh {n:Nat} (hn:n<128):numK (binT n 7) 7=n:=by
 have:∀n:Fin 128,numK (binT n.val 7) 7=n.val:=by decide+kernel
 exact this ⟨n,hn⟩
def Zhq (s:ByteArray) (a:Nat):Option (ByteArray×Nat):=
 if numK (s.extract (a+8) (a+15)) 7≤100∧a+23+numK (s.extract (a+8) (a+15)) 7≤s.size∧
  Zas (s.extract (a+15) (a+15+numK (s.extract (a+8) (a+15)) 7))=s.extract a (a+23+numK (s.extract (a+8) (a+15)) 7)then
  some (s.extract (a+15) (a+15+numK (s.extract (a+8) (a+15)) 7),a+23+numK (s.extract (a+8) (a+15)) 7)else none
def Zbn (s:ByteArray) (a:Int):Option (ByteArray×Nat):=if Zan s=true∧0≤a∧a.toNat+23≤s.size then Zhq s a.toNat else none
theorem Zug {s:ByteArray} {a:Int} (h:¬(Zan s=true∧0≤a∧a.toNat+23≤s.size)):Zbn s a=none:=by unfold Zbn;rw[if_neg h]
theorem Zjr {s:ByteArray} {a:Nat} (h:Zan s=true) (h2:a+23≤s.size):Zbn s a=Zhq s a:=by
 unfold Zbn;rw[if_pos ⟨h,by omega,by simpa using h2⟩];rfl
theorem at_1 {s:ByteArray} {a N:Nat} (hN:numK (s.extract (a+8) (a+15)) 7=N) (h:¬(N≤100∧a+23+N≤s.size)):Zhq s a=none:=by
 unfold Zhq;rw[hN,if_neg (fun h2=>h ⟨h2.1,h2.2.1⟩)]
theorem at_2 {s:ByteArray} {a N:Nat} (hN:numK (s.extract (a+8) (a+15)) 7=N) (h:¬Zas (s.extract (a+15) (a+15+N))=s.extract a (a+23+N)):Zhq s a=none:=by
 unfold Zhq;rw[hN,if_neg (fun h2=>h h2.2.2)]
theorem at_3 {s:ByteArray} {a N:Nat} (hN:numK (s.extract (a+8) (a+15)) 7=N) (h1:N≤100) (h2:a+23+N≤s.size) (h:Zas (s.extract (a+15) (a+15+N))=s.extract a (a+23+N)):
 Zhq s a=some (s.extract (a+15) (a+15+N),a+23+N):=by
 unfold Zhq;rw[hN,if_pos ⟨h1,h2,h⟩]
theorem Z92 {F L:List UInt8}:Lib.hasPrefix L F=true↔F=L.take F.length:=by
 unfold Lib.hasPrefix;rw[List.isPrefixOf_iff_prefix,List.prefix_iff_eq_take]
theorem Zr7 (s:ByteArray) (a:Nat):(s.extract a s.size).data.toList=s.data.toList.drop a:=by
 rw[Zea,List.take_of_length_le (by rw[List.length_drop,Zdz];omega)]
theorem Zaj9 {s:ByteArray} {a:Nat} (h:Lib.hasPrefix (s.extract a s.size).data.toList markT.data.toList=false):Zhq s a=none:=by
 obtain⟨N,hN⟩:∃N,numK (s.extract (a+8) (a+15)) 7=N:=⟨_,rfl⟩
 refine at_2 hN fun h2=>?_
 have h3:Lib.hasPrefix (s.extract a s.size).data.toList markT.data.toList=true:=by
  unfold Lib.hasPrefix
  rw[List.isPrefixOf_iff_prefix,Zr7]
  have h4:(Zas (s.extract (a+15) (a+15+N))).data.toList=(s.data.toList.drop a).take (a+23+N-a):=by rw[h2,Zea]
  rw[Znt]at h4
  exact List.IsPrefix.trans ⟨_,h4⟩ (List.take_prefix _ _)
 rw[h]at h3;cases h3
theorem Zaf0 {s:ByteArray} {a:Nat} (h:Lib.hasPrefix (s.extract a s.size).data.toList markT.data.toList=true):
 (⟨(Lib.trimPrefix (s.extract a s.size).data.toList markT.data.toList).toArray⟩:ByteArray)=s.extract (a+8) s.size:=by
 apply Zsj
 show Lib.trimPrefix _ _=_
 unfold Lib.trimPrefix
 rw[if_pos h,Zr7,Zr7,List.drop_drop]
 rfl
theorem Zadw {s:ByteArray} {a:Nat} (_h:a+15≤s.size):numK (s.extract (a+8) s.size) 7=numK (s.extract (a+8) (a+15)) 7:=by
 unfold numK;rw[Zr7,Zea,show a+15-(a+8)=7 by omega,List.take_take];rfl
theorem Zaeo {s:ByteArray} {a N:Nat} (_h:a+15+N≤s.size):(s.extract (a+8) s.size).extract 7 (7+N)=s.extract (a+15) (a+15+N):=by
 apply Zsj
 rw[Zea,Zr7,Zea,List.drop_drop,show a+8+7=a+15 by omega,show 7+N-7=a+15+N-(a+15)by omega]
theorem Zaba {s p:ByteArray} {a N:Nat} (hp:p.size=N):Lib.hasPrefix (s.extract a s.size).data.toList (Zas p).data.toList=true↔(a+23+N≤s.size∨s.size<a)∧Zas p=s.extract a (a+23+N):=by
 have hl:(Zas p).data.toList.length=23+N:=by rw[Zdz,Zcp,hp]
 rw[Z92,Zr7,hl]
 constructor
 ·intro h
  refine⟨?_,?_⟩
  ·have:=congrArg List.length h
   rw[hl,List.length_take,List.length_drop,Zdz]at this
   omega
  ·apply Zsj;rw[Zea,show a+23+N-a=23+N by omega];exact h
 ·rintro⟨_,h⟩
  have:=congrArg (fun x:ByteArray=>x.data.toList) h
  simp only[Zea]at this
  rwa [show a+23+N-a=23+N by omega]at this
theorem Zme (n d:Nat) (w:World) (hd:d≤8) (hn:n<256):Calls Tryz.prog 101 #[.int .i64 n,.int .i64 d] w fun e w'=>e= .returned (.string (binT n d))∧Below w.heap.size w w':=by
 have HL:=Lib.hid (Zhm n d)
 go_enter Tryz.func101,Tryz.ntmps101
 go_wp2_with (at_make;refine Zcd 22 5 1 (0:Int) Tryz.underlying22 Zct rfl (by decide) w rfl _ _ rfl .i64 .i64 d rfl rfl (by omega) ?_;intro w1 hown hb)
 have hF:=FillF.start hown HL.out (by simp)
 clear hown
 go_loopw [11] (fun i wr=>∃k:Nat,k≤d∧i= .int .i64 k∧Zmz wr w.heap.size w.heap.size d (binL n d) (List.replicate d 0) k∧Below w.heap.size w wr) (fun i _=>d-(intOf i).toNat)
 case atStart=>exact⟨0,Nat.zero_le _,rfl,hF,hb⟩
 case round=>
  clear hF hb
  obtain⟨k,hk,rfl,hF,hb⟩:=hrel
  by_cases hlt:k<d
  ·obtain⟨z,hc⟩:=hF.cell hlt
   have hf:=hF.free k
   have eA:bits .and .i64 ((n:Int)/2^(d-1-k)) 1=((bitN n d k:Nat):Int):=by
    have e1:(n:Int)/2^(d-1-k)=((n/2^(d-1-k):Nat):Int):=by simp
    rw[e1]
    have h1:n/2^(d-1-k)≤n:=Nat.div_le_self _ _
    have h2:=Zfd (n/2^(d-1-k)) 1 (by omega) (by omega)
    rw[show((1:Nat):Int)=1 from rfl]at h2
    rw[h2,Nat.and_one_is_mod];rfl
   have hst:=hF.step hlt (y:=.int .u8 ((48+bitN n d k:Nat):Int)) (fun hl=>by rw[Zpd hl])
   have hb2:=hF.below hb (.int .u8 ((48+bitN n d k:Nat):Int))
   have hb1:=Zwp n d k
   have EA:=Lib.hid eA
   clear eA hF hb
   go_wp2_with fail
   rw[EA.out]
   refine(Zgy _ _ hb1).mono ?_;rintro e w' ⟨rfl,rfl⟩
   generalize bitN n d k=B at*
   go_wp2_with fail
   go_roundw
   case rel=>exact⟨k+1,by omega,by go_num,hst,hb2⟩
   case measure=>simp[intOf];omega
  ·obtain rfl:k=d:=by omega
   have hd0:=hF.done (Nat.le_refl _)
   obtain⟨a1,n1,c1,e1,ho⟩:=hd0.own (by rw[HL.out];omega)
   cases e1
   have hrd:=ho.rd
   go_wp2_with (with_reducible refine Zca 22 5 9 Tryz.underlying22 Tryz.underlying5 Tryz.underlying9 _ rfl (.tmp 26) rfl rfl hrd ?_)
   go_ret
   exact⟨rfl,hb⟩
theorem Zts (n d:Nat) (w:World) (hd:d≤8) (hn:n<256):Calls Tryz.prog 243 #[.int .i64 n,.int .i64 d] w fun e w'=>e= .returned (.string (binT n d))∧Below w.heap.size w w':=by
 go_enter Tryz.func243,Tryz.ntmps243
 go_wp2_with fail
 go_loopw [0,5,6] (fun x s i wr=>∃k:Nat,k≤d∧i= .int .i64 k∧x= .int .i64 ((n/2^k:Nat):Int)∧s= .string (Zo0 n d k)∧Below w.heap.size w wr) (fun _ _ i _=>d-(intOf i).toNat)
 case atStart=>exact⟨0,Nat.zero_le _,rfl,by simp,by rw[Z9e],Below.refl _ _⟩
 case round=>
  obtain⟨k,hk,rfl,rfl,rfl,hb⟩:=hrel
  by_cases hlt:k<d
  ·have HT:=Lib.hid (Zacm (n:=n) hlt)
   have HD:=Lib.hid (show n/2^(k+1)=n/2^k/2 by rw[Nat.pow_succ,Nat.div_div_eq_div_mul])
   have hts:=Zacv n d k hk
   have hq:n/2^k≤n:=Nat.div_le_self _ _
   obtain⟨q,hq2⟩:∃q,q=n/2^k:=⟨_,rfl⟩
   rw[←hq2]at HT HD hq
   rw[←hq2]
   clear hq2
   obtain⟨r,hr⟩:∃r,r=q%2:=⟨_,rfl⟩
   obtain⟨g,hg⟩:∃g,g=q/2:=⟨_,rfl⟩
   have hr1:r≤1:=by omega
   have e1:((q:Int)).tmod 2=(r:Int):=by rw[hr];rfl
   have e2:((q:Int)).tdiv 2=(g:Int):=by rw[hg];rfl
   have e3:((q:Int))%2=(r:Int):=by rw[hr];rfl
   have e4:((q:Int))/2=(g:Int):=by rw[hg];rfl
   rw[←hr]at HT
   rw[←hg]at HD
   clear hr hg
   have HT2:=Lib.hid (show text [(48:Int)+(r:Int)]++Zo0 n d k=Zo0 n d (k+1)from HT.out)
   have hts1:(text [(48:Int)+(r:Int)]).size=1:=rfl
   go_wp2_with fail
   refine(Zzx r _ (by omega)).mono ?_;rintro e w3 ⟨rfl,hb3⟩
   have hb4:=hb.trans (hb3.mono hb.size)
   clear hb hb3
   go_wp2_with fail
   rw[HT2.out]
   go_roundw
   case rel=>exact⟨k+1,by omega,by go_num,by rw[HD.out],rfl,hb4⟩
   case measure=>simp[intOf];omega
  ·obtain rfl:k=d:=by omega
   rw[Zafo]
   go_wp2_with fail
   go_ret
   exact⟨rfl,hb⟩
theorem Zaif {c:UInt8} (h:c.toNat=48∨c.toNat=49):(c.toNat:Int)-48=((dig c:Nat):Int):=by unfold dig;omega
theorem Z91 {c:UInt8} (h:c.toNat=48∨c.toNat=49):dig c≤1:=by unfold dig;omega
theorem Zy2 {a b:Nat} (ha:a≤1) (hb:b≤1):bits .xor .i64 (a:Int) (b:Int)=if a=b then 0 else 1:=by
 have h1:a=0∨a=1:=by omega
 have h2:b=0∨b=1:=by omega
 rcases h1 with rfl|rfl<;>rcases h2 with rfl|rfl<;>decide
theorem Zai4 {a:Nat} (ha:a<4611686018427387904):bits .and .i64 (a:Int) 255=((a%256:Nat):Int):=by
 have h2:=Zfd a 255 (by omega) (by omega)
 rw[show((255:Nat):Int)=255 from rfl]at h2
 rw[h2,show(255:Nat)=2^8-1 from rfl,Nat.and_two_pow_sub_one_eq_mod]
theorem xor_7 {a:Nat} (ha:a<4611686018427387904):bits .xor .i64 (a:Int) 7=((a ^^^ 7:Nat):Int):=Zlc a 7 (by omega) (by omega)
theorem Zakg (s:ByteArray) (w:World) (h:Zan s=true):Calls Tryz.prog 102 #[.string s] w fun e w'=>e= .returned (.tuple #[.string (binT (crcN s) 8),.bool true])∧Below w.heap.size w w':=by
 have h6:=Zcm h
 have HA:=Lib.hid (Zb5 h)
 have HC:=Lib.hid (show crcN s=crcK s s.size from rfl)
 have hcl:=Z7e s
 go_enter Tryz.func102,Tryz.ntmps102
 go_wp2_with fail
 refine(Za2 _ _).mono ?_;rintro e w' ⟨rfl,rfl⟩
 rw[h]
 clear h
 go_wp2_with fail
 go_loop [4,12] (fun x i=>∃k:Nat,k≤s.size∧i= .int .i64 k∧x= .int .i64 (crcK s k)) (fun _ i=>s.size-(intOf i).toNat)
 case atStart=>exact⟨0,Nat.zero_le _,rfl,rfl⟩
 case round=>
  obtain⟨k,hk,rfl,rfl⟩:=hrel
  by_cases hlt:k<s.size
  ·have hx:=Zzn s k hk
   have HS:=Lib.hid (Zqk hlt)
   have hbit:=Zgs HA.out hlt
   have hdl:=Z91 hbit
   have hsub:=Zaif hbit
   have HK:=Lib.hid (fun(e:dig s[k]=crcK s k/128)=>Z22 e)
   have HT:=Lib.hid (fun(e:¬dig s[k]=crcK s k/128)=>Z4h hx hdl e)
   obtain⟨x,hxd⟩:∃x,x=crcK s k:=⟨_,rfl⟩
   rw[←hxd]at HS HK HT hx
   rw[←hxd]
   obtain⟨d,hd⟩:∃d,d=dig s[k]:=⟨_,rfl⟩
   rw[←hd]at HK HT hdl hsub
   clear hxd hd hbit
   have hq1:x/128≤1:=by omega
   have ha:=Lib.hid (show bits .and .i64 ((x:Int)*2) 255=((x*2%256:Nat):Int)from Zai4 (a:=x*2) (by omega))
   have hX7:=Lib.hid (xor_7 (a:=x*2%256) (by omega))
   have hXS:bits .xor .i64 (d:Int) ((x:Int)/128)=if d=x/128 then 0 else 1:=Zy2 hdl hq1
   by_cases he:d=x/128
   ·have hb:(bits .xor .i64 (d:Int) ((x:Int)/128)==1)=false:=by rw[hXS,if_pos he];rfl
    have HN:=Lib.hid (HK.out he)
    clear he hXS hq1
    go_wp2_with fail
    go_round
    case rel=>exact⟨k+1,by omega,by go_num,by rw[ha.out,HS.out,HN.out]⟩
    case measure=>simp[intOf];omega
   ·have hb:(bits .xor .i64 (d:Int) ((x:Int)/128)==1)=true:=by rw[hXS,if_neg he];rfl
    have HN:=Lib.hid (HT.out he)
    clear he hXS hq1
    go_wp2_with fail
    go_round
    case rel=>exact⟨k+1,by omega,by go_num,by rw[ha.out,hX7.out,HS.out,HN.out]⟩
    case measure=>simp[intOf];omega
  ·obtain rfl:k=s.size:=by omega
   rw[←HC.out]
   go_wp2_with fail
   refine(Zme (crcN s) 8 _ (by omega) hcl).mono ?_;rintro e w3 ⟨rfl,hb3⟩
   go_wp2_with fail
   go_ret2
   exact⟨rfl,hb3⟩
theorem Zajg (s:ByteArray) (w:World) (h:Zan s=true):Calls Tryz.prog 244 #[.string s] w fun e w'=>e= .returned (.string (binT (crcN s) 8))∧Below w.heap.size w w':=by
 have h6:=Zcm h
 have HA:=Lib.hid (Zb5 h)
 have HC:=Lib.hid (show crcN s=crcK s s.size from rfl)
 have hcl:=Z7e s
 clear h
 go_enter Tryz.func244,Tryz.ntmps244
 go_wp2_with fail
 go_loop [3,4] (fun x i=>∃k:Nat,k≤s.size∧i= .int .i64 k∧x= .int .i64 (crcK s k)) (fun _ i=>s.size-(intOf i).toNat)
 case atStart=>exact⟨0,Nat.zero_le _,rfl,rfl⟩
 case round=>
  obtain⟨k,hk,rfl,rfl⟩:=hrel
  by_cases hlt:k<s.size
  ·have hx:=Zzn s k hk
   have HS:=Lib.hid (Zqk hlt)
   have hbit:=Zgs HA.out hlt
   have hdl:=Z91 hbit
   have hsub:=Zaif hbit
   have HK:=Lib.hid (fun(e:dig s[k]=crcK s k/128)=>Z22 e)
   have HT:=Lib.hid (fun(e:¬dig s[k]=crcK s k/128)=>Z4h hx hdl e)
   obtain⟨x,hxd⟩:∃x,x=crcK s k:=⟨_,rfl⟩
   rw[←hxd]at HS HK HT hx
   rw[←hxd]
   obtain⟨d,hd⟩:∃d,d=dig s[k]:=⟨_,rfl⟩
   rw[←hd]at HK HT hdl hsub
   clear hxd hd hbit
   obtain⟨q,hq⟩:∃q,q=x/128:=⟨_,rfl⟩
   obtain⟨y,hy⟩:∃y,y=x*2%256:=⟨_,rfl⟩
   have hq1:q≤1:=by omega
   have e1:(x:Int).tdiv 128=(q:Int):=by rw[hq];rfl
   have e2:(x:Int)/128=(q:Int):=by rw[hq];rfl
   have e3:((x:Int)*2).tmod 256=(y:Int):=by rw[hy];rfl
   have e4:((x:Int)*2)%256=(y:Int):=by rw[hy];rfl
   rw[←hq,←hy]at HT HK
   have hy2:y<256:=by omega
   clear hq hy
   have hX7:=Lib.hid (xor_7 (a:=y) (by omega))
   have hXS:bits .xor .i64 (q:Int) (d:Int)=if q=d then 0 else 1:=Zy2 hq1 hdl
   by_cases he:d=q
   ·have hb:(bits .xor .i64 (q:Int) (d:Int)==1)=false:=by rw[hXS,if_pos he.symm];rfl
    have HN:=Lib.hid (HK.out he)
    clear he hXS hq1
    go_wp2_with fail
    go_round
    case rel=>exact⟨k+1,by omega,by go_num,by rw[HS.out,HN.out]⟩
    case measure=>simp[intOf];omega
   ·have hb:(bits .xor .i64 (q:Int) (d:Int)==1)=true:=by rw[hXS,if_neg (fun e=>he e.symm)];rfl
    have HN:=Lib.hid (HT.out he)
    clear he hXS hq1
    go_wp2_with fail
    go_round
    case rel=>exact⟨k+1,by omega,by go_num,by rw[hX7.out,HS.out,HN.out]⟩
    case measure=>simp[intOf];omega
  ·obtain rfl:k=s.size:=by omega
   rw[←HC.out]
   go_wp2_with fail
   refine(Zts (crcN s) 8 _ (by omega) hcl).mono ?_;rintro e w3 ⟨rfl,hb3⟩
   go_wp2_with fail
   go_ret
   exact⟨rfl,hb3⟩
end Go.Proofs.YtcjihfongfefoaaGreatDoor
