/- Vc Xa Zc Uw -/
import Derived.Test.YtcjihfongfefoaaGreatDoorJ25
import Derived.Test.YtcjihfongfefoaaGreatDoorShlf
namespace Go.Proofs.YtcjihfongfefoaaGreatDoor
open Go.RowKit
set_option maxHeartbeats 25600000
set_option maxRecDepth 100000
theorem Znk (c:UInt8) (cur:Byts) (b:UInt8) (l:Byts):cutF c cur (b::l)=if b=c then cur::cutF c [] l else cutF c (cur++[b]) l:=by rw[cutF]
theorem Zaa1 (c:UInt8) (cur:Byts):cutF c cur []=[cur]:=by rw[cutF]
theorem Zz1 (c:UInt8):∀(p cur q:Byts),cutF c cur (p++c::q)=cutF c cur p++cutF c [] q
 |[],cur,q=>by rw[List.nil_append,Znk,if_pos rfl,Zaa1];rfl
 |x::p,cur,q=>by
  rw[List.cons_append,Znk,Znk c cur x p]
  by_cases h:x=c
  ·rw[if_pos h,if_pos h,Zz1 c p [] q,List.cons_append]
  ·rw[if_neg h,if_neg h,Zz1 c p _ q]
theorem Zn3 (c:UInt8) (a b:ByteArray):bts (a++⟨#[c]⟩++b)=bts a++c::bts b:=by
 rw[Zbw,Zbw,List.append_assoc];rfl
theorem Zwb (c:UInt8) (a b:ByteArray):cutT c (a++⟨#[c]⟩++b)=cutT c a++cutT c b:=by
 apply Zgn
 rw[List.map_append,Zhg,Zhg,Zhg,Zn3]
 exact Zz1 c _ [] _
theorem Zdq {c:UInt8} {a:ByteArray} (h:c ∉ bts a):cutT c a=[a]:=by
 apply Zgn
 rw[Zhg,Zmr h];rfl
theorem Zy5 {c:UInt8} {a:ByteArray} (b:ByteArray) (h:c ∉ bts a):cutT c (a++⟨#[c]⟩++b)=a::cutT c b:=by rw[Zwb,Zdq h];rfl
theorem Zvi (c:UInt8):cutT c ⟨#[]⟩=[⟨#[]⟩]:=Zdq (by simp[bts])
theorem Zab4 {w f:ByteArray} (h:(32:UInt8) ∉ bts w):Zf8 (w++⟨#[32]⟩++f)=w:=by
 apply Zae
 unfold Zf8
 rw[Zbv,Zn3,List.takeWhile_append_of_pos (fun b hb=>by rw[bne_iff_ne];rintro rfl;exact h hb),List.takeWhile_cons]
 simp
theorem Z7z {w f:ByteArray} (h:(32:UInt8) ∉ bts w):Zfu (w++⟨#[32]⟩++f)=some f:=by
 unfold Zfu
 rw[Zn3,if_pos (by simp),List.dropWhile_append_of_pos (fun b hb=>by rw[bne_iff_ne];rintro rfl;exact h hb),List.dropWhile_cons]
 simp[Zlw]
theorem Z8d {m:Mch} {w f:ByteArray} {k:Nat} (h:(32:UInt8) ∉ bts w) (hk:wrd w=some k) (hf:Zce k (cutT 32 f).length=true):exec m (w++⟨#[32]⟩++f)=(cmd m k (cutT 32 f)).getD (m,noT):=by
 have hF:Zi7 (w++⟨#[32]⟩++f)=cutT 32 f:=by unfold Zi7;rw[Z7z h]
 unfold exec
 rw[Zab4 h,hk,hF]
 simp only[]
 rw[if_pos hf]
theorem Zzg {w:ByteArray} (h:(32:UInt8) ∉ bts w):Zf8 w=w:=by
 apply Zae
 unfold Zf8
 rw[Zbv]
 have:=List.takeWhile_append_of_pos (p:=fun b=>b != (32:UInt8)) (l₁:=bts w) (l₂:=[]) (fun b hb=>by rw[bne_iff_ne];rintro rfl;exact h hb)
 simpa using this
theorem Zxr {w:ByteArray} (h:(32:UInt8) ∉ bts w):Zi7 w=[]:=by unfold Zi7 Zfu;rw[if_neg h]
theorem Zacw {m:Mch} {w:ByteArray} {k:Nat} (h:(32:UInt8) ∉ bts w) (hk:wrd w=some k) (hf:Zce k 0=true):exec m w=(cmd m k []).getD (m,noT):=by
 unfold exec
 rw[Zzg h,hk,Zxr h]
 simp only[List.length_nil]
 rw[if_pos hf]
theorem Zacq {l:ByteArray} {ls:List ByteArray} {i:Nat} {m m':Mch} {out o:ByteArray} (hl:l.size≠0) (hi:i<100) (ho:out.size≤40000) (he:exec m l=(m',o)):runS (l::ls) i m out=runS ls (i+1) m' (out++(o++nlT)):=by
 rw[runS,if_neg hl,if_neg (by omega),he]
theorem Zum (i:Nat) (m:Mch) (out:ByteArray):runS [⟨#[]⟩] i m out=out:=by rw[runS,if_pos (by decide),runS]
theorem Zfm (a b c:ByteArray):a++b++c=a++(b++c):=by apply Zae;simp[Zbw]
theorem Zqz (a:ByteArray):a++⟨#[]⟩=a:=by apply Zae;rw[Zbw];simp[bts]
theorem Zui (a:ByteArray):(⟨#[]⟩:ByteArray)++a=a:=by apply Zae;rw[Zbw];simp[bts]
theorem Zwg:∀(ls:List ByteArray) (i:Nat) (m:Mch) (out:ByteArray),∃z,runS ls i m out=out++z
 |[],i,m,out=>⟨⟨#[]⟩,by rw[runS,Zqz]⟩
 |l::ls,i,m,out=>by
  rw[runS]
  split
  ·exact Zwg ls _ _ _
  ·split
   ·exact⟨_,rfl⟩
   ·obtain⟨z,hz⟩:=Zwg ls (i+1) (exec m l).1 (out++((exec m l).2++nlT))
    exact⟨_,by rw[hz,Zfm]⟩
theorem Zvh:∀(a b:List ByteArray) (i:Nat) (m:Mch) (out:ByteArray),∃z,runS (a++b) i m out=runS (a++[⟨#[]⟩]) i m out++z
 |[],b,i,m,out=>by
  obtain⟨z,hz⟩:=Zwg b i m out
  exact⟨z,by rw[List.nil_append,List.nil_append,Zum,hz]⟩
 |l::ls,b,i,m,out=>by
  rw[List.cons_append,List.cons_append,runS,runS]
  split
  ·exact Zvh ls b _ _ _
  ·split
   ·exact⟨⟨#[]⟩,by rw[Zqz]⟩
   ·exact Zvh ls b _ _ _
theorem Z5b (p q:ByteArray) (h:(p++⟨#[10]⟩++q).size≤20000):∃z,Zb4 (p++⟨#[10]⟩++q)=Zb4 (p++⟨#[10]⟩)++z:=by
 have h2:(p++⟨#[10]⟩).size≤20000:=by rw[ByteArray.size_append]at h;omega
 unfold Zb4
 rw[if_neg (by omega),if_neg (by omega),Zwb,←Zqz (p++⟨#[10]⟩),Zwb,Zvi]
 exact Zvh _ _ _ _ _
theorem Z64:Zb4 ⟨#[]⟩=⟨#[]⟩:=by
 unfold Zb4
 rw[if_neg (by decide),Zvi,Zum]
theorem Zgi {β:Type} {F:Int→Option β} (h:F badN=none) (o:Option Int):o.bind F=F (o.getD badN):=by
 cases o with
 |none=>exact h.symm
 |some n=>rfl
theorem Zdy {a b:Int} (h: -9223372036854775807<a):inB badN a b=false:=by
 unfold inB badN
 rw[decide_eq_false (by omega)];rfl
theorem Zakn (s t x:Int):jmpR s t x badN=none:=Z0w (by unfold Zkz;rw[Zdy (by decide),Bool.and_false];rfl)
theorem rn_bad (s t x:Int):rnR s t x badN=none:=Z4c (by rw[Zdy (by decide),Bool.and_false])
theorem Zae8 (s t x n:Int):Zcz s t x badN n=none:=Zft (by unfold Zgh chB;rw[Zdy (by decide),Bool.and_false];rfl)
theorem Zaeg (s t x c:Int):Zcz s t x c badN=none:=Zft (by unfold Zgh;rw[Zdy (by decide),Bool.and_false])
theorem Zaka:mxtR badN=[]:=by unfold mxtR;rw[Zdy (by decide)];rfl
theorem Zagg (i:Int):walR badN i=none:=Zri (by unfold Zlq;rw[Zdy (by decide)];rfl)
theorem Zaek (o:Int):walR o badN=none:=Zri (by unfold Zlq;rw[Zdy (by decide),Bool.and_false])
theorem Zaef (t:Int):maxB badN t=false:=by
 cases h:maxB badN t with
 |false=>rfl
 |true=>have:=(Zrv h).1;unfold badN at this;omega
theorem Z19 (s:Int):maxB s badN=false:=by
 cases h:maxB s badN with
 |false=>rfl
 |true=>have:=(Zrv h).2.1;unfold badN at this;omega
theorem Z9s (a b k:Int):Zgo badN a b k=none:=Zit (by unfold Zil;rw[Zaef,Bool.and_false];rfl)
theorem Zace (s b k:Int):Zgo s badN b k=none:=Zit (by unfold Zil;rw[Z19,Bool.and_false];rfl)
theorem Zaby (s a k:Int):Zgo s a badN k=none:=Zit (by unfold Zil;rw[Z19 s,Bool.and_false];rfl)
theorem Zab7 (s a b:Int):Zgo s a b badN=none:=Zit (by unfold Zil;rw[Zdy (by decide),Bool.and_false])
theorem Zai5 (l:List Int):sclR l badN=none:=by unfold sclR Z0a;rw[Zdy (by decide),Bool.and_false];rfl
theorem Zajj (l:List Int) (s:ByteArray):dspR l s badN=none:=Z0i (by unfold Zi8;rw[Zdy (by decide),Bool.and_false])
theorem Zaeb (l:List Int) (s:ByteArray) (n:Int):rcvR l s badN n=none:=by unfold rcvR recB;rw[Zdy (by decide),Bool.and_false];rfl
theorem Z4d (l:List Int) (s:ByteArray) (d:Int):rcvR l s d badN=none:=by unfold rcvR;rw[Zdy (by decide),Bool.and_false];rfl
theorem pr_bad (p:ByteArray) (s t x:Int):prR p badN s t x=none:=by unfold prR;rw[Zdy (by decide),Bool.and_false];rfl
theorem op_bad (b:ByteArray) (s t x:Int):opR b badN s t x=none:=by
 unfold opR
 cases scrR b s t x with
 |none=>rfl
 |some m=>
  show(deiR m badN).bind _=none
  rw[Z4e (Zdy (by decide))];rfl
theorem Zac3 (l:List Stn) (nm:ByteArray) (x:Int):admR l nm badN x=none:=by
 unfold admR
 split
 ·rw[Zqv (Zdy (by decide))];rfl
 ·rfl
theorem Zagt (l:List Stn) (nm:ByteArray) (d:Int):admR l nm d badN=none:=by unfold admR Zsl;rw[Zdy (by decide),Bool.and_false];rfl
theorem Zae5 (l:List Stn):Zfq l badN=none:=by unfold Zfq;rw[Zdy (by decide),Bool.and_false];rfl
theorem Zah6 (l:List Stn) (S:List Int) (nm:ByteArray):crcR l S nm badN=none:=by unfold crcR;split<;>first|exact Z4d _ _ _|rfl
def Zco (r:Option (Mch×ByteArray)):ByteArray:=(r.map Prod.snd).getD noT++nlT
theorem Zjs {α:Type} (m:Mch) (r:Option α) (F:α→ByteArray) (z:α):(if r.isSome=true then F (r.getD z)++nlT else noT++nlT)=Zco (m.say (r.map F)):=by
 cases r<;>rfl
theorem Zml (m:Mch) (r:Option ByteArray) (z:ByteArray):(if r.isSome=true then(r.getD z)++nlT else noT++nlT)=Zco (m.say r):=by
 cases r<;>rfl
def nfL:List Int:=[-1,1, -1,1,2,1,1,3,2,4,2,1,2,1, -1,2,3,1,1,2,2, -1,3,1,1, -1,2, -1]
def kdL:List Int:=[0,2,0,0,0,0,0,0,0,0,0,0,2,2,0,1,1,1,1,1,1,0,2,2,2,0,1,0]
def nfW (w:ByteArray):Int:=match wrd w with|some k=>nfL.getD k (-1)|none=> -1
def kdW (w:ByteArray):Int:=match wrd w with|some k=>kdL.getD k 0|none=>0
theorem Zakp {k:Nat} (hk:k<28) (h0:k≠0) (h1:k≠21) (h2:k≠25) {n:Nat} (hn:1≤n):Zce k n=decide ((n:Int)=nfL.getD k (-1)):=by
 unfold Zce
 have hc:k=1∨k=2∨k=3∨k=4∨k=5∨k=6∨k=7∨k=8∨k=9∨k=10∨k=11∨k=12∨k=13∨k=14∨k=15∨k=16∨k=17∨k=18∨k=19∨k=20∨k=22∨k=23∨k=24∨k=26∨k=27:=by omega
 rcases hc with rfl|rfl|rfl|rfl|rfl|rfl|rfl|rfl|rfl|rfl|rfl|rfl|rfl|rfl|rfl|rfl|rfl|rfl|rfl|rfl|rfl|rfl|rfl|rfl|rfl<;>
  simp only[leastL,mostL,nfL,List.getD_cons_zero,List.getD_cons_succ]<;>rw[←Bool.decide_and]<;>apply decide_eq_decide.2<;>omega
theorem Zwe {k:Nat} (h:k=0∨k=21∨k=25) {n:Nat} (hn:1≤n) (hm:n≤20001):Zce k n=true:=by
 unfold Zce
 rcases h with rfl|rfl|rfl<;>simp only[leastL,mostL,List.getD_cons_zero,List.getD_cons_succ,Bool.and_eq_true,decide_eq_true_eq]<;>omega
theorem Zaau {P:UInt8→Bool}:∀{l:Byts} {k:Nat},(∀j (hj:j<l.length),j<k→P l[j]=true)→(hk:k<l.length)→P l[k]=false→l.takeWhile P=l.take k∧l.dropWhile P=l.drop k
 |x::l,0,_,_,h=>by
  rw[List.getElem_cons_zero]at h
  rw[List.takeWhile_cons,List.dropWhile_cons,h];exact⟨rfl,rfl⟩
 |x::l,k+1,ha,hk,h=>by
  have h0:=ha 0 (by simp) (by omega)
  rw[List.getElem_cons_zero]at h0
  obtain⟨e1,e2⟩:=Zaau (P:=P) (l:=l) (k:=k) (fun j hj hjk=>by have:=ha (j+1) (by simp;omega) (by omega);rwa [List.getElem_cons_succ]at this) (by simp at hk;omega) (by rwa [List.getElem_cons_succ]at h)
  rw[List.takeWhile_cons,List.dropWhile_cons,h0,if_pos rfl,if_pos rfl,e1,e2];exact⟨rfl,rfl⟩
theorem Zajf {l:ByteArray} {k:Nat} (hk:k<l.size) (hb:∀j (hj:j<l.size),j<k→l[j]≠32) (h:l[k]=32):Zf8 l=l.extract 0 k∧Zfu l=some (l.extract (k+1) l.size):=by
 have hkl:k<(bts l).length:=by rw[Zbz];exact hk
 obtain⟨e1,e2⟩:=Zaau (P:=fun b=>b != (32:UInt8)) (l:=bts l) (k:=k) (fun j hj hjk=>by
  have:=hb j (by rwa [Zbz]at hj) hjk
  rw[bne_iff_ne];exact this) hkl (by rw[bne_eq_false_iff_eq];exact h)
 constructor
 ·apply Zae
  unfold Zf8
  rw[e1,Zbv,Zgx l (Nat.zero_le k)]
  unfold subL
  rw[List.drop_zero]
 ·have hm:(32:UInt8)∈bts l:=by
   have:(bts l)[k]=32:=h
   rw[←this];exact List.getElem_mem hkl
  unfold Zfu
  rw[if_pos hm,e2,List.drop_drop]
  congr 1
  apply Zae
  rw[Zbv,Zgx l (by omega)]
  unfold subL
  rw[List.take_of_length_le (by rw[Zbz];exact Nat.le_refl _)]
theorem Zac2 {l r:ByteArray} (h:Zfu l=some r):Zi7 l=cutT 32 r:=by unfold Zi7;rw[h]
theorem Zl7 {β:Type} {F:Int→Int→Option β} (h1:∀y,F badN y=none) (h2:∀x,F x badN=none) (a b:Option Int):(a.bind fun x=>b.bind fun y=>F x y)=F (a.getD badN) (b.getD badN):=by
 cases a with
 |none=>exact(h1 _).symm
 |some x=>
  cases b with
  |none=>exact(h2 x).symm
  |some y=>rfl
theorem Z9o {β:Type} {F:Int→Int→Int→Int→Option β} (h1:∀y z t,F badN y z t=none) (h2:∀x z t,F x badN z t=none) (h3:∀x y t,F x y badN t=none) (h4:∀x y z,F x y z badN=none) (a b c d:Option Int):
 (a.bind fun x=>b.bind fun y=>c.bind fun z=>d.bind fun t=>F x y z t)=F (a.getD badN) (b.getD badN) (c.getD badN) (d.getD badN):=by
 cases a with
 |none=>exact(h1 _ _ _).symm
 |some x=>
  cases b with
  |none=>exact(h2 x _ _).symm
  |some y=>
   cases c with
   |none=>exact(h3 x y _).symm
   |some z=>
    cases d with
    |none=>exact(h4 x y z).symm
    |some t=>rfl
theorem Zakr {s t x a b:Int} {l:List Int} (h:Zcz s t x a b=some l):∀y∈l,I63 y:=by
 unfold Zcz at h
 split at h
 ·next hk=>
  obtain rfl:=Option.some.inj h
  unfold Zgh at hk
  simp only[Bool.and_eq_true]at hk
  intro y hy
  unfold hopL at hy
  obtain⟨i,_,rfl⟩:=List.mem_map.1 hy
  have hc:=hk.1.2
  unfold chB at hc
  have h2:=inB_iff.1 hc
  have:=Int.emod_nonneg (hopX s.toNat t.toNat x.toNat i:Int) (show a≠0 by omega)
  have:=Int.emod_lt_of_pos (hopX s.toNat t.toNat x.toNat i:Int) (show 0<a by omega)
  exact⟨by omega,by omega⟩
 ·cases h
theorem Zajy {l L:List Int} {s:ByteArray} {n:Int} (h:dspR l s n=some L):∀y∈L,I63 y:=by
 unfold dspR at h
 split at h
 ·next hk=>
  obtain rfl:=Option.some.inj h
  unfold Zi8 at hk
  simp only[Bool.and_eq_true]at hk
  intro y hy
  unfold Zes at hy
  obtain⟨i,_,rfl⟩:=List.mem_map.1 hy
  have h2:=Zbg hk.1.2
  have:=Zvv hk.1.1 (Zab s) (0+i*(Zab s).length) (Zab s).length
  rw[Zac]at this
  rw[Zac]
  exact⟨by omega,by omega⟩
 ·cases h
theorem Zakf (n:Int):∀y∈mxtR n,I63 y:=by
 unfold mxtR
 split
 ·next hk=>
  have h1:=inB_iff.1 hk
  have hp:=Zaw (s:=n.toNat) (by omega)
  intro y hy
  unfold mxtL at hy
  obtain⟨i,hi,rfl⟩:=List.mem_map.1 (List.mem_filter.1 hy).1
  have:=List.mem_range.1 hi
  exact⟨by omega,by omega⟩
 ·exact fun y hy=>by cases hy
theorem Zajm {a b:ByteArray} {k v:Int} (h:crsR a b k=some v):I63 v:=by
 have:=Z1r h
 unfold crsR at h
 split at h
 ·next hp=>
  obtain rfl:=Option.some.inj h
  have h1:=Zbg (Znh hp).1
  have h2:=Zv1 a b (k%(b.size:Int)).toNat a.size
  unfold corV
  exact⟨by omega,by omega⟩
 ·cases h
theorem num_gt {t:ByteArray} {n:Int} (h:numT t=some n):badN<n:=by
 have hd:∀d:Byts,Zsg d=true→(valD d:Int)<100000000000000000:=fun d hd=>by
  obtain⟨_,h2,h3⟩:=Zg2 hd
  have h4:=Z0c d h3
  have h5:10^d.length≤10^17:=Nat.pow_le_pow_right (by decide) h2
  have h6:(10^17:Nat)=100000000000000000:=by decide
  omega
 unfold numT numL at h
 unfold badN
 split at h
 ·split at h
  ·next hk=>
   have h1:=hd _ hk.1
   have h2:=Option.some.inj h
   omega
  ·cases h
 ·split at h
  ·next hk=>
   have h1:=hd _ hk.1
   have h2:=Option.some.inj h
   omega
  ·cases h
def jT (P:List ByteArray) (k:Nat):ByteArray:=Zbi 32 (P.take k)
theorem jT_one {P:List ByteArray} {k:Nat} (h:k<P.length) (h0:k=0):jT P k++P[k]=jT P (k+1):=by
 subst h0
 apply Zae
 rw[Zg0]
 unfold jT Zbi
 rw[Zbv,Zbv,List.take_succ_eq_append_getElem h]
 simp[Lib.join_one,Lib.join_nil]
theorem Zai0 {P:List ByteArray} {k:Nat} (h:k<P.length) (h0:0<k):jT P k++⟨#[32]⟩++P[k]=jT P (k+1):=by
 apply Zae
 rw[Zg0,Zg0]
 unfold jT Zbi
 rw[Zbv,Zbv,List.take_succ_eq_append_getElem h,List.map_append,List.map_singleton,Zly _ _ (by
  intro e
  have:=congrArg List.length e
  rw[List.length_map,List.length_take,List.length_nil]at this
  omega)]
 rfl
theorem jT_all {P:List ByteArray} {k:Nat} (h:P.length≤k):jT P k=Zbi 32 P:=by unfold jT;rw[List.take_of_length_le h]
theorem Zaj3 {P:List ByteArray} {M:Nat} (h:∀x∈P,x.size≤M) (k:Nat):(jT P k).size≤k*(M+1):=by
 have h1:=Zgc (c:=32) (M:=M) (ps:=P.take k) (fun p hp=>h p (List.mem_of_mem_take hp))
 have h2:(P.take k).length≤k:=by rw[List.length_take];omega
 have h3:=Nat.mul_le_mul_right (M+1) h2
 unfold jT
 omega
def Zb0:List ByteArray→ByteArray
 |[]=>⟨#[]⟩
 |l::r=>l++⟨#[10]⟩++Zb0 r
theorem Zbf:Zb0 []=⟨#[]⟩:=rfl
theorem Zaz (l:ByteArray) (r:List ByteArray):Zb0 (l::r)=l++⟨#[10]⟩++Zb0 r:=rfl
theorem Zd1:∀a b:List ByteArray,Zb0 (a++b)=Zb0 a++Zb0 b
 |[],b=>(Zui _).symm
 |l::r,b=>by rw[List.cons_append,Zaz,Zaz,Zd1 r b,Zfm,Zfm,Zfm]
theorem Ztk:∀{ls:List ByteArray},(∀l∈ls,(10:UInt8) ∉ bts l)→cutT 10 (Zb0 ls)=ls++[⟨#[]⟩]
 |[],_=>Zvi 10
 |l::r,h=>by
  rw[Zaz,Zy5 _ (h l (by simp)),Ztk (fun x hx=>h x (by simp[hx]))];rfl
def Zjl:Mch→List (ByteArray×ByteArray)→Mch→Prop
 |m,[],m'=>m=m'
 |m,p::r,m'=>(p.1.size≠0∧(10:UInt8) ∉ bts p.1)∧∃m1,exec m p.1=(m1,p.2)∧Zjl m1 r m'
theorem Znc:∀{a b:List (ByteArray×ByteArray)} {m m1 m2:Mch},Zjl m a m1→Zjl m1 b m2→Zjl m (a++b) m2
 |[],_,_,_,_,h,h2=>by obtain rfl:=h;exact h2
 |_::_,_,_,_,_,h,h2=>by
  obtain⟨h0,m3,he,hr⟩:=h
  exact⟨h0,m3,he,Znc hr h2⟩
theorem Zte:∀{ps:List (ByteArray×ByteArray)} {m m':Mch},Zjl m ps m'→∀l∈ps.map Prod.fst,(10:UInt8) ∉ bts l
 |[],_,_,_,_,hl=>by cases hl
 |p::r,_,_,h,l,hl=>by
  obtain⟨h0,m3,_,hr⟩:=h
  rcases List.mem_cons.1 hl with rfl|hl
  ·exact h0.2
  ·exact Zte hr l hl
theorem Zy8:∀{ps:List (ByteArray×ByteArray)} {i:Nat} {m m':Mch} {out:ByteArray},Zjl m ps m'→i+ps.length≤100→out.size+(Zb0 (ps.map Prod.snd)).size≤40000→
 runS (ps.map Prod.fst++[⟨#[]⟩]) i m out=out++Zb0 (ps.map Prod.snd)
 |[],i,m,m',out,_,_,_=>by
  rw[List.map_nil,List.nil_append,Zum]
  exact(Zqz _).symm
 |p::r,i,m,m',out,h,hi,hs=>by
  obtain⟨h0,m3,he,hr⟩:=h
  simp only[List.map_cons,Zaz,ByteArray.size_append,List.length_cons]at hs hi ⊢
  rw[List.cons_append,Zacq h0.1 (by omega) (by omega) he,Zy8 hr (by omega) (by simp only[ByteArray.size_append];show _+(_+nlT.size)+_≤_;have:nlT.size=1:=rfl;have:ByteArray.size ⟨#[10]⟩=1:=rfl;omega)]
  show out++(p.2++⟨#[10]⟩)++_=out++(p.2++⟨#[10]⟩++_)
  rw[Zfm]
theorem Zhb {ps:List (ByteArray×ByteArray)} {m':Mch} (h:Zjl mch0 ps m') (hn:ps.length≤100) (hz:(Zb0 (ps.map Prod.fst)).size≤20000) (ho:(Zb0 (ps.map Prod.snd)).size≤40000):
 Zb4 (Zb0 (ps.map Prod.fst))=Zb0 (ps.map Prod.snd):=by
 unfold Zb4
 rw[if_neg (by omega),Ztk (Zte h),Zy8 h (by omega) (by show 0+_≤_;omega)]
 exact Zui _
theorem Zrt {m m1 m':Mch} {w o:ByteArray} {k:Nat} {r:List (ByteArray×ByteArray)} (hw:(32:UInt8) ∉ bts w∧(10:UInt8) ∉ bts w∧w.size≠0) (hk:wrd w=some k) (hf:Zce k 0=true)
 (hc:cmd m k []=some (m1,o)) (hr:Zjl m1 r m'):Zjl m ((w,o)::r) m':=
 ⟨⟨hw.2.2,hw.2.1⟩,m1,by rw[Zacw hw.1 hk hf,hc];rfl,hr⟩
theorem Zb3 {m m1 m':Mch} {w f o:ByteArray} {k:Nat} {fs:List ByteArray} {r:List (ByteArray×ByteArray)} (hw:(32:UInt8) ∉ bts w∧(10:UInt8) ∉ bts w∧w.size≠0) (hk:wrd w=some k)
 (hn:(10:UInt8) ∉ bts f) (hfs:cutT 32 f=fs) (hf:Zce k fs.length=true) (hc:cmd m k fs=some (m1,o)) (hr:Zjl m1 r m'):Zjl m ((w++⟨#[32]⟩++f,o)::r) m':=by
 subst hfs
 refine⟨⟨?_,?_⟩,m1,by rw[Z8d hw.1 hk hf,hc];rfl,hr⟩
 ·simp only[ByteArray.size_append];have:=hw.2.2;omega
 ·rw[Zn3]
  intro h
  rcases List.mem_append.1 h with h|h
  ·exact hw.2.1 h
  ·rcases List.mem_cons.1 h with h|h
   ·revert h;decide
   ·exact hn h
theorem Zfy (l:List UInt8):bts ⟨l.toArray⟩=l:=rfl
theorem Zk5 (l:List UInt8):ByteArray.size ⟨l.toArray⟩=l.length:=by simp[ByteArray.size]
theorem Zo7 (n:Int) {c:UInt8} (h1:c≠45) (h2:digC c=false):c ∉ bts (decT n):=by unfold decT;rw[Zbv];exact Zmq h1 h2
theorem Zoj (n:Int):(10:UInt8) ∉ bts (decT n):=Zo7 n (by decide) (by decide)
theorem Zqe (n:Int):(32:UInt8) ∉ bts (decT n):=Zo7 n (by decide) (by decide)
theorem Zkg {c d:UInt8} (hcd:c≠d) {ps:List ByteArray} (h:∀p∈ps,c ∉ bts p):c ∉ bts (Zbi d ps):=by
 unfold Zbi
 rw[Zbv]
 refine Zqm hcd (fun p hp=>?_)
 obtain⟨q,hq,rfl⟩:=List.mem_map.1 hp
 exact h q hq
theorem Zah3 (s t x:Int):(10:UInt8) ∉ bts (rgT s t x):=by
 unfold rgT
 split
 ·refine Zkg (by decide) (fun p hp=>?_)
  simp only[rgF,List.mem_cons,List.not_mem_nil,or_false]at hp
  rcases hp with rfl|rfl|rfl<;>exact Zoj _
 ·simp[bts]
theorem Z8l {s t x:Int} (h:regB s t x=true):cutT 32 (rgT s t x)=rgF s t x:=by unfold rgT;rw[if_pos h];exact Zaht
theorem Z2u {s t x:Int} (h:regB s t x=true):Zbi 32 (rgF s t x)=rgT s t x:=by unfold rgT;rw[if_pos h]
theorem Z3g {s:ByteArray} (h:∀x∈Zab s,Za7 x) {c:UInt8} (h1:c.toNat≠48) (h2:c.toNat≠49):c ∉ bts s:=by
 intro hc
 have:=h (c.toNat:Int) (by unfold Zab;exact List.mem_map.2 ⟨c,hc,rfl⟩)
 unfold Za7 at this
 omega
theorem Zzs {s:ByteArray} (h:(10:UInt8) ∉ bts s):(10:UInt8) ∉ bts (Zaf s):=Zh9 h (by decide)
theorem Zz2 {s:ByteArray} (h:(32:UInt8) ∉ bts s):(32:UInt8) ∉ bts (Zaf s):=Zh9 h (by decide)
theorem Zny {a b:ByteArray} (ha:(32:UInt8) ∉ bts a) (hb:(32:UInt8) ∉ bts b):cutT 32 (a++⟨#[32]⟩++b)=[a,b]:=by rw[Zy5 _ ha,Zdq hb]
theorem Z9j {a b c:ByteArray} (ha:(32:UInt8) ∉ bts a) (hb:(32:UInt8) ∉ bts b) (hc:(32:UInt8) ∉ bts c):cutT 32 (a++⟨#[32]⟩++b++⟨#[32]⟩++c)=[a,b,c]:=by
 rw[Zwb,Zny ha hb,Zdq hc];rfl
theorem Zif {c:UInt8} {a b:ByteArray} (hc:c≠32) (ha:c ∉ bts a) (hb:c ∉ bts b):c ∉ bts (a++⟨#[32]⟩++b):=by
 rw[Zn3]
 intro h
 rcases List.mem_append.1 h with h|h
 ·exact ha h
 ·rcases List.mem_cons.1 h with h|h
  ·exact hc h
  ·exact hb h
theorem Ze2 (s:ByteArray):(Zaf s).size≤s.size+1:=Zhp s
theorem Zye (c:UInt8) (a:ByteArray):Zbi c [a]=a:=by unfold Zbi;rw[List.map_singleton,Lib.join_one,Zlw]
theorem Zadt {p:ByteArray} (h:(cutT 32 p).length≠3):rawG p=none:=by
 unfold rawG
 split
 ·next a b c e=>rw[e]at h;exact absurd rfl h
 ·rfl
theorem Zaen {p:ByteArray} (h:rawG p=none):spG p=none:=by unfold spG;rw[h]
theorem Zabo {p a b c:ByteArray} {s t x:Int} (h:cutT 32 p=[a,b,c]) (h0:(numT a).getD 0=s) (h1:(numT b).getD 0=t) (h2:(numT c).getD 0=x):spG p=if bts (rgT s t x)=bts p then some (s,t,x)else none:=by
 have:rawG p=some (s,t,x):=by unfold rawG;rw[h];simp only[h0,h1,h2]
 unfold spG
 rw[this]
theorem Zi5 (p:ByteArray) (w:World) (hs:p.size≤1000000000):Calls Tryz.prog 146 #[.string p] w (Zey w (parG p)):=by
 rw[←Zakl]
 have hB0:Below w.heap.size w (w.alloc (.cells #[.int .i64 0,.int .i64 0,.int .i64 0] 46)):=(Below.refl _ _).alloc (Nat.le_refl _) _
 have hU0:=Za4 w 0 0 0
 have hz0:=hU0.lt
 have hsz:=Zii (c:=32) hs
 have HCU:=Lib.hid (fun c=>Zho p 32 32 rfl c hs)
 unfold RetTx at HCU
 by_cases h3:(cutT 32 p).length=3
 ·obtain⟨a,b,c,hf⟩:=Z1w h3
  have HP:=Lib.hid (fun s t x h0 h1 h2=>Zabo (p:=p) (s:=s) (t:=t) (x:=x) hf h0 h1 h2)
  rw[hf]at hsz HCU
  have za:=hsz a (by simp)
  have zb:=hsz b (by simp)
  have zc:=hsz c (by simp)
  clear hsz h3 hf
  obtain⟨n0,hn0⟩:∃n0,(numT a).getD 0=n0:=⟨_,rfl⟩
  obtain⟨n1,hn1⟩:∃n1,(numT b).getD 0=n1:=⟨_,rfl⟩
  obtain⟨n2,hn2⟩:∃n2,(numT c).getD 0=n2:=⟨_,rfl⟩
  have HP2:=Lib.hid (HP.out n0 n1 n2 hn0 hn1 hn2)
  have H0:=Lib.hid hn0
  have H1:=Lib.hid hn1
  have H2:=Lib.hid hn2
  clear hn0 hn1 hn2 HP
  go_enter Tryz.func146,Tryz.ntmps146
  go_wp2_with fail
  refine(HCU.out _).mono ?_;rintro e w1 ⟨ao,n,cc,rfl,ho,hb1⟩
  have hn:=ho.1
  obtain rfl:n=3:=hn
  have hR:=ho.rd
  obtain⟨bb,off,rfl,hl0,c0⟩:=hR.at (i:=0) (by omega)
  obtain⟨bb',off',e1,hl1,c1⟩:=hR.at (i:=1) (by omega)
  cases e1
  obtain⟨bb',off',e2,hl2,c2⟩:=hR.at (i:=2) (by omega)
  cases e2
  have c0:w1.cell? ⟨bb,off+0,none⟩=some (.string a):=c0
  have c1:w1.cell? ⟨bb,off+1,none⟩=some (.string b):=c1
  have c2:w1.cell? ⟨bb,off+2,none⟩=some (.string c):=c2
  rw[Nat.add_zero]at c0
  have hU1:=hU0.below hb1 hU0.lt
  have hb2:=hB0.trans (hb1.mono hB0.size)
  clear hU0 hb1 hB0 hR ho
  go_wp2_with fail
  refine(Zlk a _ (by omega)).mono ?_;rintro e w' ⟨rfl,rfl⟩
  rw[H0.out]
  generalize (numT a).isSome=b0 at*
  go_wp2_with fail
  refine(Zlk b _ (by omega)).mono ?_;rintro e w' ⟨rfl,rfl⟩
  rw[H1.out]
  generalize (numT b).isSome=b1 at*
  go_wp2_with fail
  refine(Zlk c _ (by omega)).mono ?_;rintro e w' ⟨rfl,rfl⟩
  rw[H2.out]
  generalize (numT c).isSome=b2 at*
  have hR4:=Za4 w1 n0 n1 n2
  have hU4:=hU1.alloc (.cells #[.int .i64 n0,.int .i64 n1,.int .i64 n2] 46)
  have hb4:=hb2.alloc hb2.size (.cells #[.int .i64 n0,.int .i64 n1,.int .i64 n2] 46)
  have hUl:=hU4.lt
  have hRl:=hR4.lt
  have q0:=hR4.c0
  have q1:=hR4.c1
  have q2:=hR4.c2
  generalize hw4:w1.alloc (.cells #[.int .i64 n0,.int .i64 n1,.int .i64 n2] 46)=w4 at*
  have HW4:=Lib.hid hw4
  clear hw4 hU1 hb2 c0 c1 c2
  go_wp2_with fail
  rw[HW4.out]
  go_wp2_with fail
  refine(Zc7 n0 n1 n2 _).mono ?_;rintro e w5 ⟨rfl,hb5⟩
  have hU5:=hU4.below hb5 hUl
  have hR5:=hR4.below hb5 hRl
  have hb6:=hb4.trans (hb5.mono hb4.size)
  clear q0 q1 q2
  have q0:=hR5.c0
  have q1:=hR5.c1
  have q2:=hR5.c2
  have d0:=hU5.c0
  have d1:=hU5.c1
  have d2:=hU5.c2
  have f0:=hU5.free 0
  have f1:=hU5.free 1
  have f2:=hU5.free 2
  clear hU4 hR4 hU5 hR5 hb4 hb5
  by_cases he:bts (rgT n0 n1 n2)=bts p
  ·have hr:=Lib.hid (show spG p=some (n0,n1,n2)by rw[HP2.out,if_pos he])
   have t1:((rgT n0 n1 n2).toList != p.toList)=false:=by rw[Zck,Zck,he];simp
   have t2:((rgT n0 n1 n2).toList==p.toList)=true:=by rw[Zck,Zck,he];simp
   generalize rgT n0 n1 n2=R at*
   clear he HP2
   go_wp2_with fail
   refine bodyPost_ret (v:=.tuple #[.agg #[.int .i64 n0,.int .i64 n1,.int .i64 n2],.bool true]) (by simp[results,Tryz.results146,go_sem,d0,d1,d2]) rfl (Zr8 hr.out ?_)
   refine Below.setCell (Below.setCell (Below.setCell hb6 (by simp) _) (by simp) _) (by simp) _
  ·have hr:=Lib.hid (show spG p=none by rw[HP2.out,if_neg he])
   have t2:((rgT n0 n1 n2).toList==p.toList)=false:=by rw[Zck,Zck];simpa using he
   have t1:((rgT n0 n1 n2).toList != p.toList)=true:=by rw[bne,t2];rfl
   generalize rgT n0 n1 n2=R at*
   clear he HP2
   go_wp2_with fail
   refine bodyPost_ret (v:=.tuple #[.agg #[.int .i64 0,.int .i64 0,.int .i64 0],.bool false]) (by simp[results,Tryz.results146,go_sem,d0,d1,d2]) rfl (Zek hr.out ?_)
   refine Below.setCell (Below.setCell (Below.setCell hb6 (by simp) _) (by simp) _) (by simp) _
 ·have hr:=Lib.hid (Zaen (Zadt h3))
  have hc9:(cutT 32 p).length≤1000000001:=by have:=Zgl (c:=32) (s:=p);omega
  have HL:=Lib.hid (show((((cutT 32 p).length:Nat):Int)==3)=false from beq_eq_false_iff_ne.2 (by omega))
  generalize cutT 32 p=P at*
  clear hsz h3
  go_enter Tryz.func146,Tryz.ntmps146
  go_wp2_with fail
  refine(HCU.out _).mono ?_;rintro e w1 ⟨ao,n,cc,rfl,ho,hb1⟩
  have hne:((n:Int)==3)=false:=by rw[ho.1];exact HL.out
  have hU1:=hU0.below hb1 hU0.lt
  have hb2:=hB0.trans (hb1.mono hB0.size)
  have d0:=hU1.c0
  have d1:=hU1.c1
  have d2:=hU1.c2
  have f0:=hU1.free 0
  have f1:=hU1.free 1
  have f2:=hU1.free 2
  clear hU1 ho hU0 hB0 hb1
  go_wp2_with fail
  refine bodyPost_ret (v:=.tuple #[.agg #[.int .i64 0,.int .i64 0,.int .i64 0],.bool false]) (by simp[results,Tryz.results146,go_sem,d0,d1,d2]) rfl (Zek hr.out ?_)
  refine Below.setCell (Below.setCell (Below.setCell hb2 (by simp) _) (by simp) _) (by simp) _
end Go.Proofs.YtcjihfongfefoaaGreatDoor
