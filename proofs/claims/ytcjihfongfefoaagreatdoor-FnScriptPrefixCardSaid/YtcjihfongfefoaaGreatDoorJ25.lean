/- Va Vb Ya Yb Yc Uv Yd Yo -/
import Derived.Test.YtcjihfongfefoaaGreatDoorJ16
import Derived.Test.YtcjihfongfefoaaGreatDoorJ19
import Derived.Test.YtcjihfongfefoaaGreatDoorJ21
import Derived.Test.YtcjihfongfefoaaGreatDoorJ22
import Derived.Test.YtcjihfongfefoaaGreatDoorJ24
import Derived.Test.YtcjihfongfefoaaGreatDoorShlf
namespace Go.Proofs.YtcjihfongfefoaaGreatDoor
open Go.RowKit
set_option maxHeartbeats 25600000
set_option maxRecDepth 100000
structure Mch where
 s:Int
 t:Int
 x:Int
 C:List Stn
 S:List Int
def mch0:Mch:=⟨3,3,1,[],[]⟩
def Mch.setR (m:Mch) (r:Int×Int×Int):Mch:=⟨r.1,r.2.1,r.2.2,m.C,m.S⟩
def Mch.setC (m:Mch) (l:List Stn):Mch:=⟨m.s,m.t,m.x,l,m.S⟩
def Mch.setS (m:Mch) (l:List Int):Mch:=⟨m.s,m.t,m.x,m.C,l⟩
def lits:List Byts:=[[114,101,103,105,115,116,101,114],[106,117,109,112],[112,101,114,105,111,100],[98,105,116,115],[104,111,112,115],[115,104,111,114,116,101,115,116],[109,97,120,105,109,97,108],[99,114,111,115,115],[112,101,97,107],[103,111,108,100],[119,97,108,115,104],[116,114,101,101],[115,112,114,101,97,100],[103,97,105,110],[115,105,103,110,97,108],[100,101,115,112,114,101,97,100],[114,101,99,101,105,118,101],[102,114,97,109,101],[102,105,110,100],[112,114,111,116,101,99,116],[111,112,101,110],[99,101,108,108],[97,100,109,105,116],[114,101,108,101,97,115,101],[112,111,119,101,114],[115,101,110,100],[104,101,97,114],[102,111,114,103,101,116]]
def leastL:List Nat:=[0,1,0,1,2,1,1,3,2,4,2,1,2,1,0,2,3,1,1,2,2,0,3,1,1,1,2,0]
def mostL:List Nat:=[20001,1,0,1,2,1,1,3,2,4,2,1,2,1,0,2,3,1,1,2,2,20001,3,1,1,20001,2,0]
def wrd (w:ByteArray):Option Nat:=lits.findIdx? fun l=>decide (bts w=l)
def Zce (k n:Nat):Bool:=decide (leastL.getD k 0≤n)&&decide (n≤mostL.getD k 0)
def sokT:ByteArray:=⟨#[111,107]⟩
def noT:ByteArray:=⟨#[110,111]⟩
def whatT:ByteArray:=⟨#[119,104,97,116]⟩
def nlT:ByteArray:=⟨#[10]⟩
def Z95:ByteArray:=⟨#[102,117,108,108,10]⟩
def Zaiz:ByteArray:=⟨#[108,111,110,103,10]⟩
def fld (f:List ByteArray) (i:Nat):ByteArray:=f.getD i ⟨#[]⟩
def Mch.toS (m:Mch) (r:Option (List Int)):Option (Mch×ByteArray):=r.map fun l=>(m.setS l,nmsT l)
def Mch.toC (m:Mch) (r:Option (List Stn)):Option (Mch×ByteArray):=r.map fun l=>(m.setC l,fmtT l)
def Mch.say (m:Mch) (r:Option ByteArray):Option (Mch×ByteArray):=r.map fun o=>(m,o)
def cmd (m:Mch) (k:Nat) (f:List ByteArray):Option (Mch×ByteArray):=
 match k with
 |0=>if f.length=0 then some (m,rgT m.s m.t m.x)else(parG (Zbi 32 f)).map fun r=>(m.setR r,sokT)
 |1=>(numT (fld f 0)).bind fun n=>(jmpR m.s m.t m.x n).map fun r=>(m.setR r,rgT r.1 r.2.1 r.2.2)
 |2=>some (m,decT (perR m.s m.t m.x)++⟨#[32]⟩++decT (Zfn m.s m.t m.x))
 |3=>(numT (fld f 0)).bind fun n=>m.say ((rnR m.s m.t m.x n).map Zaf)
 |4=>(numT (fld f 0)).bind fun a=>(numT (fld f 1)).bind fun b=>m.say ((Zcz m.s m.t m.x a b).map nmsT)
 |5=>m.say ((shR (fld f 0)).map fun r=>rgT r.1 r.2.1 r.2.2)
 |6=>(numT (fld f 0)).bind fun n=>if mxtR n=[]then none else some (m,nmsT (mxtR n))
 |7=>(numT (fld f 2)).bind fun n=>m.say ((crsR (fld f 0) (fld f 1) n).map decT)
 |8=>if Zhz (fld f 0) (fld f 1)<0 then none else some (m,decT (Zhz (fld f 0) (fld f 1)))
 |9=>(numT (fld f 0)).bind fun a=>(numT (fld f 1)).bind fun b=>(numT (fld f 2)).bind fun c=>(numT (fld f 3)).bind fun d=>m.say (Zgo a b c d)
 |10=>(numT (fld f 0)).bind fun a=>(numT (fld f 1)).bind fun b=>m.say (walR a b)
 |11=>m.say (treR (Zar (fld f 0)))
 |12=>m.toS (sprR (Zar (fld f 0)) (fld f 1))
 |13=>(numT (fld f 0)).bind fun n=>m.toS (sclR m.S n)
 |14=>some (m,nmsT m.S)
 |15=>(numT (fld f 1)).bind fun n=>m.say ((dspR m.S (fld f 0) n).map nmsT)
 |16=>(numT (fld f 1)).bind fun d=>(numT (fld f 2)).bind fun n=>m.say ((rcvR m.S (fld f 0) d n).map Zaf)
 |17=>m.say (Zhy (Zar (fld f 0)))
 |18=>if allR (fld f 0)=[]then none else some (m,Zbi 32 ((allR (fld f 0)).map Zaf))
 |19=>(numT (fld f 1)).bind fun n=>m.say (prR (Zar (fld f 0)) n m.s m.t m.x)
 |20=>(numT (fld f 1)).bind fun n=>m.say ((opR (fld f 0) n m.s m.t m.x).map Zaf)
 |21=>if f.length=0 then some (m,fmtT m.C)else(parT (Zbi 32 f)).map fun l=>(m.setC l,sokT)
 |22=>(numT (fld f 1)).bind fun d=>(numT (fld f 2)).bind fun l=>m.toC (admR m.C (fld f 0) d l)
 |23=>m.toC (relR m.C (fld f 0))
 |24=>(numT (fld f 0)).bind fun t=>m.toC (Zfq m.C t)
 |25=>m.toS (csgR m.C (f.map Zar))
 |26=>(numT (fld f 1)).bind fun n=>m.say ((crcR m.C m.S (fld f 0) n).map Zaf)
 |_=>some (mch0,sokT)
def Zf8 (l:ByteArray):ByteArray:=txt ((bts l).takeWhile fun b=>b != 32)
def Zfu (l:ByteArray):Option ByteArray:=if(32:UInt8)∈bts l then some (txt (((bts l).dropWhile fun b=>b != 32).drop 1))else none
def Zi7 (l:ByteArray):List ByteArray:=match Zfu l with|some r=>cutT 32 r|none=>[]
def exec (m:Mch) (l:ByteArray):Mch×ByteArray:=
 match wrd (Zf8 l)with
 |some k=>if Zce k (Zi7 l).length=true then(cmd m k (Zi7 l)).getD (m,noT)else(m,whatT)
 |none=>(m,whatT)
def runS:List ByteArray→Nat→Mch→ByteArray→ByteArray
 |[],_,_,out=>out
 |l::ls,i,m,out=>
  if l.size=0 then runS ls (i+1) m out
  else if 100≤i∨40000<out.size then out++Z95
  else runS ls (i+1) (exec m l).1 (out++((exec m l).2++nlT))
def Zb4 (t:ByteArray):ByteArray:=if 20000<t.size then Zaiz else runS (cutT 10 t) 0 mch0 ⟨#[]⟩
def OkM (m:Mch):Prop:=regB m.s m.t m.x=true∧Zay m.C=true∧sigB m.S=true
theorem Zac7:OkM mch0:=⟨by decide,by decide,by decide⟩
theorem Zgc {c:UInt8} {M:Nat} {ps:List ByteArray} (h:∀p∈ps,p.size≤M):(Zbi c ps).size≤ps.length*(M+1):=by
 unfold Zbi
 rw[Zfi]
 have:=Ziv (M:=M) (s:=[c]) rfl (ps:=ps.map bts) fun p hp=>by
  obtain⟨q,hq,rfl⟩:=List.mem_map.1 hp
  rw[Zbz];exact h q hq
 rw[List.length_map]at this
 exact this
theorem Zk2 {s t x:Int} (h:regB s t x=true):(rgT s t x).size≤66:=by
 have hb:=Zvd h
 unfold rgT
 rw[if_pos h]
 refine Zgc (M:=21) fun p hp=>?_
 simp only[rgF,List.mem_cons,List.not_mem_nil,or_false]at hp
 rcases hp with rfl|rfl|rfl<;>exact Zcl (by omega) (by omega)
theorem Zhn {l:List Int} {n:Nat} (hn:l.length≤n) (h:∀x∈l,I64 x):(nmsT l).size≤n*22+1:=by
 unfold nmsT
 have h1:=Zgc (c:=32) (M:=21) (ps:=l.map decT) fun p hp=>by
  obtain⟨x,hx,rfl⟩:=List.mem_map.1 hp
  exact Zcl (h x hx).1 (h x hx).2
 have h2:=Zhp (Zbi 32 (l.map decT))
 rw[List.length_map]at h1
 have:l.length*22≤n*22:=Nat.mul_le_mul_right _ hn
 omega
theorem Zle (l:List Stn):(fmtT l).size≤489:=by
 by_cases h:Zay l=true
 ·rw[Z0j h]
  have h1:=Zhp (Zbi 59 (l.map stT))
  have hc:=cellB_iff.1 h
  have h2:=Zgc (c:=59) (M:=60) (ps:=l.map stT) fun p hp=>by
   obtain⟨x,hx,rfl⟩:=List.mem_map.1 hp
   exact Zuh (hc.2.1 x hx)
  rw[List.length_map]at h2
  have:l.length*61≤8*61:=Nat.mul_le_mul_right _ hc.1
  omega
 ·rw[Zaam (by simpa using h)];decide
theorem Znf {l:List Int} (h:sigB l=true):∀x∈l,I64 x:=fun x hx=>by have:=Zabr h x hx;exact⟨by omega,by omega⟩
theorem Zu3 {l:List Int} (h:sigB l=true):(nmsT l).size≤66001:=Zhn (n:=3000) (Zhe h) (Znf h)
theorem Zno {d s:ByteArray} {l:List Int} (h:sprR d s=some l):sigB l=true:=by
 unfold sprR at h
 split at h
 ·next hk=>
  obtain rfl:=Option.some.inj h
  unfold Zz8 at hk
  simp only[Bool.and_eq_true,decide_eq_true_eq]at hk
  exact Zqy (by rw[Zep,Zac,Zac];exact hk.2) (Zka (Zib _ _) (by omega))
 ·cases h
theorem Z1k {l r:List Int} {g:Int} (h:sclR l g=some r):sigB r=true:=by
 unfold sclR at h
 split at h
 ·next hk=>
  obtain rfl:=Option.some.inj h
  unfold Z0a at hk
  simp only[Bool.and_eq_true]at hk
  exact hk.2
 ·cases h
theorem Z0m {l:List Stn} {ds:List ByteArray} {L:List Int} (h:csgR l ds=some L):sigB L=true:=(Zg3 h).2.2.2.2
theorem Z2d {l r:List Stn} {nm:ByteArray} (h:relR l nm=some r):Zay r=true:=by
 unfold relR at h
 split at h
 ·next hk=>
  obtain rfl:=Option.some.inj h
  rw[Bool.and_eq_true]at hk
  exact Z9u hk.1 (Zacn l _)
 ·cases h
theorem Zrd {l r:List Stn} {t:Int} (h:Zfq l t=some r):Zay r=true:=by
 unfold Zfq at h
 split at h
 ·next hk=>
  obtain rfl:=Option.some.inj h
  rw[Bool.and_eq_true]at hk
  exact Zaa2 (inB_iff.1 hk.2) hk.1
 ·cases h
theorem Zrx {s t x k:Int} {r:Int×Int×Int} (h:jmpR s t x k=some r):regB r.1 r.2.1 r.2.2=true:=by
 unfold jmpR at h
 split at h
 ·next hk=>
  obtain rfl:=Option.some.inj h
  unfold Zkz at hk
  simp only[Bool.and_eq_true]at hk
  have hr:=hk.1.1
  obtain⟨S,T,X,rfl,rfl,rfl,h1,h2,h3⟩:=Zbx hr
  have hp:(2:Int)^S=((2^S:Nat):Int):=by rw[Int.natCast_pow];rfl
  have hx:∃Y:Nat,jmpX S T X k=Y∧Y<2^S:=by
   unfold jmpX
   split
   ·exact⟨_,rfl,Zid h1.1 h3⟩
   ·exact⟨_,rfl,Zvg h1.1 h3⟩
  obtain⟨Y,hY,hlt⟩:=hx
  show regB S T (jmpX S T X k)=true
  rw[hY]
  unfold regB at hr ⊢
  rw[Bool.and_eq_true]at hr ⊢
  refine⟨hr.1,?_⟩
  rw[show((S:Int)).toNat=S from rfl,hp]
  exact Zax (by omega) (by omega)
 ·cases h
theorem Zv7 (s:ByteArray):∀f a,∀p∈allL s f a,p.size≤100
 |0,_,p,h=>by unfold allL at h;cases h
 |f+1,a,p,h=>by
  rcases Znl (s:=s) (a:=(a:Int))with e|⟨v,q,n,e,_,_,_,hq,_,_,hp⟩
  ·rw[Zje (by omega)]at h;cases h
  ·rw[Zj9 (by omega) e hq]at h
   rcases List.mem_cons.1 h with rfl|h
   ·unfold payB at hp;rw[Bool.and_eq_true]at hp;exact of_decide_eq_true hp.1
   ·exact Zv7 s _ _ p h
theorem Zo8 (s:ByteArray):∀f a,(allL s f a).length≤f
 |0,_=>by unfold allL;exact Nat.le_refl _
 |f+1,a=>by
  rcases Znl (s:=s) (a:=(a:Int))with e|⟨v,q,n,e,_,_,_,hq,_,_,hp⟩
  ·rw[Zje (by omega)];exact Nat.zero_le _
  ·rw[Zj9 (by omega) e hq]
   have:=Zo8 s f n
   simp only[List.length_cons,Nat.add_sub_cancel]
   omega
theorem Z7t {b:ByteArray} {s t x:Int} {r:ByteArray} (h:scrR b s t x=some r):r.size≤600:=by
 unfold scrR at h
 split at h
 ·next hk=>
  obtain rfl:=Option.some.inj h
  rw[Bool.and_eq_true]at hk
  rw[Ziy];exact Zcm hk.1
 ·cases h
theorem pr_sz {p:ByteArray} {n s t x:Int} {r:ByteArray} (h:prR p n s t x=some r):r.size≤600:=by
 unfold prR at h
 split at h
 ·obtain⟨b,_,h2⟩:=Option.bind_eq_some_iff.1 h
  exact Z7t h2
 ·cases h
theorem Zaf8 {s p:ByteArray} {a:Int} {n:Nat} (h:Zbn s a=some (p,n)):p.size≤600:=by
 obtain⟨_,_,_,_,hp,_⟩:=Zmt h
 unfold payB at hp;rw[Bool.and_eq_true]at hp
 have:=of_decide_eq_true hp.1
 omega
theorem op_sz {b:ByteArray} {n s t x:Int} {r:ByteArray} (h:opR b n s t x=some r):r.size≤600:=by
 unfold opR at h
 obtain⟨m,_,h⟩:=Option.bind_eq_some_iff.1 h
 obtain⟨k,_,h⟩:=Option.bind_eq_some_iff.1 h
 obtain⟨d,_,h⟩:=Option.bind_eq_some_iff.1 h
 obtain⟨⟨p,j⟩,h5,h6⟩:=Option.map_eq_some_iff.1 h
 obtain rfl:p=r:=h6
 exact Zaf8 h5
theorem Zahf {p r:ByteArray} (h:Zhy p=some r):r.size≤600:=by
 unfold Zhy at h
 split at h
 ·next hk=>
  obtain rfl:=Option.some.inj h
  unfold payB at hk;rw[Bool.and_eq_true]at hk
  have:=of_decide_eq_true hk.1
  rw[Zcp];omega
 ·cases h
theorem Zia {m m':Mch} {r:Option ByteArray} {o:ByteArray} {N:Nat} (h:m.say r=some (m',o)) (hm:OkM m) (hr:∀p,r=some p→p.size≤N):OkM m'∧o.size≤N:=by
 unfold Mch.say at h
 obtain⟨p,hp,he⟩:=Option.map_eq_some_iff.1 h
 obtain⟨rfl,rfl⟩:m=m'∧p=o:=by simpa using he
 exact⟨hm,hr _ hp⟩
theorem Z7l {m m':Mch} {r:Option (List Int)} {o:ByteArray} (h:m.toS r=some (m',o)) (hm:OkM m) (hr:∀l,r=some l→sigB l=true):OkM m'∧o.size≤66001:=by
 unfold Mch.toS at h
 obtain⟨p,hp,he⟩:=Option.map_eq_some_iff.1 h
 obtain⟨rfl,rfl⟩:m.setS p=m'∧nmsT p=o:=by simpa using he
 exact⟨⟨hm.1,hm.2.1,hr _ hp⟩,Zu3 (hr _ hp)⟩
theorem Zaas {m m':Mch} {r:Option (List Stn)} {o:ByteArray} (h:m.toC r=some (m',o)) (hm:OkM m) (hr:∀l,r=some l→Zay l=true):OkM m'∧o.size≤489:=by
 unfold Mch.toC at h
 obtain⟨p,hp,he⟩:=Option.map_eq_some_iff.1 h
 obtain⟨rfl,rfl⟩:m.setC p=m'∧fmtT p=o:=by simpa using he
 exact⟨⟨hm.1,hr _ hp,hm.2.2⟩,Zle p⟩
theorem Zu0 (q:Nat→Nat):orbN q<300:=by
 unfold orbN
 cases h:(List.range 300).find? fun n=>(Zdj q n (q n)).isSome with
 |none=>decide
 |some n=>exact List.mem_range.1 (List.mem_of_find?_eq_some h)
theorem Zni (q:Nat→Nat):orbI q<300:=by
 unfold orbI
 cases h:Zdj q (orbN q) (q (orbN q))with
 |none=>decide
 |some n=>have:=Zl5 h;have:=Zu0 q;show n<300;omega
theorem Zux (s t x:Int):I64 (perR s t x):=by
 unfold perR I64
 split
 ·have:=Zu0 (rgQ s.toNat t.toNat x.toNat);have:=Zni (rgQ s.toNat t.toNat x.toNat);omega
 ·omega
theorem Zpt (s t x:Int):I64 (Zfn s t x):=by
 unfold Zfn I64
 split
 ·have:=Zni (rgQ s.toNat t.toNat x.toNat);omega
 ·omega
theorem Zde {n:Int} (h:I64 n):(decT n).size≤21:=Zcl h.1 h.2
theorem Zmx {s t x a b:Int} {l:List Int} (h:Zcz s t x a b=some l):l.length≤300∧∀y∈l,I64 y:=by
 unfold Zcz at h
 split at h
 ·next hk=>
  obtain rfl:=Option.some.inj h
  unfold Zgh at hk
  simp only[Bool.and_eq_true]at hk
  have h1:=inB_iff.1 hk.2
  refine⟨by rw[Zm1];omega,fun y hy=>?_⟩
  unfold hopL at hy
  obtain⟨i,_,rfl⟩:=List.mem_map.1 hy
  have hc:=hk.1.2
  unfold chB at hc
  have h2:=inB_iff.1 hc
  have:=Int.emod_nonneg (hopX s.toNat t.toNat x.toNat i:Int) (show a≠0 by omega)
  have:=Int.emod_lt_of_pos (hopX s.toNat t.toNat x.toNat i:Int) (show 0<a by omega)
  exact⟨by omega,by omega⟩
 ·cases h
theorem Z4l (n:Int):(mxtR n).length≤300∧∀y∈mxtR n,I64 y:=by
 unfold mxtR
 split
 ·next hk=>
  have h1:=inB_iff.1 hk
  have hp:=Zaw (s:=n.toNat) (by omega)
  refine⟨Nat.le_trans (Zwt _ _) (by omega),fun y hy=>?_⟩
  unfold mxtL at hy
  obtain⟨i,hi,rfl⟩:=List.mem_map.1 (List.mem_filter.1 hy).1
  have:=List.mem_range.1 hi
  exact⟨by omega,by omega⟩
 ·exact⟨Nat.zero_le _,fun y hy=>by cases hy⟩
theorem Znh {a b:ByteArray} (h:Zef a b=true):seqB a=true∧seqB b=true∧a.size=b.size:=by
 unfold Zef at h
 simp only[Bool.and_eq_true,decide_eq_true_eq]at h
 exact⟨h.1.1,h.1.2,h.2⟩
theorem Z1r {a b:ByteArray} {k v:Int} (h:crsR a b k=some v):I64 v:=by
 unfold crsR at h
 split at h
 ·next hk=>
  obtain rfl:=Option.some.inj h
  have:=Zbg (Znh hk).1
  have:=Zv1 a b (k%(b.size:Int)).toNat a.size
  unfold corV I64
  omega
 ·cases h
theorem Z3w (a b:ByteArray):(crsL a b).length≤255:=by
 unfold crsL
 split
 ·next hk=>rw[Zmb];exact(Zbg (Znh hk).1).2
 ·exact Nat.zero_le _
theorem Z3s (a b:ByteArray):I64 (Zhz a b):=by
 have:=Zqc (crsL a b) (crsL a b).length
 have:=Z3w a b
 unfold Zhz I64
 omega
theorem Zact (s t:Nat):(mxsT s t).size=2^s-1:=by unfold mxsT;rw[Zaq,Zdf]
theorem Zrv {s t:Int} (h:maxB s t=true):(2≤s∧s≤8)∧(1≤t∧t≤2^s.toNat-1):=by
 unfold maxB tapB at h
 simp only[Bool.and_eq_true]at h
 exact⟨inB_iff.1 h.1.1,inB_iff.1 h.1.2⟩
theorem Z7s {s a b k:Int} {r:ByteArray} (h:Zgo s a b k=some r):r.size≤600:=by
 unfold Zgo at h
 split at h
 ·next hk=>
  obtain rfl:=Option.some.inj h
  unfold Zil at hk
  simp only[Bool.and_eq_true]at hk
  have h1:=(Zrv hk.1.1.2).1
  have hp:=Zaw (s:=s.toNat) (by omega)
  unfold gldT
  split
  ·rw[Zact];omega
  ·split
   ·rw[Zact];omega
   ·unfold sumT;rw[Zaq,Zis,Zact];omega
 ·cases h
theorem Zag2 {o i:Int} {r:ByteArray} (h:walR o i=some r):r.size≤600:=by
 unfold walR at h
 split at h
 ·next hk=>
  obtain rfl:=Option.some.inj h
  unfold Zlq at hk
  rw[Bool.and_eq_true]at hk
  have h1:=inB_iff.1 hk.1
  have hp:=Zaw (s:=o.toNat) (by omega)
  rw[Zaq];unfold walL;rw[List.length_map,List.length_range];omega
 ·cases h
theorem Zag5 {p r:ByteArray} (h:treR p=some r):r.size≤600:=by
 unfold treR at h
 split at h
 ·next hk=>obtain rfl:=Option.some.inj h;have:=Zks (Zcr hk);omega
 ·cases h
theorem Zxs {l L:List Int} {s:ByteArray} {n:Int} (h:dspR l s n=some L):L.length≤600∧∀y∈L,I64 y:=by
 unfold dspR at h
 split at h
 ·next hk=>
  obtain rfl:=Option.some.inj h
  unfold Zi8 at hk
  simp only[Bool.and_eq_true]at hk
  have h1:=inB_iff.1 hk.2
  refine⟨by rw[Zdl];omega,fun y hy=>?_⟩
  unfold Zes at hy
  obtain⟨i,_,rfl⟩:=List.mem_map.1 hy
  have h2:=Zbg hk.1.2
  have:=Zvv hk.1.1 (Zab s) (0+i*(Zab s).length) (Zab s).length
  rw[Zac]at this
  rw[Zac]
  exact⟨by omega,by omega⟩
 ·cases h
theorem Z71 {l:List Int} {s:ByteArray} {d n:Int} {r:ByteArray} (h:rcvR l s d n=some r):r.size≤600:=by
 unfold rcvR at h
 split at h
 ·next hk=>
  obtain rfl:=Option.some.inj h
  rw[Bool.and_eq_true]at hk
  have h1:=inB_iff.1 hk.2
  rw[Zaq,Zh2,Zdl];omega
 ·cases h
theorem Zah2 {l:List Stn} {S:List Int} {nm:ByteArray} {n:Int} {r:ByteArray} (h:crcR l S nm n=some r):r.size≤600:=by
 unfold crcR at h
 split at h
 ·exact Z71 h
 ·cases h
theorem rn_sz {s t x n:Int} {r:ByteArray} (h:rnR s t x n=some r):r.size≤600:=by
 unfold rnR at h
 split at h
 ·next hk=>
  obtain rfl:=Option.some.inj h
  rw[Bool.and_eq_true]at hk
  have h1:=inB_iff.1 hk.2
  rw[Zaq,Zdf];omega
 ·cases h
theorem Zon {α:Type} {r:Option α} {F:α→ByteArray} {N:Nat} (h:∀x,r=some x→(F x).size≤N):∀p,r.map F=some p→p.size≤N:=fun p hp=>by
 obtain⟨x,hx,rfl⟩:=Option.map_eq_some_iff.1 hp
 exact h x hx
theorem Zpb {s:ByteArray} (h:s.size≤600):(Zaf s).size≤601:=by have:=Zhp s;omega
theorem Znx (r:Int×Int×Int):(rgT r.1 r.2.1 r.2.2).size≤66:=by
 by_cases hr:regB r.1 r.2.1 r.2.2=true
 ·exact Zk2 hr
 ·unfold rgT;rw[if_neg hr];decide
theorem Z1x {s:ByteArray} (h:s.size≤20000):(Zbi 32 ((allR s).map Zaf)).size≤2100000:=by
 have h1:=Zgc (c:=32) (M:=101) (ps:=(allR s).map Zaf) fun p hp=>by
  obtain⟨x,hx,rfl⟩:=List.mem_map.1 hp
  have:=Zhp x
  have:=Zv7 s _ _ x hx
  omega
 have h2:(allR s).length≤s.size+1:=Zo8 s _ _
 rw[List.length_map]at h1
 have:(allR s).length*102≤20001*102:=Nat.mul_le_mul_right _ (by omega)
 omega
theorem cmd_ok {m m':Mch} {f:List ByteArray} {o:ByteArray} {k:Nat} (h:cmd m k f=some (m',o)) (hm:OkM m) (hf:∀i,(fld f i).size≤20000):OkM m'∧o.size≤2100000:=by
 have W:∀{N:Nat},N≤2100000→OkM m'∧o.size≤N→OkM m'∧o.size≤2100000:=fun hN h=>⟨h.1,Nat.le_trans h.2 hN⟩
 unfold cmd at h
 split at h
 ·split at h
  ·obtain⟨rfl,rfl⟩:m=m'∧_=o:=by simpa using h
   exact W (N:=66) (by omega) ⟨hm,Zk2 hm.1⟩
  ·obtain⟨r,hr,he⟩:=Option.map_eq_some_iff.1 h
   obtain⟨rfl,rfl⟩:m.setR r=m'∧sokT=o:=by simpa using he
   obtain⟨s,t,x⟩:=r
   exact⟨⟨(Z1u hr).2.2,hm.2.1,hm.2.2⟩,by decide⟩
 ·obtain⟨n,_,h⟩:=Option.bind_eq_some_iff.1 h
  obtain⟨r,hr,he⟩:=Option.map_eq_some_iff.1 h
  obtain⟨rfl,rfl⟩:m.setR r=m'∧rgT r.1 r.2.1 r.2.2=o:=by simpa using he
  have:=Zrx hr
  exact W (N:=66) (by omega) ⟨⟨this,hm.2.1,hm.2.2⟩,Zk2 this⟩
 ·obtain⟨rfl,rfl⟩:m=m'∧_=o:=by simpa using h
  refine⟨hm,?_⟩
  have h1:=Zde (Zux m.s m.t m.x)
  have h2:=Zde (Zpt m.s m.t m.x)
  rw[Zap,Zap]
  show _+1+_≤_
  omega
 ·obtain⟨n,_,h⟩:=Option.bind_eq_some_iff.1 h
  exact W (N:=601) (by omega) (Zia h hm (Zon fun x hx=>Zpb (rn_sz hx)))
 ·obtain⟨a,_,h⟩:=Option.bind_eq_some_iff.1 h
  obtain⟨b,_,h⟩:=Option.bind_eq_some_iff.1 h
  exact W (N:=6601) (by omega) (Zia h hm (Zon fun x hx=>Zhn (n:=300) (Zmx hx).1 (Zmx hx).2))
 ·exact W (N:=66) (by omega) (Zia h hm (Zon fun x _=>Znx x))
 ·obtain⟨n,_,h⟩:=Option.bind_eq_some_iff.1 h
  split at h
  ·cases h
  ·obtain⟨rfl,rfl⟩:m=m'∧_=o:=by simpa using h
   exact W (N:=6601) (by omega) ⟨hm,Zhn (n:=300) (Z4l n).1 (Z4l n).2⟩
 ·obtain⟨n,_,h⟩:=Option.bind_eq_some_iff.1 h
  exact W (N:=21) (by omega) (Zia h hm (Zon fun x hx=>Zde (Z1r hx)))
 ·split at h
  ·cases h
  ·obtain⟨rfl,rfl⟩:m=m'∧_=o:=by simpa using h
   exact W (N:=21) (by omega) ⟨hm,Zde (Z3s _ _)⟩
 ·obtain⟨a,_,h⟩:=Option.bind_eq_some_iff.1 h
  obtain⟨b,_,h⟩:=Option.bind_eq_some_iff.1 h
  obtain⟨c,_,h⟩:=Option.bind_eq_some_iff.1 h
  obtain⟨d,_,h⟩:=Option.bind_eq_some_iff.1 h
  exact W (N:=600) (by omega) (Zia h hm fun x hx=>Z7s hx)
 ·obtain⟨a,_,h⟩:=Option.bind_eq_some_iff.1 h
  obtain⟨b,_,h⟩:=Option.bind_eq_some_iff.1 h
  exact W (N:=600) (by omega) (Zia h hm fun x hx=>Zag2 hx)
 ·exact W (N:=600) (by omega) (Zia h hm fun x hx=>Zag5 hx)
 ·exact W (N:=66001) (by omega) (Z7l h hm fun l hl=>Zno hl)
 ·obtain⟨n,_,h⟩:=Option.bind_eq_some_iff.1 h
  exact W (N:=66001) (by omega) (Z7l h hm fun l hl=>Z1k hl)
 ·obtain⟨rfl,rfl⟩:m=m'∧_=o:=by simpa using h
  exact W (N:=66001) (by omega) ⟨hm,Zu3 hm.2.2⟩
 ·obtain⟨n,_,h⟩:=Option.bind_eq_some_iff.1 h
  exact W (N:=13201) (by omega) (Zia h hm (Zon fun x hx=>Zhn (n:=600) (Zxs hx).1 (Zxs hx).2))
 ·obtain⟨a,_,h⟩:=Option.bind_eq_some_iff.1 h
  obtain⟨b,_,h⟩:=Option.bind_eq_some_iff.1 h
  exact W (N:=601) (by omega) (Zia h hm (Zon fun x hx=>Zpb (Z71 hx)))
 ·exact W (N:=600) (by omega) (Zia h hm fun x hx=>Zahf hx)
 ·split at h
  ·cases h
  ·obtain⟨rfl,rfl⟩:m=m'∧_=o:=by simpa using h
   exact⟨hm,Z1x (hf 0)⟩
 ·obtain⟨n,_,h⟩:=Option.bind_eq_some_iff.1 h
  exact W (N:=600) (by omega) (Zia h hm fun x hx=>pr_sz hx)
 ·obtain⟨n,_,h⟩:=Option.bind_eq_some_iff.1 h
  exact W (N:=601) (by omega) (Zia h hm (Zon fun x hx=>Zpb (op_sz hx)))
 ·split at h
  ·obtain⟨rfl,rfl⟩:m=m'∧_=o:=by simpa using h
   exact W (N:=489) (by omega) ⟨hm,Zle _⟩
  ·obtain⟨r,hr,he⟩:=Option.map_eq_some_iff.1 h
   obtain⟨rfl,rfl⟩:m.setC r=m'∧sokT=o:=by simpa using he
   exact⟨⟨hm.1,Zpo hr,hm.2.2⟩,by decide⟩
 ·obtain⟨a,_,h⟩:=Option.bind_eq_some_iff.1 h
  obtain⟨b,_,h⟩:=Option.bind_eq_some_iff.1 h
  exact W (N:=489) (by omega) (Zaas h hm fun l hl=>Zvz hl)
 ·exact W (N:=489) (by omega) (Zaas h hm fun l hl=>Z2d hl)
 ·obtain⟨n,_,h⟩:=Option.bind_eq_some_iff.1 h
  exact W (N:=489) (by omega) (Zaas h hm fun l hl=>Zrd hl)
 ·exact W (N:=66001) (by omega) (Z7l h hm fun l hl=>Z0m hl)
 ·obtain⟨n,_,h⟩:=Option.bind_eq_some_iff.1 h
  exact W (N:=601) (by omega) (Zia h hm (Zon fun x hx=>Zpb (Zah2 hx)))
 ·obtain⟨rfl,rfl⟩:mch0=m'∧sokT=o:=by simpa using h
  exact⟨Zac7,by decide⟩
theorem Zabn {l r:ByteArray} (h:Zfu l=some r):r.size≤l.size:=by
 unfold Zfu at h
 split at h
 ·obtain rfl:=Option.some.inj h
  rw[Zfi,List.length_drop]
  have:=(List.dropWhile_sublist (l:=bts l) fun b=>b != 32).length_le
  rw[Zbz]at this
  omega
 ·cases h
theorem Zaks (l:ByteArray):∀p∈Zi7 l,p.size≤l.size:=by
 intro p hp
 unfold Zi7 at hp
 cases h:Zfu l with
 |none=>rw[h]at hp;cases hp
 |some r=>rw[h]at hp;exact Nat.le_trans (Zdk hp) (Zabn h)
theorem fld_sz {f:List ByteArray} {N:Nat} (h:∀p∈f,p.size≤N) (i:Nat):(fld f i).size≤N:=by
 unfold fld
 rcases Nat.lt_or_ge i f.length with hi|hi
 ·have:f.getD i ⟨#[]⟩=f[i]:=by simp[List.getD,hi]
  rw[this];exact h _ (List.getElem_mem hi)
 ·have:f.getD i ⟨#[]⟩=⟨#[]⟩:=by simp[List.getD,List.getElem?_eq_none hi]
  rw[this];exact Nat.zero_le _
theorem Z8f {m:Mch} {l:ByteArray} (hm:OkM m) (hl:l.size≤20000):OkM (exec m l).1∧(exec m l).2.size≤2100000:=by
 unfold exec
 split
 ·next k hk=>
  split
  ·cases hc:cmd m k (Zi7 l)with
   |none=>exact⟨hm,show noT.size≤2100000 by decide⟩
   |some r=>
    obtain⟨m',o⟩:=r
    exact cmd_ok hc hm fun i=>fld_sz (fun p hp=>Nat.le_trans (Zaks l p hp) hl) i
  ·exact⟨hm,show whatT.size≤2100000 by decide⟩
 ·exact⟨hm,show whatT.size≤2100000 by decide⟩
def nT (l:List Int) (k:Nat):ByteArray:=Zbi 32 ((l.map decT).take k)
theorem Zab9 (l:List Int):nT l 0=⟨#[]⟩:=rfl
theorem Zag7 {l:List Int} {k:Nat} (h:k<l.length) (h0:k=0):nT l k++decT l[k]=nT l (k+1):=by
 subst h0
 apply Zae
 rw[Zg0]
 unfold nT Zbi
 rw[Zbv,Zbv,List.take_succ_eq_append_getElem (by simpa using h)]
 simp[Lib.join_one,Lib.join_nil]
theorem Z9a {l:List Int} {k:Nat} (h:k<l.length) (h0:0<k):nT l k++⟨#[32]⟩++decT l[k]=nT l (k+1):=by
 apply Zae
 rw[Zg0,Zg0]
 unfold nT Zbi
 rw[Zbv,Zbv,List.take_succ_eq_append_getElem (by simpa using h),List.map_append,List.map_singleton,Zly _ _ (by
  intro e
  have:=congrArg List.length e
  rw[List.length_map,List.length_take,List.length_map,List.length_nil]at this
  omega),List.getElem_map]
 rfl
theorem Zagw {l:List Int} {k:Nat} (h:l.length≤k):nT l k=Zbi 32 (l.map decT):=by unfold nT;rw[List.take_of_length_le (by simpa using h)]
theorem Z9k {l:List Int} (h:∀x∈l,I64 x) (k:Nat):(nT l k).size≤k*22:=by
 unfold nT Zbi
 rw[Zfi]
 have:=Ziv (M:=21) (s:=[32]) rfl (ps:=((l.map decT).take k).map bts) (fun p hp=>by
  obtain⟨x,hx,rfl⟩:=List.mem_map.1 hp
  obtain⟨y,hy,rfl⟩:=List.mem_map.1 (List.mem_of_mem_take hx)
  exact Zcl (h y hy).1 (h y hy).2)
 have h2:(((l.map decT).take k).map bts).length≤k:=by rw[List.length_map,List.length_take];omega
 have h3:=Nat.mul_le_mul_right 22 h2
 omega
theorem Zcx {ao:Option Addr} {n c:Nat} {l:List Int} {w:World} (h:Rd w ao n l) (hi:∀x∈l,I64 x) (hn6:n≤1000000) (htab:TabW w):
 Calls Tryz.prog 202 #[.slice ao n c] w fun e w'=>e= .returned (.string (nmsT l))∧Below w.heap.size w w':=by
 have HN:=Lib.hid h.1
 have HI:=Lib.hid hi
 have HFY:=Lib.hid (show nmsT l=Zaf (Zbi 32 (l.map decT))from rfl)
 have HML:=Lib.hid (show(l.map decT).length=n by rw[List.length_map];exact HN.out.symm)
 clear hi
 go_enter Tryz.func202,Tryz.ntmps202
 go_wp2_with (at_make;refine Zcd 24 9 16 ByteArray.empty Tryz.underlying24 Zd2 rfl (by decide) w rfl _ _ rfl .i64 .i64 n rfl rfl (by omega) ?_;intro w2 hownF hbF)
 have hF:=FillF.start (L:=l.map decT) hownF HML.out (by simp)
 have hb2:=hbF
 clear hownF
 obtain⟨g,hg⟩:∃g,g=w.heap.size:=⟨_,rfl⟩
 rw[←hg]at hF hb2 hbF ⊢
 have HG:=Lib.hid hg
 clear hg
 go_wp2_with fail
 go_loopw [11] (fun i wr=>∃k:Nat,k≤n∧i= .int .i64 k∧Zaaj wr g g n (l.map decT) (List.replicate n ByteArray.empty) k∧Below g w wr) (fun i _=>n-(intOf i).toNat)
 case atStart=>exact⟨0,Nat.zero_le _,rfl,hF,hb2⟩
 case round=>
  clear hF hb2 hbF
  obtain⟨k,hk,rfl,hF,hb⟩:=hrel
  obtain⟨wo,hwo⟩:∃wo:World,wo=wr:=⟨_,rfl⟩
  subst hwo
  have hgz:=hF.lt
  have hbG:Below w.heap.size w wo:=by rw[←HG.out];exact hb
  have hS:=h.below hbG
  have hT:=htab.below hbG
  by_cases hlt:k<n
  ·obtain⟨bk,off,rfl,hl,s0⟩:=hS.at hlt
   have hI1:I64 l[k]:=HI.out _ (List.getElem_mem _)
   have HGT:=Lib.hid (show ∀hl':k<(l.map decT).length,(l.map decT)[k]'hl'=decT l[k]from fun hl'=>List.getElem_map _)
   generalize l[k]=st at*
   obtain⟨z,hcz⟩:=hF.cell hlt
   have hfz:=hF.free k
   clear hS
   go_wp2_with fail
   refine(Zob _ _ hI1 hT).mono ?_;rintro e w5 ⟨rfl,hb5⟩
   have hFa:=hF.alter hb5
   obtain⟨z,hcz'⟩:=hFa.cell hlt
   have hfz':=hFa.free k
   have hst2:=hFa.step hlt (y:=.string (decT st)) (fun hl'=>by rw[HGT.out hl'])
   have hbw:=hb.trans (hb5.mono (Nat.le_of_lt hgz))
   have hbw2:=hFa.below hbw (.string (decT st))
   clear hF hT hbw hb
   go_wp2_with fail
   go_roundw
   case rel=>exact⟨k+1,by omega,by go_num,hst2,hbw2⟩
   case measure=>simp[intOf];omega
  ·obtain rfl:k=n:=by omega
   have hat:=fun j (hj:j<k)=>hF.at hj (Nat.le_refl k)
   have HAT:=Lib.hid hat
   clear hat hF hb hS hT hgz
   by_cases hk0:k=0
   ·have HR:=Lib.hid (show Zaf (⟨#[]⟩:ByteArray)=nmsT l by
     rw[HFY.out]
     have:l=[]:=List.length_eq_zero_iff.1 (by have:=HN.out;omega)
     rw[this];rfl)
    obtain rfl:=hk0
    go_wp2_with fail
    refine(Tryz.strings_Join_none _ _ _ _).mono ?_;rintro e w' ⟨rfl,rfl⟩
    go_wp2_with fail
    refine(Zcg _ _).mono ?_;rintro e w' ⟨rfl,rfl⟩
    rw[HR.out]
    go_wp2_with fail
    go_ret
    exact⟨rfl,hbG⟩
   ·have hjc:∀(j:Nat) x,(l.map decT)[j]?=some x→wo.cell? ⟨g,0+j,none⟩=some (.string x):=by
     intro j x hx
     obtain⟨hj,hx2⟩:=List.getElem?_eq_some_iff.1 hx
     obtain⟨hl,hc⟩:=HAT.out j (by rw[←HML.out];exact hj)
     rw[Nat.zero_add,hc]
     rw[hx2]
    have hgl:g<wo.heap.size:=by
     obtain⟨hl,hc⟩:=HAT.out 0 (by omega)
     exact Zaa hc
    have hjl:(Lib.join ((l.map decT).map (·.data.toList)) (⟨#[32]⟩:ByteArray).data.toList).length≤140737488355328:=by
     have:=Ziv (M:=21) (s:=[32]) rfl (ps:=(l.map decT).map bts) (fun p hp=>by
      obtain⟨x,hx,rfl⟩:=List.mem_map.1 hp
      obtain⟨y,hy,rfl⟩:=List.mem_map.1 hx
      exact Zcl (HI.out y hy).1 (HI.out y hy).2)
     rw[List.length_map,HML.out]at this
     show(Lib.join ((l.map decT).map bts) [32]).length≤_
     omega
    have HJ:=Tryz.strings_Join g 0 k (l.map decT) (⟨#[32]⟩:ByteArray) wo hjc hgl (by rw[HML.out];omega) (by rw[HML.out];exact Nat.le_refl _) hjl
    rw[HML.out]at HJ
    have HJT:=Lib.hid (show(⟨(Lib.join ((l.map decT).map (·.data.toList)) (⟨#[32]⟩:ByteArray).data.toList).toArray⟩:ByteArray)=Zbi 32 (l.map decT)from rfl)
    have HJ':=Lib.hid HJ
    clear hjc hjl HJ hk0
    go_wp2_with fail
    refine HJ'.out.mono ?_;rintro e w6 ⟨rfl,hb6⟩
    rw[HJT.out]
    have hbF:=hbG.trans (hb6.mono hbG.size)
    go_wp2_with fail
    refine(Zcg _ _).mono ?_;rintro e w' ⟨rfl,rfl⟩
    rw[←HFY.out]
    go_wp2_with fail
    go_ret
    exact⟨rfl,hbF⟩
theorem Zfe {ao:Option Addr} {n c:Nat} {l:List Int} {w:World} (h:Rd w ao n l) (hi:∀x∈l,I63 x) (hn6:n≤1000000):
 Calls Tryz.prog 145 #[.slice ao n c] w fun e w'=>e= .returned (.string (nmsT l))∧Below w.heap.size w w':=by
 have HN:=Lib.hid h.1
 have HI:=Lib.hid hi
 have HFY:=Lib.hid (show nmsT l=Zaf (Zbi 32 (l.map decT))from rfl)
 clear hi
 have HO0:=Lib.hid (Zab9 l).symm
 go_enter Tryz.func145,Tryz.ntmps145
 go_wp2_with fail
 go_loopw [3,4] (fun o i wr=>∃k:Nat,k≤n∧i= .int .i64 k∧o= .string (nT l k)∧Below w.heap.size w wr) (fun _ i _=>n-(intOf i).toNat)
 case atStart=>exact⟨0,Nat.zero_le _,rfl,rfl,Below.refl _ _⟩
 case round=>
  obtain⟨k,hk,rfl,rfl,hb⟩:=hrel
  obtain⟨wo,hwo⟩:∃wo:World,wo=wr:=⟨_,rfl⟩
  subst hwo
  have hS:=h.below hb
  by_cases hlt:k<n
  ·obtain⟨bk,off,rfl,hl,s0⟩:=hS.at hlt
   have hI1:I63 l[k]:=HI.out _ (List.getElem_mem _)
   have hI64:∀x∈l,I64 x:=fun x hx=>⟨by have:=(HI.out x hx).1;omega,(HI.out x hx).2⟩
   have hoz:=Z9k hI64 k
   have hdz:=Zcl (hI64 _ (List.getElem_mem hl)).1 (hI64 _ (List.getElem_mem hl)).2
   have hcase:(¬(0:Int)<(k:Int)∧∃X,X=nT l k∧X++decT l[k]=nT l (k+1))∨((0:Int)<(k:Int)∧nT l k++⟨#[32]⟩++decT l[k]=nT l (k+1)):=by
    by_cases e:k=0
    ·exact .inl ⟨by omega,_,rfl,Zag7 hl e⟩
    ·exact .inr ⟨by omega,Z9a hl (by omega)⟩
   have HCS:=Lib.hid hcase
   clear hcase hS hI64
   generalize l[k]=st at*
   generalize hOk:nT l k=O at*
   have HOK:=Lib.hid hOk
   clear hOk
   rcases HCS.out with ⟨h0,hX⟩|⟨h0,hX⟩
   ·obtain⟨X,rfl,hX⟩:=hX
    have HXN:=Lib.hid hX
    clear hX HOK
    have n1:¬X.size+(decT st).size>9223372036854775807:=by omega
    have n1':¬9223372036854775807<X.size+(decT st).size:=by omega
    go_wp2_with fail
    refine(Zq7 _ _ hI1).mono ?_;rintro e w5 ⟨rfl,hb5⟩
    have hbw:=hb.trans (hb5.mono hb.size)
    clear hb
    go_wp2_with fail
    rw[HXN.out]
    go_roundw
    case rel=>exact⟨k+1,by omega,by go_num,rfl,hbw⟩
    case measure=>simp[intOf];omega
   ·obtain⟨X,hX0⟩:∃X,X=O++(⟨#[32]⟩:ByteArray):=⟨_,rfl⟩
    rw[←hX0]at hX
    have hXz:X.size≤k*22+1:=by rw[hX0,ByteArray.size_append];have:(⟨#[32]⟩:ByteArray).size=1:=rfl;omega
    have HXN:=Lib.hid hX
    have HX0:=Lib.hid hX0
    clear hX hX0 HOK
    have n0:¬O.size+1>9223372036854775807:=by omega
    have n0':¬9223372036854775807<O.size+1:=by omega
    have n1:¬X.size+(decT st).size>9223372036854775807:=by omega
    have n1':¬9223372036854775807<X.size+(decT st).size:=by omega
    go_wp2_with fail
    refine(Zq7 _ _ hI1).mono ?_;rintro e w5 ⟨rfl,hb5⟩
    have hbw:=hb.trans (hb5.mono hb.size)
    clear hb
    rw[←HX0.out]
    go_wp2_with fail
    rw[HXN.out]
    go_roundw
    case rel=>exact⟨k+1,by omega,by go_num,rfl,hbw⟩
    case measure=>simp[intOf];omega
  ·obtain rfl:k=n:=by omega
   have HA:=Lib.hid (Zagw (l:=l) (k:=k) (by have:=HN.out;omega))
   rw[HA.out]
   have hbE:=hb
   go_wp2_with fail
   refine(Zev _ _).mono ?_;rintro e w' ⟨rfl,rfl⟩
   rw[←HFY.out]
   go_wp2_with fail
   go_ret
   exact⟨rfl,hbE⟩
theorem Zc4 (b:Bool) (x:ByteArray) (w:World) (hx:x.size≤1099511627776):Calls Tryz.prog 147 #[.bool b,.string x] w fun e w'=>e= .returned (.string (if b=true then x++nlT else noT++nlT))∧w'=w:=by
 have n1:¬x.size+1>9223372036854775807:=by omega
 have n1':¬9223372036854775807<x.size+1:=by omega
 have n1'':¬9223372036854775807≤x.size:=by omega
 cases b
 ·have HR:=Lib.hid (show(⟨#[110,111,10]⟩:ByteArray)=noT++nlT from rfl)
  go_enter Tryz.func147,Tryz.ntmps147
  go_wp2_with fail
  go_ret
  exact⟨congrArg (fun z=>Ending.returned (Value.string z)) HR.out,rfl⟩
 ·have HR:=Lib.hid (show(⟨#[10]⟩:ByteArray)=nlT from rfl)
  go_enter Tryz.func147,Tryz.ntmps147
  go_wp2_with fail
  go_ret
  exact⟨rfl,rfl⟩
def badN:Int:= -9223372036854775807
theorem Zch (t:ByteArray) (w:World) (ht:t.size≤1099511627776):Calls Tryz.prog 220 #[.string t] w fun e w'=>e= .returned (.int .i64 ((numT t).getD badN))∧w'=w:=by
 rcases hn:numT t with _|x
 ·have H0:=Lib.hid (show(numT t).getD 0=0 by rw[hn];rfl)
  have H1:=Lib.hid (show(numT t).isSome=false by rw[hn];rfl)
  go_enter Tryz.func220,Tryz.ntmps220
  go_wp2_with fail
  refine(Zlk t _ (by omega)).mono ?_;rintro e w' ⟨rfl,rfl⟩
  rw[H0.out,H1.out]
  go_wp2_with fail
  go_ret
  exact⟨rfl,rfl⟩
 ·have H0:=Lib.hid (show(numT t).getD 0=x by rw[hn];rfl)
  have H1:=Lib.hid (show(numT t).isSome=true by rw[hn];rfl)
  go_enter Tryz.func220,Tryz.ntmps220
  go_wp2_with fail
  refine(Zlk t _ (by omega)).mono ?_;rintro e w' ⟨rfl,rfl⟩
  rw[H0.out,H1.out]
  go_wp2_with fail
  go_ret
  exact⟨rfl,rfl⟩
def numZ (s:ByteArray):Int:=(numT s).getD 0
theorem Zjx {fs:List ByteArray} {k:Nat} (hk:k<fs.length) (h:numT fs[k]=none):allO numT fs=none:=by
 cases hr:allO numT fs with
 |none=>rfl
 |some r=>
  obtain⟨h1,h2⟩:=Zm3 hr
  have:=h2 k hk (by omega)
  rw[h]at this;cases this
theorem Zpg {fs:List ByteArray} (h:∀j (hj:j<fs.length),(numT fs[j]).isSome=true):allO numT fs=some (fs.map numZ):=
 Zq8 (by simp) fun i hi hi'=>by
  have:=h i hi
  obtain⟨x,hx⟩:=Option.isSome_iff_exists.1 this
  rw[List.getElem_map]
  unfold numZ
  rw[hx];rfl
theorem Zaay {w:World} {lo:Nat} {v:Value} {l:List Int} (h:OwnVF (Value.int .i64) 3 w lo v l):OwnV w lo v l:=h
theorem Zai {ao:Option Addr} {n c:Nat} {fs:List ByteArray} {w:World} (h:RdT w ao n fs) (hz:∀p∈fs,p.size≤1099511627776):
 Calls Tryz.prog 201 #[.slice ao n c] w (RetIntsB w (allO numT fs)):=by
 have HN:=Lib.hid h.1
 have HZ:=Lib.hid hz
 have HML:=Lib.hid (show(fs.map numZ).length=n by rw[List.length_map];exact HN.out.symm)
 have hn6:=h.2.1
 clear hz
 go_enter Tryz.func201,Tryz.ntmps201
 go_wp2_with (at_make;refine Zcd 27 3 8 (0:Int) Tryz.underlying27 Zpi rfl (by decide) w rfl _ _ rfl .i64 .i64 n rfl rfl (by omega) ?_;intro w2 hownF hbF)
 have hF:=FillF.start (L:=fs.map numZ) hownF HML.out (by simp)
 have hb2:=hbF
 clear hownF
 obtain⟨g,hg⟩:∃g,g=w.heap.size:=⟨_,rfl⟩
 rw[←hg]at hF hb2 hbF ⊢
 have HG:=Lib.hid hg
 clear hg
 go_wp2_with fail
 go_loopw [14] (fun i wr=>∃k:Nat,k≤n∧i= .int .i64 k∧Hid (∀j (hj:j<fs.length),j<k→(numT fs[j]).isSome=true)∧FillF (Value.int .i64) 3 wr g g n (fs.map numZ) (List.replicate n 0) k∧Below g w wr) (fun i _=>n-(intOf i).toNat)
 case atStart=>exact⟨0,Nat.zero_le _,rfl,Lib.hid (fun j _ hj=>absurd hj (by omega)),hF,hb2⟩
 case round=>
  clear hF hb2 hbF
  obtain⟨k,hk,rfl,HA,hF,hb⟩:=hrel
  obtain⟨wo,hwo⟩:∃wo:World,wo=wr:=⟨_,rfl⟩
  subst hwo
  have hbG:Below w.heap.size w wo:=by rw[←HG.out];exact hb
  have hS:=h.below hbG
  by_cases hlt:k<n
  ·obtain⟨bk,off,rfl,hl,s0⟩:=hS.at hlt
   have hz1:=HZ.out _ (List.getElem_mem hl)
   rcases hv:numT fs[k]with _|x
   ·have HR:=Lib.hid (Zjx hl hv)
    have H0:=Lib.hid (show(numT fs[k]).getD 0=0 by rw[hv];rfl)
    have H1:=Lib.hid (show(numT fs[k]).isSome=false by rw[hv];rfl)
    clear hv hS hF
    generalize fs[k]=st at*
    go_wp2_with fail
    refine(Zbl st _ hz1).mono ?_;rintro e w5 ⟨rfl,rfl⟩
    rw[H0.out,H1.out]
    go_wp2_with fail
    go_ret2
    exact Zbd HR.out hbG
   ·have HNX:=Lib.hid (show ∀j (hj:j<fs.length),j<k+1→(numT fs[j]).isSome=true from fun j hj hj2=>by
     rcases Nat.lt_succ_iff_lt_or_eq.1 hj2 with h'|rfl
     ·exact HA.out j hj h'
     ·rw[hv];rfl)
    have H0:=Lib.hid (show(numT fs[k]).getD 0=x by rw[hv];rfl)
    have H1:=Lib.hid (show(numT fs[k]).isSome=true by rw[hv];rfl)
    have HGT:=Lib.hid (show ∀hl':k<(fs.map numZ).length,(fs.map numZ)[k]'hl'=x from fun hl'=>by rw[List.getElem_map];exact H0.out)
    clear hv hS
    generalize fs[k]=st at*
    obtain⟨z,hcz⟩:=hF.cell hlt
    have hfz:=hF.free k
    have hst2:=hF.step hlt (y:=.int .i64 x) (fun hl'=>by rw[HGT.out hl'])
    have hbw2:=hF.below hb (.int .i64 x)
    clear hF hb
    go_wp2_with fail
    refine(Zbl st _ hz1).mono ?_;rintro e w5 ⟨rfl,rfl⟩
    rw[H0.out,H1.out]
    go_wp2_with fail
    go_roundw
    case rel=>exact⟨k+1,by omega,by go_num,HNX,hst2,hbw2⟩
    case measure=>simp[intOf];omega
  ·obtain rfl:k=n:=by omega
   have HR:=Lib.hid (Zpg fun j hj=>HA.out j hj (by have:=HN.out;omega))
   have hd:=Zaay (hF.done (Nat.le_refl k))
   clear hF hS
   go_wp2_with fail
   go_ret2
   exact Zc0 (by rw[←HG.out];exact hd) (by rw[HML.out];omega) (by rw[HR.out];rfl) (by rw[HR.out];rfl) hbG
theorem Zpw {p q:Byts} (h:(32:UInt8) ∉ p):(p++32::q).takeWhile (fun b=>b != 32)=p:=by
 rw[List.takeWhile_append_of_pos (fun b hb=>by rw[bne_iff_ne];rintro rfl;exact h hb),List.takeWhile_cons];simp
theorem Zq0 {p q:Byts} (h:(32:UInt8) ∉ p):(p++32::q).dropWhile (fun b=>b != 32)=32::q:=by
 rw[List.dropWhile_append_of_pos (fun b hb=>by rw[bne_iff_ne];rintro rfl;exact h hb),List.dropWhile_cons];simp
theorem Zsn {p:Byts} (h:(32:UInt8) ∉ p):p.takeWhile (fun b=>b != 32)=p:=by
 have:=List.takeWhile_append_of_pos (p:=fun b=>b != (32:UInt8)) (l₁:=p) (l₂:=[]) (fun b hb=>by rw[bne_iff_ne];rintro rfl;exact h hb)
 simpa using this
theorem Zaf2 (s:ByteArray):(⟨(Lib.cut s.data.toList (⟨#[32]⟩:ByteArray).data.toList).1.toArray⟩:ByteArray)=Zf8 s∧
 (⟨(Lib.cut s.data.toList (⟨#[32]⟩:ByteArray).data.toList).2.1.toArray⟩:ByteArray)=(Zfu s).getD ⟨#[]⟩∧(Lib.cut s.data.toList (⟨#[32]⟩:ByteArray).data.toList).2.2=(Zfu s).isSome:=by
 have e:(⟨#[32]⟩:ByteArray).data.toList=[32]:=rfl
 rw[e]
 unfold Lib.cut
 rcases Zr1 s.data.toList 32 with h|⟨p,h⟩
 ·have hf:(32:UInt8) ∉ bts s:=Zsz h
  rw[h,if_neg (by decide)]
  refine⟨?_,?_,?_⟩
  ·show txt (bts s)=Zf8 s
   unfold Zf8;rw[Zsn hf]
  ·unfold Zfu;rw[if_neg hf];rfl
  ·unfold Zfu;rw[if_neg hf];rfl
 ·obtain⟨h1,h2,h3⟩:=Zs9 h
  have h3':bts s=(bts s).take p++32::(bts s).drop (p+1):=h3
  have hm:(32:UInt8)∈bts s:=by rw[h3'];simp
  have hp:(32:UInt8) ∉ (bts s).take p:=h2
  rw[h,if_pos (Int.natCast_nonneg p)]
  have ht:((p:Int)).toNat=p:=rfl
  refine⟨?_,?_,?_⟩
  ·show txt ((bts s).take ((p:Int)).toNat)=Zf8 s
   unfold Zf8
   conv=>rhs;rw[h3',Zpw hp]
   rfl
  ·show txt ((bts s).drop (((p:Int)).toNat+1))=_
   unfold Zfu
   rw[if_pos hm]
   conv=>rhs;rw[h3',Zq0 hp]
   rfl
  ·unfold Zfu;rw[if_pos hm];rfl
theorem Zad9 (s:ByteArray) (w:World) (hm:MaxW w) (hs:s.size≤1000000000):Calls Tryz.prog 133 #[.string s,.string ⟨#[32]⟩] w fun e w'=>e= .returned (.tuple #[.string (Zf8 s),.string ((Zfu s).getD ⟨#[]⟩),.bool (Zfu s).isSome])∧Qw w w':=by
 obtain⟨m,hm⟩:=hm
 refine(Tryz.strings_Cut s ⟨#[32]⟩ m w (by omega) hm).mono ?_
 rintro e w' ⟨rfl,n,rfl⟩
 obtain⟨h1,h2,h3⟩:=Zaf2 s
 rw[h1,h2,h3]
 exact⟨rfl,n,rfl⟩
def FormsW (w:World):Prop:=∃b off c,w.cell? ⟨0,0,none⟩=some (.slice (some ⟨b,off,none⟩) 28 c)∧
 ∀k,k<28→w.cell? ⟨b,off+k*3,none⟩=some (.string (txt (lits.getD k [])))∧w.cell? ⟨b,off+k*3+1,none⟩=some (.int .i64 (leastL.getD k 0:Nat))∧w.cell? ⟨b,off+k*3+2,none⟩=some (.int .i64 (mostL.getD k 0:Nat))
theorem FormsW.below {w w':World} (h:FormsW w) (hb:Below w.heap.size w w'):FormsW w':=by
 obtain⟨b,off,c,h1,h2⟩:=h
 refine⟨b,off,c,by rw[hb.cell (Zaa h1)];exact h1,fun k hk=>?_⟩
 obtain⟨c0,c1,c2⟩:=h2 k hk
 exact⟨by rw[hb.cell (Zaa c0)];exact c0,by rw[hb.cell (Zaa c1)];exact c1,by rw[hb.cell (Zaa c2)];exact c2⟩
def isF (wo:ByteArray) (n:Nat):Bool:=match wrd wo with|some k=>Zce k n|none=>false
theorem wrd_at {wo:ByteArray} {k:Nat} (hk:k<28) (h:bts wo=lits.getD k []) (hno:∀j,j<k→bts wo≠lits.getD j []):wrd wo=some k:=by
 unfold wrd
 have hl:lits.length=28:=rfl
 have hg:∀j (hj:j<lits.length),lits.getD j []=lits[j]:=fun j hj=>by simp[List.getD,hj]
 rw[List.findIdx?_eq_some_iff_getElem]
 refine⟨by omega,?_,fun j hj=>?_⟩
 ·rw[decide_eq_true_eq,h,hg]
 ·rw[decide_eq_true_eq,←hg j (by omega)];exact hno j hj
theorem wrd_no {wo:ByteArray} (hno:∀j,j<28→bts wo≠lits.getD j []):wrd wo=none:=by
 unfold wrd
 rw[List.findIdx?_eq_none_iff]
 intro l hl
 obtain⟨j,hj,rfl⟩:=List.getElem_of_mem hl
 have hj':j<28:=hj
 have:=hno j hj'
 rw[decide_eq_false_iff_not]
 intro e
 apply this
 rw[e];simp[List.getD,hj]
theorem Zadj {k n:Nat} {b:Bool} (h:(decide ((leastL.getD k 0:Int)≤n)&&decide ((n:Int)≤(mostL.getD k 0:Nat)))=b):Zce k n=b:=by
 rw[←h];unfold Zce
 congr 1<;>exact decide_eq_decide.2 (by omega)
theorem Zo5 (wo:ByteArray) (n:Nat) (w:World) (hf:FormsW w):Calls Tryz.prog 134 #[.string wo,.int .i64 n] w fun e w'=>e= .returned (.bool (isF wo n))∧Below w.heap.size w w':=by
 obtain⟨b,off,c,hg,hrow⟩:=hf
 go_enter Tryz.func134,Tryz.ntmps134
 go_wp2
 go_loopw [9] (fun i wr=>∃k:Nat,k≤28∧i= .int .i64 k∧Hid (∀j,j<k→bts wo≠lits.getD j [])∧Below w.heap.size w wr) (fun i _=>28-(intOf i).toNat)
 case atStart=>exact⟨0,Nat.zero_le _,rfl,Lib.hid (fun j hj=>absurd hj (by omega)),Below.refl _ _⟩
 case round=>
  obtain⟨k,hk,rfl,HO,hb⟩:=hrel
  by_cases hlt:k<28
  ·obtain⟨d0,d1,d2⟩:=hrow k hlt
   have c0:=(hb.cell (Zaa d0)).trans d0
   have c1:=(hb.cell (Zaa d1)).trans d1
   have c2:=(hb.cell (Zaa d2)).trans d2
   have HLT:=Lib.hid (show bts (txt (lits.getD k []))=lits.getD k []from rfl)
   have hle:leastL.getD k 0≤20001:=by
    have:∀j,j<28→leastL.getD j 0≤20001:=by decide
    exact this k hlt
   have hme:mostL.getD k 0≤20001:=by
    have:∀j,j<28→mostL.getD j 0≤20001:=by decide
    exact this k hlt
   have HF:=Lib.hid (fun b=>Zadj (k:=k) (n:=n) (b:=b))
   clear d0 d1 d2 hrow
   generalize hL:lits.getD k []=L at*
   have HL:=Lib.hid hL
   clear hL
   generalize txt L=lt at*
   generalize leastL.getD k 0=le at*
   generalize mostL.getD k 0=mo at*
   have hb2:Below w.heap.size w (wr.alloc (.cells #[.string lt,.int .i64 le,.int .i64 mo] 172)):=hb.alloc hb.size _
   by_cases h3:bts wo=L
   ·have h3':(lt.toList==wo.toList)=true:=Zu6 (l:=wo.toList) (by rw[HLT.out,Zck,h3])
    have HW:=Lib.hid (wrd_at hlt (h3.trans HL.out.symm) HO.out)
    have HI:=Lib.hid (show ∀b,(decide ((le:Int)≤n)&&decide ((n:Int)≤(mo:Nat)))=b→isF wo n=b from fun b hb=>by unfold isF;rw[HW.out];exact HF.out b hb)
    clear h3
    by_cases h4:(le:Int)≤n
    ·by_cases h5:(n:Int)≤mo
     ·have HR:=Lib.hid (HI.out true (by rw[decide_eq_true h4,decide_eq_true h5];rfl))
      go_wp2_with fail
      go_ret
      exact⟨Zav HR.out.symm,hb2⟩
     ·have HR:=Lib.hid (HI.out false (by rw[decide_eq_true h4,decide_eq_false h5];rfl))
      go_wp2_with fail
      go_ret
      exact⟨Zav HR.out.symm,hb2⟩
    ·have HR:=Lib.hid (HI.out false (by rw[decide_eq_false h4];rfl))
     go_wp2_with fail
     go_ret
     exact⟨Zav HR.out.symm,hb2⟩
   ·have h3':(lt.toList==wo.toList)=false:=Zou (by rw[HLT.out,Zck];exact fun e=>h3 e.symm)
    have HNX:=Lib.hid (show ∀j,j<k+1→bts wo≠lits.getD j []from fun j hj=>by
     rcases Nat.lt_succ_iff_lt_or_eq.1 hj with hj|rfl
     ·exact HO.out j hj
     ·rw[HL.out];exact h3)
    clear h3
    go_wp2_with fail
    go_roundw
    case rel=>exact⟨k+1,by omega,by go_num,HNX,hb2⟩
    case measure=>simp[intOf];omega
  ·have HR:=Lib.hid (show isF wo n=false by unfold isF;rw[wrd_no fun j hj=>HO.out j (by omega)])
   go_wp2
   go_ret
   exact⟨Zav HR.out.symm,hb⟩
theorem RdS.gr {w w':World} {ao:Option Addr} {n g:Nat} {l:List Stn} (h:RdS w ao n l) (hg:w.grownBy w' (some g)) (hne:∀a,ao=some a→a.block≠g):RdS w' ao n l:=by
 refine⟨h.1,h.2.1,fun i hi=>?_⟩
 obtain⟨b,off,h1,c0,c1,c2,c3⟩:=h.2.2 i hi
 have hb:=hg.block b (Zaa c0) (fun e=>hne _ h1 (by injection e))
 exact⟨b,off,h1,by rw[World.cell?_of_block (w:=w) hb];exact c0,by rw[World.cell?_of_block (w:=w) hb];exact c1,by rw[World.cell?_of_block (w:=w) hb];exact c2,by rw[World.cell?_of_block (w:=w) hb];exact c3⟩
theorem Zel {w w1 w2:World} {g:Nat} (h:w.grownBy w1 (some g)) (k:w1.grownBy w2 (some g)):w.grownBy w2 (some g):=
 ⟨k.os.trans h.os,k.tape.trans h.tape,k.output.trans h.output,Nat.le_trans h.size k.size,fun j hj hne=>(k.block j (Nat.lt_of_lt_of_le hj h.size) hne).trans (h.block j hj hne)⟩
def Tg (w:World) (ao:Option Addr) (t:TypeId):Prop:=∀a,ao=some a→∃cs fr,w.heap[a.block]?=some (.cells cs t fr)
theorem Tg.lt {w:World} {ao:Option Addr} {t:TypeId} (h:Tg w ao t):∀a,ao=some a→a.block<w.heap.size:=fun a e=>by
 obtain⟨cs,fr,hb⟩:=h a e
 exact(Array.getElem?_eq_some_iff.1 hb).1
theorem Tg.below {w w':World} {ao:Option Addr} {t:TypeId} (h:Tg w ao t) (hb:Below w.heap.size w w'):Tg w' ao t:=fun a e=>by
 have hl:=h.lt a e
 obtain⟨cs,fr,h1⟩:=h a e
 exact⟨cs,fr,by rw[hb.block _ hl];exact h1⟩
theorem Tg.gr {w w':World} {ao:Option Addr} {t:TypeId} {b:Nat} (h:Tg w ao t) (hg:w.grownBy w' (some b)) (hne:∀a,ao=some a→a.block≠b):Tg w' ao t:=fun a e=>by
 have hl:=h.lt a e
 obtain⟨cs,fr,h1⟩:=h a e
 exact⟨cs,fr,by rw[hg.block _ hl (fun x=>hne a e (by injection x))];exact h1⟩
theorem Tg.ne {w:World} {ao:Option Addr} {t t':TypeId} {b:Nat} {cs:Array Value} (h:Tg w ao t) (hb:Box w b cs t') (hne:t≠t'):∀a,ao=some a→a.block≠b:=fun a e x=>by
 obtain⟨ds,fr,h1⟩:=h a e
 rw[x]at h1
 unfold Box at hb
 rw[hb]at h1
 cases h1
 exact hne rfl
theorem Tg.none (w:World) (t:TypeId):Tg w none t:=fun a e=>by cases e
theorem Zack {w:World} {lo n c:Nat} {ao:Option Addr} {l:List Int} (h:Own w lo ao n c l):Tg w ao 3:=fun a e=>by
 subst e
 rcases h.2.2.2 with ⟨h1,_⟩|⟨g,cap,cur,hv,_,hb,_⟩
 ·cases h1
 ·cases hv;exact⟨_,_,hb⟩
theorem Zu1 {w:World} {lo n c:Nat} {ao:Option Addr} {l:List Stn} (h:OwnS w lo ao n c l):Tg w ao 37:=fun a e=>by
 subst e
 rcases h.2.2.2 with ⟨h1,_⟩|⟨g,cap,cur,hv,_,hb,_⟩
 ·cases h1
 ·cases hv;exact⟨_,_,hb⟩
def RadP (w:World) (b:Nat) (m:Mch) (ao:Option Addr) (n c:Nat) (bo:Option Addr) (k d:Nat):Prop:=
 Box w b #[.int .i64 m.s,.int .i64 m.t,.int .i64 m.x,.slice ao n c,.slice bo k d] 87∧RdS w ao n m.C∧n≤c∧Rd w bo k m.S∧Tg w ao 37∧Tg w bo 3
def RadW (w:World) (b:Nat) (m:Mch):Prop:=∃ao n c bo k d,RadP w b m ao n c bo k d
theorem RadP.neC {w:World} {b:Nat} {m:Mch} {ao bo:Option Addr} {n c k d:Nat} (h:RadP w b m ao n c bo k d):∀a,ao=some a→a.block≠b:=h.2.2.2.2.1.ne h.1 (by decide)
theorem RadP.neS {w:World} {b:Nat} {m:Mch} {ao bo:Option Addr} {n c k d:Nat} (h:RadP w b m ao n c bo k d):∀a,bo=some a→a.block≠b:=h.2.2.2.2.2.ne h.1 (by decide)
theorem RadP.lt {w:World} {b:Nat} {m:Mch} {ao bo:Option Addr} {n c k d:Nat} (h:RadP w b m ao n c bo k d):b<w.heap.size:=h.1.lt
theorem RadP.below {w w':World} {b:Nat} {m:Mch} {ao bo:Option Addr} {n c k d:Nat} (h:RadP w b m ao n c bo k d) (hb:Below w.heap.size w w'):RadP w' b m ao n c bo k d:=
 ⟨h.1.below hb h.1.lt,h.2.1.below hb,h.2.2.1,h.2.2.2.1.below hb,h.2.2.2.2.1.below hb,h.2.2.2.2.2.below hb⟩
theorem RadP.w {w:World} {b:Nat} {m:Mch} {ao bo:Option Addr} {n c k d:Nat} (h:RadP w b m ao n c bo k d):RadW w b m:=⟨_,_,_,_,_,_,h⟩
theorem RadW.below {w w':World} {b:Nat} {m:Mch} (h:RadW w b m) (hb:Below w.heap.size w w'):RadW w' b m:=by
 obtain⟨ao,n,c,bo,k,d,h⟩:=h
 exact(h.below hb).w
theorem RadP.reg {w:World} {b:Nat} {m:Mch} {ao bo:Option Addr} {n c k d:Nat} (h:RadP w b m ao n c bo k d):w.cell? ⟨b,0,none⟩=some (.int .i64 m.s)∧w.cell? ⟨b,1,none⟩=some (.int .i64 m.t)∧w.cell? ⟨b,2,none⟩=some (.int .i64 m.x):=⟨h.1.cell rfl,h.1.cell rfl,h.1.cell rfl⟩
theorem RadP.cel {w:World} {b:Nat} {m:Mch} {ao bo:Option Addr} {n c k d:Nat} (h:RadP w b m ao n c bo k d):w.cell? ⟨b,3,none⟩=some (.slice ao n c):=h.1.cell rfl
theorem RadP.sig {w:World} {b:Nat} {m:Mch} {ao bo:Option Addr} {n c k d:Nat} (h:RadP w b m ao n c bo k d):w.cell? ⟨b,4,none⟩=some (.slice bo k d):=h.1.cell rfl
theorem RadP.setR {w:World} {b:Nat} {m:Mch} {ao bo:Option Addr} {n c k d:Nat} (h:RadP w b m ao n c bo k d) (s t x:Int):RadP (((w.setCell ⟨b,0,none⟩ (.int .i64 s)).setCell ⟨b,1,none⟩ (.int .i64 t)).setCell ⟨b,2,none⟩ (.int .i64 x)) b (m.setR (s,t,x)) ao n c bo k d:=
 ⟨((h.1.set2 0 (.int .i64 s)).set2 1 (.int .i64 t)).set2 2 (.int .i64 x),((h.2.1.gr (Za1 b 0 _) h.neC).gr (Za1 b 1 _) h.neC).gr (Za1 b 2 _) h.neC,h.2.2.1,
   ((h.2.2.2.1.gr (Za1 b 0 _) fun a e _=>h.neS a e).gr (Za1 b 1 _) fun a e _=>h.neS a e).gr (Za1 b 2 _) fun a e _=>h.neS a e,
   ((h.2.2.2.2.1.gr (Za1 b 0 _) h.neC).gr (Za1 b 1 _) h.neC).gr (Za1 b 2 _) h.neC,((h.2.2.2.2.2.gr (Za1 b 0 _) h.neS).gr (Za1 b 1 _) h.neS).gr (Za1 b 2 _) h.neS⟩
theorem Z8v (w:World) (b:Nat) (x y z:Value):w.grownBy (((w.setCell ⟨b,0,none⟩ x).setCell ⟨b,1,none⟩ y).setCell ⟨b,2,none⟩ z) (some b):=Zel (Zel (Za1 b 0 x) (Za1 b 1 y)) (Za1 b 2 z)
theorem RadP.setC {w:World} {b:Nat} {m:Mch} {ao bo:Option Addr} {n c k d:Nat} (h:RadP w b m ao n c bo k d) {ao':Option Addr} {n' c':Nat} {l:List Stn} (h':RdS w ao' n' l) (hc:n'≤c') (hg:Tg w ao' 37):RadP (w.setCell ⟨b,3,none⟩ (.slice ao' n' c')) b (m.setC l) ao' n' c' bo k d:=
 ⟨h.1.set2 3 _,h'.gr (Za1 b 3 _) (hg.ne h.1 (by decide)),hc,h.2.2.2.1.gr (Za1 b 3 _) fun a e _=>h.neS a e,hg.gr (Za1 b 3 _) (hg.ne h.1 (by decide)),h.2.2.2.2.2.gr (Za1 b 3 _) h.neS⟩
theorem RadP.setS {w:World} {b:Nat} {m:Mch} {ao bo:Option Addr} {n c k d:Nat} (h:RadP w b m ao n c bo k d) {bo':Option Addr} {k' d':Nat} {l:List Int} (h':Rd w bo' k' l) (hg:Tg w bo' 3):RadP (w.setCell ⟨b,4,none⟩ (.slice bo' k' d')) b (m.setS l) ao n c bo' k' d':=
 ⟨h.1.set2 4 _,h.2.1.gr (Za1 b 4 _) h.neC,h.2.2.1,h'.gr (Za1 b 4 _) fun a e _=>hg.ne h.1 (by decide) a e,h.2.2.2.2.1.gr (Za1 b 4 _) h.neC,hg.gr (Za1 b 4 _) (hg.ne h.1 (by decide))⟩
theorem TabW.gr {w w':World} {b:Nat} (h:TabW w) (hg:w.grownBy w' (some b)) (hne:1≠b):TabW w':=by
 have hgn:Tryz.prog.globalNamed "internal/strconv.uint64pow10" =some 1:=by kernel_rfl
 unfold TabW Lib.TabIs World.var? at h ⊢
 rw[hgn]at h ⊢
 simp only[Option.bind_some]at h ⊢
 have hlt:1<w.heap.size:=by
  rcases Nat.lt_or_ge 1 w.heap.size with h'|h'
  ·exact h'
  ·rw[Array.getElem?_eq_none h']at h;cases h
 rw[hg.block _ hlt (fun e=>hne (by injection e))]
 exact h
def RetM (w:World) (b:Nat) (m:Mch) (r:Option (Mch×ByteArray)) (e:Ending) (w':World):Prop:=
 ∃o,e= .returned (.tuple #[.string o,.bool r.isSome])∧(∀p,r=some p→p.2=o)∧RadW w' b ((r.map Prod.fst).getD m)∧w.grownBy w' (some b)
theorem Za5 {w w':World} {b:Nat} {m:Mch} {r:Option (Mch×ByteArray)} {o:ByteArray} (hr:r=none) (h:RadW w' b m) (hg:w.grownBy w' (some b)):RetM w b m r (.returned (.tuple #[.string o,.bool false])) w':=by
 subst hr;exact⟨o,rfl,(fun p hp=>by cases hp),h,hg⟩
theorem Zbh {w w':World} {b:Nat} {m m':Mch} {r:Option (Mch×ByteArray)} {o:ByteArray} (hr:r=some (m',o)) (h:RadW w' b m') (hg:w.grownBy w' (some b)):RetM w b m r (.returned (.tuple #[.string o,.bool true])) w':=by
 subst hr;exact⟨o,rfl,(fun p hp=>by cases hp;rfl),h,hg⟩
theorem Zne {w:World} {b:Nat} (s t x:Int):Calls Tryz.prog 199 #[.pointer (some ⟨b,0,none⟩),.agg #[.int .i64 s,.int .i64 t,.int .i64 x],.bool false] w fun e w'=>e= .returned (.tuple #[.string ⟨#[]⟩,.bool false])∧Below w.heap.size w w':=by
 have hb0:Below w.heap.size w (w.alloc (.cells #[.int .i64 s,.int .i64 t,.int .i64 x] 46)):=(Below.refl _ _).alloc (Nat.le_refl _) _
 go_enter Tryz.func199,Tryz.ntmps199
 go_wp2_with fail
 go_ret2
 exact⟨rfl,hb0⟩
theorem Zl6 {w:World} {b:Nat} {m:Mch} (s t x:Int) (h:RadW w b m) (htab:TabW w) (hgb:1≠b):Calls Tryz.prog 199 #[.pointer (some ⟨b,0,none⟩),.agg #[.int .i64 s,.int .i64 t,.int .i64 x],.bool true] w fun e w'=>e= .returned (.tuple #[.string (rgT s t x),.bool true])∧RadW w' b (m.setR (s,t,x))∧w.grownBy w' (some b):=by
 obtain⟨ao,n,c,bo,k,d,h⟩:=h
 obtain⟨d0,d1,d2⟩:=h.reg
 have f0:=h.1.free 0
 have f1:=h.1.free 1
 have f2:=h.1.free 2
 have hbz:=h.lt
 have hg3:=Z8v w b (.int .i64 s) (.int .i64 t) (.int .i64 x)
 have hP:=h.setR s t x
 have hT:=htab.gr hg3 hgb
 have hb1:Below (((w.setCell ⟨b,0,none⟩ (.int .i64 s)).setCell ⟨b,1,none⟩ (.int .i64 t)).setCell ⟨b,2,none⟩ (.int .i64 x)).heap.size (((w.setCell ⟨b,0,none⟩ (.int .i64 s)).setCell ⟨b,1,none⟩ (.int .i64 t)).setCell ⟨b,2,none⟩ (.int .i64 x))
  ((((w.setCell ⟨b,0,none⟩ (.int .i64 s)).setCell ⟨b,1,none⟩ (.int .i64 t)).setCell ⟨b,2,none⟩ (.int .i64 x)).alloc (.cells #[.int .i64 s,.int .i64 t,.int .i64 x] 46)):=(Below.refl _ _).alloc (Nat.le_refl _) _
 have hT1:=hT.below hb1
 go_enter Tryz.func199,Tryz.ntmps199
 go_wp2_with fail
 refine(Zb8 s t x _ hT1).mono ?_;rintro e w2 ⟨rfl,hb2⟩
 have hb3:=hb1.trans (hb2.mono hb1.size)
 go_wp2_with fail
 go_ret2
 exact⟨rfl,(hP.below hb3).w,Zel hg3 (Zad hb3 _)⟩
theorem setCell_n {w:World} {b:Nat} {ao:Option Addr} {n c:Nat}:Calls Tryz.prog 212 #[.pointer (some ⟨b,0,none⟩),.slice ao n c,.bool false] w fun e w'=>e= .returned (.tuple #[.string ⟨#[]⟩,.bool false])∧Below w.heap.size w w':=by
 go_enter Tryz.func212,Tryz.ntmps212
 go_wp2_with fail
 go_ret2
 exact⟨rfl,Below.refl _ _⟩
theorem Zmy {w:World} {b:Nat} {m:Mch} {ao:Option Addr} {n c:Nat} {l:List Stn} (h:RadW w b m) (h':RdS w ao n l) (hc:n≤c) (htg:Tg w ao 37) (htab:TabW w) (hgb:1≠b):Calls Tryz.prog 212 #[.pointer (some ⟨b,0,none⟩),.slice ao n c,.bool true] w fun e w'=>e= .returned (.tuple #[.string (fmtT l),.bool true])∧RadW w' b (m.setC l)∧w.grownBy w' (some b):=by
 obtain⟨ao0,n0,c0,bo,k,d,h⟩:=h
 have d3:=h.cel
 have f3:=h.1.free 3
 have hbz:=h.lt
 have hg3:=Za1 (w:=w) b 3 (.slice ao n c)
 have hP:=h.setC h' hc htg
 have hne:=htg.ne h.1 (by decide)
 have hT:=htab.gr hg3 hgb
 have hR:=h'.gr hg3 hne
 go_enter Tryz.func212,Tryz.ntmps212
 go_wp2_with fail
 refine(Zoq hR hc hT).mono ?_;rintro e w2 ⟨rfl,hb2⟩
 go_wp2_with fail
 go_ret2
 exact⟨rfl,(hP.below hb2).w,Zel hg3 (Zad hb2 _)⟩
theorem setSignal_n {w:World} {b:Nat} {ao:Option Addr} {n c:Nat}:Calls Tryz.prog 209 #[.pointer (some ⟨b,0,none⟩),.slice ao n c,.bool false] w fun e w'=>e= .returned (.tuple #[.string ⟨#[]⟩,.bool false])∧Below w.heap.size w w':=by
 go_enter Tryz.func209,Tryz.ntmps209
 go_wp2_with fail
 go_ret2
 exact⟨rfl,Below.refl _ _⟩
theorem Zlr {w:World} {b:Nat} {m:Mch} {ao:Option Addr} {n c:Nat} {l:List Int} (h:RadW w b m) (h':Rd w ao n l) (hi:∀x∈l,I64 x) (hn6:n≤1000000) (htg:Tg w ao 3) (htab:TabW w) (hgb:1≠b):Calls Tryz.prog 209 #[.pointer (some ⟨b,0,none⟩),.slice ao n c,.bool true] w fun e w'=>e= .returned (.tuple #[.string (nmsT l),.bool true])∧RadW w' b (m.setS l)∧w.grownBy w' (some b):=by
 obtain⟨ao0,n0,c0,bo,k,d,h⟩:=h
 have d4:=h.sig
 have f4:=h.1.free 4
 have hbz:=h.lt
 have hg3:=Za1 (w:=w) b 4 (.slice ao n c)
 have hP:=h.setS (d':=c) h' htg
 have hne:=htg.ne h.1 (by decide)
 have hT:=htab.gr hg3 hgb
 have hR:=h'.gr hg3 fun a e _=>hne a e
 have HI:=Lib.hid hi
 clear hi
 go_enter Tryz.func209,Tryz.ntmps209
 go_wp2_with fail
 refine(Zcx hR HI.out hn6 hT).mono ?_;rintro e w2 ⟨rfl,hb2⟩
 go_wp2_with fail
 go_ret2
 exact⟨rfl,(hP.below hb2).w,Zel hg3 (Zad hb2 _)⟩
theorem Z1w {l:List ByteArray} (h:l.length=3):∃a b c,l=[a,b,c]:=by
 match l,h with
 |[a,b,c],_=>exact⟨a,b,c,rfl⟩
theorem Zaec {p:ByteArray} (h:(cutT 32 p).length≠3):parG p=none:=by
 unfold parG
 split
 ·next a b c e=>rw[e]at h;exact absurd rfl h
 ·rfl
theorem Z6j {p a b c:ByteArray} (h:cutT 32 p=[a,b,c]):parG p=match numT a,numT b,numT c with
 |some s,some t,some x=>if regB s t x=true then some (s,t,x)else none
 |_,_,_=>none:=by unfold parG;rw[h];rfl
theorem Zek {w w':World} {r:Option (Int×Int×Int)} (hr:r=none) (hb:Below w.heap.size w w'):Zey w r (.returned (.tuple #[.agg #[.int .i64 0,.int .i64 0,.int .i64 0],.bool false])) w':=by subst hr;exact⟨rfl,hb⟩
theorem Zr8 {w w':World} {r:Option (Int×Int×Int)} {s t x:Int} (hr:r=some (s,t,x)) (hb:Below w.heap.size w w'):Zey w r (.returned (.tuple #[.agg #[.int .i64 s,.int .i64 t,.int .i64 x],.bool true])) w':=by subst hr;exact⟨rfl,hb⟩
theorem Zj8 (p:ByteArray) (w:World) (hm:MaxW w) (hs:p.size≤1000000000):Calls Tryz.prog 200 #[.string p] w (Zey w (parG p)):=by
 have hB0:Below w.heap.size w (w.alloc (.cells #[.int .i64 0,.int .i64 0,.int .i64 0] 46)):=(Below.refl _ _).alloc (Nat.le_refl _) _
 have hU0:=Za4 w 0 0 0
 have hm0:=hm.below hB0
 have hz0:=hU0.lt
 have hsz:=Zii (c:=32) hs
 have hc9:(cutT 32 p).length≤1000000001:=by have:=Zgl (c:=32) (s:=p);omega
 by_cases h3:(cutT 32 p).length=3
 ·obtain⟨a,b,c,hf⟩:=Z1w h3
  have HP:=Lib.hid (Z6j hf)
  have HS:=Lib.hid (fun c (h:MaxW c)=>Zlp p 32 c h hs)
  rw[hf]at hsz HS
  have za:=hsz a (by simp)
  have zb:=hsz b (by simp)
  have zc:=hsz c (by simp)
  clear hsz h3 hc9 hf
  obtain⟨ra,hra⟩:∃ra,numT a=ra:=⟨_,rfl⟩
  obtain⟨rb,hrb⟩:∃rb,numT b=rb:=⟨_,rfl⟩
  obtain⟨rc,hrc⟩:∃rc,numT c=rc:=⟨_,rfl⟩
  rw[hra,hrb,hrc]at HP
  have HA:=Lib.hid hra
  have HB:=Lib.hid hrb
  have HC:=Lib.hid hrc
  clear hra hrb hrc
  go_enter Tryz.func200,Tryz.ntmps200
  go_wp2_with fail
  refine(HS.out _ hm0).mono ?_;rintro e w1 ⟨rfl,rfl⟩
  have hBE:=hB0.alloc (Nat.le_of_lt hz0) (.cells ([a,b,c].map Value.string).toArray 9)
  have hU1:=hU0.alloc (.cells ([a,b,c].map Value.string).toArray 9)
  have hF:=Box.new (w.alloc (.cells #[.int .i64 0,.int .i64 0,.int .i64 0] 46)) ([a,b,c].map Value.string).toArray 9
  have hGz:=hF.lt
  have hG1:w.heap.size<(w.alloc (.cells #[.int .i64 0,.int .i64 0,.int .i64 0] 46)).heap.size:=hz0
  clear hU0 hB0 hm0
  generalize (w.alloc (.cells #[.int .i64 0,.int .i64 0,.int .i64 0] 46)).alloc (.cells ([a,b,c].map Value.string).toArray 9)=W1 at*
  generalize (w.alloc (.cells #[.int .i64 0,.int .i64 0,.int .i64 0] 46)).heap.size=G at*
  have hBF:=hBE.alloc (show w.heap.size≤W1.heap.size by omega) (.cells #[.int .i64 0,.int .i64 0,.int .i64 0] 205)
  have hU2:=hU1.alloc (.cells #[.int .i64 0,.int .i64 0,.int .i64 0] 205)
  have hF2:=hF.alloc (.cells #[.int .i64 0,.int .i64 0,.int .i64 0] 205)
  have hV2:Box (W1.alloc (.cells #[.int .i64 0,.int .i64 0,.int .i64 0] 205)) W1.heap.size (([0,0,0]:List Int).map (Value.int .i64)).toArray 205:=by
   exact Box.new W1 #[.int .i64 0,.int .i64 0,.int .i64 0] 205
  clear hBE hU1 hF
  go_wp2_with fail
  generalize hw2:W1.alloc (.cells #[.int .i64 0,.int .i64 0,.int .i64 0] 205)=W2 at*
  generalize W1.heap.size=V at*
  go_loopw [19] (fun i wr=>∃(k:Nat) (n0 n1 n2:Int),k≤3∧i= .int .i64 k∧Hid (1≤k→ra=some n0)∧Hid (2≤k→rb=some n1)∧Hid (3≤k→rc=some n2)∧Box wr V (([n0,n1,n2]:List Int).map (Value.int .i64)).toArray 205∧RegAt wr w.heap.size 0 0 0∧Box wr G ([a,b,c].map Value.string).toArray 9∧Below w.heap.size w wr) (fun i _=>3-(intOf i).toNat)
  case atStart=>exact⟨0,0,0,0,by omega,rfl,Lib.hid (fun h=>absurd h (by omega)),Lib.hid (fun h=>absurd h (by omega)),Lib.hid (fun h=>absurd h (by omega)),hV2,hU2,hF2,hBF⟩
  case round=>
   clear hV2 hU2 hF2 hBF hw2
   obtain⟨k,n0,n1,n2,hk,rfl,HK0,HK1,HK2,hV,hU,hF,hb⟩:=hrel
   rcases(show k=0∨k=1∨k=2∨k=3 by omega)with rfl|rfl|rfl|rfl
   ·have cf:=hF.cell (i:=0) (v:=.string a) rfl
    cases hq:ra with
    |none=>
     have hr:=Lib.hid (show parG p=none by rw[HP.out,hq])
     have HQ:=Lib.hid hq
     have d0:=hU.c0
     have d1:=hU.c1
     have d2:=hU.c2
     have f0:=hU.free 0
     have f1:=hU.free 1
     have f2:=hU.free 2
     clear hq
     go_wp2_with fail
     refine(Zbl a _ (by omega)).mono ?_;rintro e w' ⟨rfl,rfl⟩
     rw[HA.out,HQ.out]
     simp only[Option.getD_none,Option.isSome_none]
     go_wp2_with fail
     refine bodyPost_ret (v:=.tuple #[.agg #[.int .i64 0,.int .i64 0,.int .i64 0],.bool false]) (by simp[results,Tryz.results200,go_sem,d0,d1,d2]) rfl (Zek hr.out ?_)
     refine Below.setCell (Below.setCell (Below.setCell hb (by simp) _) (by simp) _) (by simp) _
    |some y=>
     have HY:=Lib.hid hq
     have cv:=Zgq hV (i:=0) (by simp)
     have fv:=hV.free 0
     have hV3:=Zpu hV 0 y
     have hU3:=hU.other (a:=⟨V,0,none⟩) (by simp;omega) (.int .i64 y)
     have hF3:=hF.other (a:=⟨V,0,none⟩) (by simp;omega) (.int .i64 y)
     have hb3:=hb.setCell (p:=⟨V,0,none⟩) (show w.heap.size≤V by omega) (.int .i64 y)
     clear hq hV hU hF hb
     go_wp2_with fail
     refine(Zbl a _ (by omega)).mono ?_;rintro e w' ⟨rfl,rfl⟩
     rw[HA.out,HY.out]
     simp only[Option.getD_some,Option.isSome_some]
     go_wp2_with fail
     go_roundw
     case rel=>exact⟨1,y,n1,n2,by omega,rfl,Lib.hid (fun _=>rfl),Lib.hid (fun h=>absurd h (by omega)),Lib.hid (fun h=>absurd h (by omega)),hV3,hU3,hF3,hb3⟩
     case measure=>simp[intOf]
   ·have cf:=hF.cell (i:=1) (v:=.string b) rfl
    cases hq:rb with
    |none=>
     have hr:=Lib.hid (show parG p=none by rw[HP.out,hq];split<;>simp_all)
     have HQ:=Lib.hid hq
     have d0:=hU.c0
     have d1:=hU.c1
     have d2:=hU.c2
     have f0:=hU.free 0
     have f1:=hU.free 1
     have f2:=hU.free 2
     clear hq
     go_wp2_with fail
     refine(Zbl b _ (by omega)).mono ?_;rintro e w' ⟨rfl,rfl⟩
     rw[HB.out,HQ.out]
     simp only[Option.getD_none,Option.isSome_none]
     go_wp2_with fail
     refine bodyPost_ret (v:=.tuple #[.agg #[.int .i64 0,.int .i64 0,.int .i64 0],.bool false]) (by simp[results,Tryz.results200,go_sem,d0,d1,d2]) rfl (Zek hr.out ?_)
     refine Below.setCell (Below.setCell (Below.setCell hb (by simp) _) (by simp) _) (by simp) _
    |some y=>
     have HY:=Lib.hid hq
     have cv:=Zgq hV (i:=1) (by simp)
     have fv:=hV.free 1
     have hV3:=Zpu hV 1 y
     have hU3:=hU.other (a:=⟨V,1,none⟩) (by simp;omega) (.int .i64 y)
     have hF3:=hF.other (a:=⟨V,1,none⟩) (by simp;omega) (.int .i64 y)
     have hb3:=hb.setCell (p:=⟨V,1,none⟩) (show w.heap.size≤V by omega) (.int .i64 y)
     clear hq hV hU hF hb
     go_wp2_with fail
     refine(Zbl b _ (by omega)).mono ?_;rintro e w' ⟨rfl,rfl⟩
     rw[HB.out,HY.out]
     simp only[Option.getD_some,Option.isSome_some]
     go_wp2_with fail
     go_roundw
     case rel=>exact⟨2,n0,y,n2,by omega,rfl,Lib.hid (fun _=>HK0.out (by omega)),Lib.hid (fun _=>rfl),Lib.hid (fun h=>absurd h (by omega)),hV3,hU3,hF3,hb3⟩
     case measure=>simp[intOf]
   ·have cf:=hF.cell (i:=2) (v:=.string c) rfl
    cases hq:rc with
    |none=>
     have hr:=Lib.hid (show parG p=none by rw[HP.out,hq];split<;>simp_all)
     have HQ:=Lib.hid hq
     have d0:=hU.c0
     have d1:=hU.c1
     have d2:=hU.c2
     have f0:=hU.free 0
     have f1:=hU.free 1
     have f2:=hU.free 2
     clear hq
     go_wp2_with fail
     refine(Zbl c _ (by omega)).mono ?_;rintro e w' ⟨rfl,rfl⟩
     rw[HC.out,HQ.out]
     simp only[Option.getD_none,Option.isSome_none]
     go_wp2_with fail
     refine bodyPost_ret (v:=.tuple #[.agg #[.int .i64 0,.int .i64 0,.int .i64 0],.bool false]) (by simp[results,Tryz.results200,go_sem,d0,d1,d2]) rfl (Zek hr.out ?_)
     refine Below.setCell (Below.setCell (Below.setCell hb (by simp) _) (by simp) _) (by simp) _
    |some y=>
     have HY:=Lib.hid hq
     have cv:=Zgq hV (i:=2) (by simp)
     have fv:=hV.free 2
     have hV3:=Zpu hV 2 y
     have hU3:=hU.other (a:=⟨V,2,none⟩) (by simp;omega) (.int .i64 y)
     have hF3:=hF.other (a:=⟨V,2,none⟩) (by simp;omega) (.int .i64 y)
     have hb3:=hb.setCell (p:=⟨V,2,none⟩) (show w.heap.size≤V by omega) (.int .i64 y)
     clear hq hV hU hF hb
     go_wp2_with fail
     refine(Zbl c _ (by omega)).mono ?_;rintro e w' ⟨rfl,rfl⟩
     rw[HC.out,HY.out]
     simp only[Option.getD_some,Option.isSome_some]
     go_wp2_with fail
     go_roundw
     case rel=>exact⟨3,n0,n1,y,by omega,rfl,Lib.hid (fun _=>HK0.out (by omega)),Lib.hid (fun _=>HK1.out (by omega)),Lib.hid (fun _=>rfl),hV3,hU3,hF3,hb3⟩
     case measure=>simp[intOf]
   ·have e0:=HK0.out (by omega)
    have e1:=HK1.out (by omega)
    have e2:=HK2.out (by omega)
    subst e0 e1 e2
    have v0:=Zgq hV (i:=0) (by simp)
    have v1:=Zgq hV (i:=1) (by simp)
    have v2:=Zgq hV (i:=2) (by simp)
    simp only[List.getElem_cons_zero,List.getElem_cons_succ]at v0 v1 v2
    have hR4:=Za4 wr n0 n1 n2
    have hU4:=hU.alloc (.cells #[.int .i64 n0,.int .i64 n1,.int .i64 n2] 46)
    have hb4:=hb.alloc hb.size (.cells #[.int .i64 n0,.int .i64 n1,.int .i64 n2] 46)
    have hUl:=hU4.lt
    have hRl:=hR4.lt
    cases hv:regB n0 n1 n2 with
    |true=>
     have hr:=Lib.hid (show parG p=some (n0,n1,n2)by rw[HP.out];simp only[];rw[if_pos hv])
     have HV:=Lib.hid hv
     have q0:=hR4.c0
     have q1:=hR4.c1
     have q2:=hR4.c2
     generalize hw4:wr.alloc (.cells #[.int .i64 n0,.int .i64 n1,.int .i64 n2] 46)=w4 at*
     have HW4:=Lib.hid hw4
     clear hv hw4 hV hF hU hb
     go_wp2_with fail
     rw[HW4.out]
     go_wp2_with fail
     refine(Zal n0 n1 n2 _).mono ?_;rintro e w5 ⟨rfl,hb5⟩
     rw[HV.out]
     have hU5:=hU4.below hb5 hUl
     have hR5:=hR4.below hb5 hRl
     have hb6:=hb4.trans (hb5.mono hb4.size)
     clear q0 q1 q2
     have q0:=hR5.c0
     have q1:=hR5.c1
     have q2:=hR5.c2
     have d0:=hU5.c0
     have d1:=hU5.c1
     have d2:=hU5.c2
     have f0:=hU5.free 0
     have f1:=hU5.free 1
     have f2:=hU5.free 2
     clear hU4 hR4 hU5 hR5
     go_wp2_with fail
     refine bodyPost_ret (v:=.tuple #[.agg #[.int .i64 n0,.int .i64 n1,.int .i64 n2],.bool true]) (by simp[results,Tryz.results200,go_sem,d0,d1,d2]) rfl (Zr8 hr.out ?_)
     refine Below.setCell (Below.setCell (Below.setCell hb6 (by simp) _) (by simp) _) (by simp) _
    |false=>
     have hr:=Lib.hid (show parG p=none by rw[HP.out];simp only[];rw[if_neg (by rw[hv];decide)])
     have HV:=Lib.hid hv
     have q0:=hR4.c0
     have q1:=hR4.c1
     have q2:=hR4.c2
     generalize hw4:wr.alloc (.cells #[.int .i64 n0,.int .i64 n1,.int .i64 n2] 46)=w4 at*
     have HW4:=Lib.hid hw4
     clear hv hw4 hV hF hU hb
     go_wp2_with fail
     rw[HW4.out]
     go_wp2_with fail
     refine(Zal n0 n1 n2 _).mono ?_;rintro e w5 ⟨rfl,hb5⟩
     rw[HV.out]
     have hU5:=hU4.below hb5 hUl
     have hb6:=hb4.trans (hb5.mono hb4.size)
     clear q0 q1 q2
     have d0:=hU5.c0
     have d1:=hU5.c1
     have d2:=hU5.c2
     have f0:=hU5.free 0
     have f1:=hU5.free 1
     have f2:=hU5.free 2
     clear hU4 hR4 hU5
     go_wp2_with fail
     refine bodyPost_ret (v:=.tuple #[.agg #[.int .i64 0,.int .i64 0,.int .i64 0],.bool false]) (by simp[results,Tryz.results200,go_sem,d0,d1,d2]) rfl (Zek hr.out ?_)
     refine Below.setCell (Below.setCell (Below.setCell hb6 (by simp) _) (by simp) _) (by simp) _
 ·have hr:=Lib.hid (Zaec h3)
  have HS:=Lib.hid (fun c (h:MaxW c)=>Zlp p 32 c h hs)
  have hne:(((cutT 32 p).length:Int)==3)=false:=by simp;omega
  generalize cutT 32 p=P at*
  clear hsz h3
  go_enter Tryz.func200,Tryz.ntmps200
  go_wp2_with fail
  refine(HS.out _ hm0).mono ?_;rintro e w1 ⟨rfl,rfl⟩
  have hBE:=hB0.alloc (Nat.le_of_lt hz0) (.cells (P.map Value.string).toArray 9)
  have hU1:=hU0.alloc (.cells (P.map Value.string).toArray 9)
  clear hU0 hB0 hm0
  generalize (w.alloc (.cells #[.int .i64 0,.int .i64 0,.int .i64 0] 46)).alloc (.cells (P.map Value.string).toArray 9)=W1 at*
  have d0:=hU1.c0
  have d1:=hU1.c1
  have d2:=hU1.c2
  have f0:=hU1.free 0
  have f1:=hU1.free 1
  have f2:=hU1.free 2
  clear hU1
  go_wp2_with fail
  refine bodyPost_ret (v:=.tuple #[.agg #[.int .i64 0,.int .i64 0,.int .i64 0],.bool false]) (by simp[results,Tryz.results200,go_sem,d0,d1,d2]) rfl (Zek hr.out ?_)
  refine Below.setCell (Below.setCell (Below.setCell hBE (by simp) _) (by simp) _) (by simp) _
structure EnvW (w:World) (b:Nat) (m:Mch):Prop where
 rad:RadW w b m
 tab:TabW w
 gb:1≠b
 mx:MaxW w
 ok:OkM m
theorem EnvW.below {w w':World} {b:Nat} {m:Mch} (h:EnvW w b m) (hb:Below w.heap.size w w'):EnvW w' b m:=⟨h.rad.below hb,h.tab.below hb,h.gb,h.mx.below hb,h.ok⟩
theorem Za9 {w:World} {lo n c:Nat} {ao:Option Addr} {l:List Int} (h:Own w lo ao n c l) (h0:0<n):∃g,ao=some ⟨g,0,none⟩∧g<w.heap.size∧lo≤g∧n≤c∧∀j (hj:j<l.length),w.cell? ⟨g,j,none⟩=some (.int .i64 l[j]):=by
 have hc:=h.cap
 obtain⟨hn,hs,hown⟩:=h
 rcases hown.2 with ⟨h1,h2⟩|⟨g,cap,cur,hv,hr⟩
 ·omega
 ·cases hv
  have hl:=hown.lt g rfl
  refine⟨g,rfl,hl.2,hl.1,hc,fun j hj=>?_⟩
  rw[hown.cellAt j (by omega)]
  simp[hj]
theorem Zak {w:World} {g n:Nat} {fs:List ByteArray} (h:RdT w (some ⟨g,0,none⟩) n fs) {j:Nat} (hj:j<fs.length):w.cell? ⟨g,j,none⟩=some (.string fs[j]):=by
 obtain⟨b,off,h1,h2⟩:=h.2.2 j hj
 cases h1
 rw[Nat.zero_add]at h2;exact h2
theorem Zab0 {g n c:Nat} {fs:List ByteArray} {w:World} (C:UInt8) (h:RdT w (some ⟨g,0,none⟩) n fs) (hc:n≤c) (hn:n≤2000001) (hz:∀p∈fs,p.size≤20000):
 Calls Tryz.prog 55 #[.slice (some ⟨g,0,none⟩) n c,.string ⟨#[C]⟩] w fun e w'=>e= .returned (.string (Zbi C fs))∧Below w.heap.size w w':=by
 have hl:=h.1
 rcases Nat.eq_zero_or_pos n with h0|h0
 ·obtain rfl:fs=[]:=List.length_eq_zero_iff.1 (by omega)
  subst h0
  refine(Tryz.strings_Join_none _ _ _ _).mono ?_;rintro e w' ⟨rfl,rfl⟩
  exact⟨rfl,Below.refl _ _⟩
 ·have hg:g<w.heap.size:=Zaa (Zak h (j:=0) (by omega))
  have hj:(Lib.join (fs.map (·.data.toList)) (⟨#[C]⟩:ByteArray).data.toList).length≤140737488355328:=by
   have:=Ziv (M:=20000) (s:=[C]) rfl (ps:=fs.map bts) (fun p hp=>by
    obtain⟨x,hx,rfl⟩:=List.mem_map.1 hp
    exact hz x hx)
   rw[List.length_map]at this
   have h2:fs.length*20001≤2000001*20001:=Nat.mul_le_mul_right _ (by omega)
   show(Lib.join (fs.map bts) [C]).length≤_
   omega
  have HJ:=Tryz.strings_Join g 0 c fs (⟨#[C]⟩:ByteArray) w (fun j x hx=>by
   obtain⟨hj,rfl⟩:=List.getElem?_eq_some_iff.1 hx
   rw[Nat.zero_add];exact Zak h hj) hg (by omega) (by omega) hj
  rw[←hl]at HJ
  exact HJ
theorem Zeq {l:List ByteArray} (h:l.length=1):∃a,l=[a]:=by match l,h with|[a],_=>exact⟨a,rfl⟩
theorem Zf2 {l:List ByteArray} (h:l.length=2):∃a b,l=[a,b]:=by match l,h with|[a,b],_=>exact⟨a,b,rfl⟩
theorem Z42 {l:List ByteArray} (h:l.length=4):∃a b c d,l=[a,b,c,d]:=by match l,h with|[a,b,c,d],_=>exact⟨a,b,c,d,rfl⟩
theorem Zds {a:ByteArray} (h:numT a=none):allO numT [a]=none:=Zjx (k:=0) (by simp) h
theorem Zdr {a:ByteArray} {x:Int} (h:numT a=some x):allO numT [a]=some [x]:=by
 rw[Zpg (fun j hj=>by obtain rfl:j=0:=by simpa using hj
                      show(numT a).isSome=true
                      rw[h];rfl)]
 simp[numZ,h]
theorem Zky {a b:ByteArray} (h:numT a=none∨numT b=none):allO numT [a,b]=none:=by
 rcases h with h|h
 ·exact Zjx (k:=0) (by simp) h
 ·exact Zjx (k:=1) (by simp) h
theorem Zkh {a b:ByteArray} {x y:Int} (h:numT a=some x) (h':numT b=some y):allO numT [a,b]=some [x,y]:=by
 rw[Zpg (fun j hj=>by
  rcases(show j=0∨j=1 by simp at hj;omega)with rfl|rfl
  ·show(numT a).isSome=true
   rw[h];rfl
  ·show(numT b).isSome=true
   rw[h'];rfl)]
 simp[numZ,h,h']
theorem Ziu (a b:ByteArray):(numT a=none∨numT b=none)∨∃x y,numT a=some x∧numT b=some y:=by
 rcases h:numT a with _|x
 ·exact .inl (.inl rfl)
 ·rcases h':numT b with _|y
  ·exact .inl (.inr rfl)
  ·exact .inr ⟨x,y,rfl,rfl⟩
theorem Z6z {w:World} {b g c:Nat} {m:Mch} (h:EnvW w b m):Calls Tryz.prog 135 #[.pointer (some ⟨b,0,none⟩),.string (⟨#[114,101,103,105,115,116,101,114]⟩:ByteArray),.slice (some ⟨g,0,none⟩) 0 c] w (RetM w b m (some (m,rgT m.s m.t m.x))):=by
 obtain⟨ao,n,c',bo,k,d,hP⟩:=h.rad
 obtain⟨d0,d1,d2⟩:=hP.reg
 have hT:=h.tab
 go_enter Tryz.func135,Tryz.ntmps135
 go_wp2_with fail
 refine(Zb8 m.s m.t m.x _ hT).mono ?_;rintro e w2 ⟨rfl,hb2⟩
 go_wp2_with fail
 go_ret2
 exact Zbh rfl (hP.below hb2).w (Zad hb2 _)
theorem Zabg {w:World} {b g n c:Nat} {m:Mch} {fs:List ByteArray} (h:EnvW w b m) (hf:RdT w (some ⟨g,0,none⟩) n fs) (hc:n≤c) (hn:n≤20001) (h0:0<n) (hz:∀p∈fs,p.size≤20000):
 Calls Tryz.prog 135 #[.pointer (some ⟨b,0,none⟩),.string (⟨#[114,101,103,105,115,116,101,114]⟩:ByteArray),.slice (some ⟨g,0,none⟩) n c] w (RetM w b m ((parG (Zbi 32 fs)).map fun r=>(m.setR r,sokT))):=by
 have hjz:(Zbi 32 fs).size≤1000000000:=by
  have h1:=Zgc (c:=32) hz
  have h2:fs.length*20001≤20001*20001:=Nat.mul_le_mul_right _ (by have:=hf.1;omega)
  omega
 have HJ:=Lib.hid (Zab0 32 hf hc (by omega) hz)
 have hne:((n:Int)==0)=false:=by rw[beq_eq_false_iff_ne];omega
 have hne':(n==0)=false:=by rw[beq_eq_false_iff_ne];omega
 generalize Zbi 32 fs=J at*
 rcases hp:parG J with _|⟨s,t,x⟩
 ·have HP:=Lib.hid hp
  clear hp
  go_enter Tryz.func135,Tryz.ntmps135
  go_wp2_with fail
  refine HJ.out.mono ?_;rintro e w1 ⟨rfl,hb1⟩
  have h1:=h.below hb1
  go_wp2_with fail
  refine(Zj8 J _ h1.mx hjz).mono ?_;rintro e w2 ⟨rfl,hb2⟩
  rw[HP.out]
  have h2:=h1.below hb2
  have hb12:=hb1.trans (hb2.mono hb1.size)
  go_wp2_with fail
  refine(Zne 0 0 0).mono ?_;rintro e w3 ⟨rfl,hb3⟩
  have hb13:=hb12.trans (hb3.mono hb12.size)
  go_wp2_with fail
  go_ret2
  exact Za5 rfl (h.rad.below hb13) (Zad hb13 _)
 ·have HP:=Lib.hid hp
  clear hp
  go_enter Tryz.func135,Tryz.ntmps135
  go_wp2_with fail
  refine HJ.out.mono ?_;rintro e w1 ⟨rfl,hb1⟩
  have h1:=h.below hb1
  go_wp2_with fail
  refine(Zj8 J _ h1.mx hjz).mono ?_;rintro e w2 ⟨rfl,hb2⟩
  rw[HP.out]
  have h2:=h1.below hb2
  have hb12:=hb1.trans (hb2.mono hb1.size)
  go_wp2_with fail
  refine(Zl6 s t x h2.rad h2.tab h2.gb).mono ?_;rintro e w3 ⟨rfl,hr3,hg3⟩
  go_wp2_with fail
  go_ret2
  exact Zbh rfl hr3 (Zel (Zad hb12 _) hg3)
theorem Z6t {w:World} {b g c:Nat} {m:Mch} {a:ByteArray} (h:EnvW w b m) (hf:RdT w (some ⟨g,0,none⟩) 1 [a]) (hz:∀p∈[a],p.size≤20000):
 Calls Tryz.prog 135 #[.pointer (some ⟨b,0,none⟩),.string (⟨#[106,117,109,112]⟩:ByteArray),.slice (some ⟨g,0,none⟩) 1 c] w (RetM w b m ((numT a).bind fun n=>(jmpR m.s m.t m.x n).map fun r=>(m.setR r,rgT r.1 r.2.1 r.2.2))):=by
 have HZ:=Lib.hid (show ∀p∈[a],p.size≤1099511627776 from fun p hp=>Nat.le_trans (hz p hp) (by omega))
 clear hz
 rcases hn:numT a with _|x
 ·have HA:=Lib.hid (Zds hn)
  clear hn
  go_enter Tryz.func135,Tryz.ntmps135
  go_wp2_with fail
  refine(Zai hf HZ.out).mono ?_;intro e w1 hret;rw[HA.out]at hret;obtain⟨ao1,n1,c1,rfl,_,hb1⟩:=hret.none
  go_wp2_with fail
  go_ret2
  exact Za5 rfl (h.rad.below hb1) (Zad hb1 _)
 ·have HA:=Lib.hid (Zdr hn)
  clear hn
  rcases hj:jmpR m.s m.t m.x x with _|⟨s,t,y⟩
  ·have HJ:=Lib.hid hj
   have HR:=Lib.hid (show(some x).bind (fun n=>(jmpR m.s m.t m.x n).map fun r=>(m.setR r,rgT r.1 r.2.1 r.2.2))=none by show(jmpR m.s m.t m.x x).map _=none;rw[hj];rfl)
   clear hj
   go_enter Tryz.func135,Tryz.ntmps135
   go_wp2_with fail
   refine(Zai hf HZ.out).mono ?_;intro e w1 hret;rw[HA.out]at hret;obtain⟨ao1,n1,c1,rfl,ho,hb1⟩:=hret.some
   obtain rfl:n1=1:=ho.1
   obtain⟨g1,rfl,hg1,hg1',hc1,hcl⟩:=Za9 ho (by omega)
   have e0:w1.cell? ⟨g1,0,none⟩=some (.int .i64 x):=hcl 0 (by simp)
   have h1:=h.below hb1
   obtain⟨ao,n,c',bo,k,d,hP⟩:=h1.rad
   obtain⟨d0,d1,d2⟩:=hP.reg
   clear hcl ho hret
   go_wp2_with fail
   have hbd:Below w.heap.size w w1.drew:=hb1.drew
   go_region_with (first|(go_at_call 24;refine(Zff _ _ _ x _).mono ?_;rintro e w3 ⟨rfl,hb3⟩;rw[HJ.out];have hb13:=hbd.trans (hb3.mono hbd.size))|(go_at_call 199;refine(Zne 0 0 0).mono ?_;rintro e w4 ⟨rfl,hb4⟩;have hb14:=hb13.trans (hb4.mono hb13.size)))
   all_goals
    go_wp2_with fail
    go_ret2
    exact Za5 HR.out (h.rad.below hb14) (Zad hb14 _)
  ·have HJ:=Lib.hid hj
   have HR:=Lib.hid (show(some x).bind (fun n=>(jmpR m.s m.t m.x n).map fun r=>(m.setR r,rgT r.1 r.2.1 r.2.2))=some (m.setR (s,t,y),rgT s t y)by show(jmpR m.s m.t m.x x).map _=_;rw[hj];rfl)
   clear hj
   go_enter Tryz.func135,Tryz.ntmps135
   go_wp2_with fail
   refine(Zai hf HZ.out).mono ?_;intro e w1 hret;rw[HA.out]at hret;obtain⟨ao1,n1,c1,rfl,ho,hb1⟩:=hret.some
   obtain rfl:n1=1:=ho.1
   obtain⟨g1,rfl,hg1,hg1',hc1,hcl⟩:=Za9 ho (by omega)
   have e0:w1.cell? ⟨g1,0,none⟩=some (.int .i64 x):=hcl 0 (by simp)
   have h1:=h.below hb1
   obtain⟨ao,n,c',bo,k,d,hP⟩:=h1.rad
   obtain⟨d0,d1,d2⟩:=hP.reg
   clear hcl ho hret
   go_wp2_with fail
   have hbd:Below w.heap.size w w1.drew:=hb1.drew
   have h1d:=h.below hbd
   go_region_with (first|(go_at_call 24;refine(Zff _ _ _ x _).mono ?_;rintro e w3 ⟨rfl,hb3⟩;rw[HJ.out];have h3:=h1d.below hb3;have hb13:=hbd.trans (hb3.mono hbd.size))|(go_at_call 199;refine(Zl6 s t y h3.rad h3.tab h3.gb).mono ?_;rintro e w4 ⟨rfl,hr4,hg4⟩))
   all_goals
    go_wp2_with fail
    go_ret2
    exact Zbh HR.out hr4 (Zel (Zad hb13 _) hg4)
theorem Zs4 (w:World):Calls Tryz.prog 60 #[] w fun e w'=>e= .returned (.agg #[.int .i64 3,.int .i64 3,.int .i64 1,.slice none 0 0,.slice none 0 0])∧Below w.heap.size w w':=by
 have hb0:Below w.heap.size w (w.alloc (.cells #[.int .i64 3,.int .i64 3,.int .i64 1,.slice none 0 0,.slice none 0 0] 87)):=(Below.refl _ _).alloc (Nat.le_refl _) _
 have hB:=Box.new w #[.int .i64 3,.int .i64 3,.int .i64 1,.slice none 0 0,.slice none 0 0] 87
 have d0:=hB.cell (i:=0) rfl
 have d1:=hB.cell (i:=1) rfl
 have d2:=hB.cell (i:=2) rfl
 have d3:=hB.cell (i:=3) rfl
 have d4:=hB.cell (i:=4) rfl
 go_enter Tryz.func60,Tryz.ntmps60
 go_wp2_with fail
 refine bodyPost_ret (v:=.agg #[.int .i64 3,.int .i64 3,.int .i64 1,.slice none 0 0,.slice none 0 0]) (by simp[results,Tryz.results60,go_sem,d0,d1,d2,d3,d4]) rfl ⟨rfl,hb0⟩
theorem Zpe {w w':World} {r:Option (List Stn)} {e:Ending} (h:RetSB w r e w') (hr:r=none):∃ao n c,e= .returned (.tuple #[.slice ao n c,.bool false])∧Below w.heap.size w w':=by
 subst hr;obtain⟨ao,n,c,rfl,_,hb⟩:=h;exact⟨ao,n,c,rfl,hb⟩
theorem Zm9 {w w':World} {r:Option (List Stn)} {e:Ending} {l:List Stn} (h:RetSB w r e w') (hr:r=some l):∃ao n c,e= .returned (.tuple #[.slice ao n c,.bool true])∧OwnS w' w.heap.size ao n c l∧Below w.heap.size w w':=by
 subst hr;obtain⟨ao,n,c,rfl,ho,hb⟩:=h;exact⟨ao,n,c,rfl,ho,hb⟩
end Go.Proofs.YtcjihfongfefoaaGreatDoor
