/- B Ta -/
import Derived.Test.YtcjihfongfefoaaGreatDoorRows
import Derived.WalkKit
import Derived.WalkSpells
import Derived.WalkLawsBesides
import Derived.Lib.Hide
import Derived.BigQuiet
import Derived.Deep.QuietTactic
import Derived.StillTailTactics
import Derived.Lib.SplitLaws
import Derived.Lib.ItoaNum
import Derived.Lib.ItoaLen
import Derived.Lib.ItoaMem
import Derived.Lib.Join
namespace Go.Proofs.YtcjihfongfefoaaGreatDoor
open Go.RowKit
def Qw (w w':World):Prop:=∃n,w'=w.drewN n
theorem Qw.refl (w:World):Qw w w:=⟨0,rfl⟩
theorem Qw.drewN (w:World) (n:Nat):Qw w (w.drewN n):=⟨n,rfl⟩
theorem Qw.trans {a b c:World} (h:Qw a b) (k:Qw b c):Qw a c:=by
 obtain⟨n,rfl⟩:=h
 obtain⟨m,rfl⟩:=k
 exact⟨n+m,by rw[World.drewN_drewN]⟩
theorem Qw.below {w w':World} (h:Qw w w') (B:Nat):Below B w w':=by
 obtain⟨n,rfl⟩:=h
 exact below_drewN (Below.refl _ _) n
def Rd (w:World) (ao:Option Addr) (n:Nat) (l:List Int):Prop:=
 n=l.length∧n≤1099511627776∧∀i,i<n→∃b off,ao=some ⟨b,off,none⟩∧w.cell? ⟨b,off+i,none⟩=some (.int .i64 (l.getD i 0))
def Own (w:World) (lo:Nat) (ao:Option Addr) (n c:Nat) (l:List Int):Prop:=
 n=l.length∧n≤1099511627776∧w.ownsRow lo 3 1 (.slice ao n c) n (l.map (Value.int .i64))
theorem Zaa {w:World} {a:Addr} {v:Value} (h:w.cell? a=some v):a.block<w.heap.size:=by
 unfold World.cell? at h
 cases hb:w.heap[a.block]? with
 |none=>rw[hb]at h;cases h
 |some o=>exact(Array.getElem?_eq_some_iff.1 hb).1
theorem Zju {l:List Int} {i:Nat} (hi:i<l.length):(l.map (Value.int .i64))[i]?=some (.int .i64 (l.getD i 0)):=by
 simp[List.getD,hi]
theorem Own.rd {w:World} {lo:Nat} {ao:Option Addr} {n c:Nat} {l:List Int} (h:Own w lo ao n c l):Rd w ao n l:=by
 obtain⟨hn,hs,hown⟩:=h
 refine⟨hn,hs,fun i hi=>?_⟩
 rcases hown.2 with ⟨h1,h2⟩|⟨g,cap,cur,hv,hr⟩
 ·omega
 ·cases hv
  refine⟨g,0,rfl,?_⟩
  rw[Nat.zero_add,hown.cellAt i (by omega)]
  exact Zju (by omega)
theorem Rd.below {w w':World} {ao:Option Addr} {n:Nat} {l:List Int} (h:Rd w ao n l) (hb:Below w.heap.size w w'):Rd w' ao n l:=by
 refine⟨h.1,h.2.1,fun i hi=>?_⟩
 obtain⟨b,off,h1,h2⟩:=h.2.2 i hi
 exact⟨b,off,h1,by rw[hb.cell (Zaa h2)];exact h2⟩
theorem Rd.qw {w w':World} {ao:Option Addr} {n:Nat} {l:List Int} (h:Rd w ao n l) (hq:Qw w w'):Rd w' ao n l:=h.below (hq.below _)
theorem Rd.nil (w:World):Rd w none 0 []:=⟨rfl,by omega,fun i hi=>absurd hi (by omega)⟩
theorem Rd.at {w:World} {ao:Option Addr} {n:Nat} {l:List Int} (h:Rd w ao n l) {i:Nat} (hi:i<n):
 ∃b off,ao=some ⟨b,off,none⟩∧∃hl:i<l.length,w.cell? ⟨b,off+i,none⟩=some (.int .i64 (l[i]'hl)):=by
 obtain⟨b,off,h1,h2⟩:=h.2.2 i hi
 have hl:i<l.length:=by have:=h.1;omega
 exact⟨b,off,h1,hl,by rw[h2];simp[List.getD,hl]⟩
theorem Zam {w w':World} {lo:Nat} {e:TypeId} {size:Nat} {v:Value} {n:Nat} {xs:List Value} (h:w.ownsRow lo e size v n xs) {B:Nat} (hb:Below B w w') (hB:∀k,v.ownBlock=some k→k<B):w'.ownsRow lo e size v n xs:=by
 refine⟨h.1,?_⟩
 rcases h.2 with h2|⟨g,cap,cur,hv,hg,hh,hr⟩
 ·exact .inl h2
 ·refine .inr ⟨g,cap,cur,hv,hg,?_,hr⟩
  rw[hb.block g (hB g (by rw[hv];rfl))]
  exact hh
theorem Own.below {w w':World} {lo:Nat} {ao:Option Addr} {n c:Nat} {l:List Int} (h:Own w lo ao n c l) (hb:Below w.heap.size w w'):Own w' lo ao n c l:=
 ⟨h.1,h.2.1,Zam h.2.2 hb fun k hk=>(h.2.2.lt k hk).2⟩
theorem Own.mono {w:World} {lo lo':Nat} {ao:Option Addr} {n c:Nat} {l:List Int} (h:Own w lo ao n c l) (hl:lo'≤lo):Own w lo' ao n c l:=by
 refine⟨h.1,h.2.1,h.2.2.1,?_⟩
 rcases h.2.2.2 with h2|⟨g,cap,cur,hv,hg,hr⟩
 ·exact .inl h2
 ·exact .inr ⟨g,cap,cur,hv,by omega,hr⟩
theorem Zhr (ao:Option Addr) (n c:Nat):(Value.slice ao n c).ownBlock=ao.map (·.block):=by cases ao<;>rfl
theorem Zav {x y:Bool} (h:x=y):Ending.returned (.bool x)= .returned (.bool y):=by rw[h]
theorem Zd6 {k:IntKind} {a b:Int} (h:a=b):Ending.returned (.int k a)= .returned (.int k b):=by rw[h]
theorem Rd.lt {w:World} {ao:Option Addr} {n:Nat} {l:List Int} (h:Rd w ao n l):∀b,ao=some b→0<n→b.block<w.heap.size:=by
 intro b hb hn
 obtain⟨k,off,h1,h2⟩:=h.2.2 0 hn
 rw[hb]at h1
 cases h1
 exact Zaa h2
def Box (w:World) (b:Nat) (cs:Array Value) (t:TypeId):Prop:=w.heap[b]?=some (.cells cs t (0,0))
theorem Box.cell {w:World} {b:Nat} {cs:Array Value} {t:TypeId} (h:Box w b cs t) {i:Nat} {v:Value} (hv:cs[i]?=some v):w.cell? ⟨b,i,none⟩=some v:=by unfold Box at h;simp[World.cell?,h,hv]
theorem Box.free {w:World} {b:Nat} {cs:Array Value} {t:TypeId} (h:Box w b cs t) (i:Nat):w.frozen? ⟨b,i,none⟩=false:=by unfold Box at h;simp[World.frozen?,h]
theorem Box.lt {w:World} {b:Nat} {cs:Array Value} {t:TypeId} (h:Box w b cs t):b<w.heap.size:=lt_of_block h
theorem Box.below {w w':World} {b:Nat} {cs:Array Value} {t:TypeId} (h:Box w b cs t) {B:Nat} (hb:Below B w w') (hB:b<B):Box w' b cs t:=by unfold Box;rw[hb.block b hB];exact h
theorem Box.new (w:World) (cs:Array Value) (t:TypeId):Box (w.alloc (.cells cs t)) w.heap.size cs t:=heap_alloc_new w _
theorem Box.other {w:World} {b:Nat} {cs:Array Value} {t:TypeId} (h:Box w b cs t) {a:Addr} (hne:b≠a.block) (u:Value):Box (w.setCell a u) b cs t:=by unfold Box at*;rw[Below.heap_setCell _ _ _ _ hne];exact h
theorem Box.alloc {w:World} {b:Nat} {cs:Array Value} {t:TypeId} (h:Box w b cs t) (o:Obj):Box (w.alloc o) b cs t:=by unfold Box;rw[Below.heap_alloc _ _ _ h.lt];exact h
abbrev Byts:=List UInt8
def cutF (c:UInt8):Byts→Byts→List Byts
 |cur,[]=>[cur]
 |cur,b::l=>if b=c then cur::cutF c [] l else cutF c (cur++[b]) l
def cutL (c:UInt8) (l:Byts):List Byts:=cutF c [] l
theorem Z7n (c:UInt8):∀(l cur:Byts),cutF c cur l≠[]
 |[],_=>by simp[cutF]
 |b::l,cur=>by unfold cutF;split
               ·simp
               ·exact Z7n c l _
theorem Zqx {c:UInt8}:∀{p:Byts} (cur l:Byts),c ∉ p→cutF c cur (p++l)=cutF c (cur++p) l
 |[],cur,l,_=>by simp
 |b::p,cur,l,h=>by
  have hb:b≠c:=fun e=>h (by simp[e])
  rw[List.cons_append,cutF,if_neg hb,Zqx (cur++[b]) l (fun e=>h (by simp[e]))]
  simp
theorem Z90 {c:UInt8} {p:Byts} (cur:Byts) (h:c ∉ p):cutF c cur p=[cur++p]:=by
 have:=Zqx cur [] h
 rwa [List.append_nil]at this
theorem Zadi {c:UInt8} {p:Byts} (cur l:Byts) (h:c ∉ p):cutF c cur (p++c::l)=(cur++p)::cutF c [] l:=by
 rw[Zqx cur _ h,cutF,if_pos rfl]
theorem Zmr {c:UInt8} {p:Byts} (h:c ∉ p):cutL c p=[p]:=Z90 [] h
theorem Z32 {c:UInt8} {p:Byts} (l:Byts) (h:c ∉ p):cutL c (p++c::l)=p::cutL c l:=Zadi [] l h
theorem Zt3 (c:UInt8):∀(l cur:Byts),(cutF c cur l).length=l.count c+1
 |[],_=>rfl
 |b::l,cur=>by
  unfold cutF
  by_cases h:b=c
  ·rw[if_pos h,List.length_cons,Zt3 c l,h,List.count_cons_self]
  ·rw[if_neg h,Zt3 c l,List.count_cons_of_ne h]
theorem Zafe (c:UInt8) (l:Byts):(cutL c l).length=l.count c+1:=Zt3 c l []
theorem Zeg (x:Byts) (y:Byts) (r:List Byts) (s:Byts):Lib.join (x::y::r) s=x++s++Lib.join (y::r) s:=by
 rw[Lib.join_cons,Lib.join_cons];simp[Lib.joinTail]
theorem Zxw (x:Byts) {r:List Byts} (h:r≠[]) (s:Byts):Lib.join (x::r) s=x++s++Lib.join r s:=by
 cases r with
 |nil=>exact absurd rfl h
 |cons y r=>exact Zeg x y r s
theorem Zrf (c:UInt8):∀(l cur:Byts),Lib.join (cutF c cur l) [c]=cur++l
 |[],cur=>by rw[cutF,Lib.join_one,List.append_nil]
 |b::l,cur=>by
  unfold cutF
  by_cases h:b=c
  ·rw[if_pos h,Zxw _ (Z7n c l []),Zrf c l [],h];simp
  ·rw[if_neg h,Zrf c l];simp
theorem Zafa (c:UInt8) (l:Byts):Lib.join (cutL c l) [c]=l:=Zrf c l []
theorem Z4r {c:UInt8}:∀{ps:List Byts},ps≠[]→(∀p∈ps,c ∉ p)→cutL c (Lib.join ps [c])=ps
 |[],h,_=>absurd rfl h
 |[p],_,h=>by rw[Lib.join_one];exact Zmr (h p (by simp))
 |p::q::r,_,h=>by
  rw[Zeg,List.append_assoc,List.singleton_append,Z32 _ (h p (by simp)),Z4r (by simp) (fun x hx=>h x (by simp[hx]))]
theorem Zs9 {c:UInt8} {l:Byts} {p:Nat} (h:Lib.index l [c]=p):p<l.length∧c ∉ l.take p∧l=l.take p++c::l.drop (p+1):=by
 rcases Lib.index_spec l [c]with ⟨h1,_⟩|⟨i,h1,h2,h3,h4⟩
 ·omega
 ·obtain rfl:i=p:=by omega
  have hr:i<l.length:=by
   rcases Lib.occAt_room h3 with h'|h'
   ·have h'':i+1≤l.length:=by simpa using h'
    omega
   ·cases h'
  have hc:l[i]=c:=by
   unfold Lib.occAt at h3
   rw[List.drop_eq_getElem_cons hr]at h3
   simp[List.isPrefixOf]at h3
   exact h3.symm
  refine⟨hr,fun hm=>?_,?_⟩
  ·obtain⟨j,hj,e⟩:=List.getElem_of_mem hm
   rw[List.length_take]at hj
   rw[List.getElem_take]at e
   have:=h4 j (by omega)
   unfold Lib.occAt at this
   rw[List.drop_eq_getElem_cons (by omega)]at this
   simp[List.isPrefixOf,e]at this
  ·conv=>lhs;rw[←List.take_append_drop i l,List.drop_eq_getElem_cons hr,hc]
theorem Zsz {c:UInt8} {l:Byts} (h:Lib.index l [c]= -1):c ∉ l:=by
 rcases Lib.index_spec l [c]with ⟨_,h2⟩|⟨i,h1,_⟩
 ·intro hm
  obtain⟨j,hj,e⟩:=List.getElem_of_mem hm
  have:=h2 j (by omega)
  unfold Lib.occAt at this
  rw[List.drop_eq_getElem_cons hj]at this
  simp[List.isPrefixOf,e]at this
 ·omega
theorem Zr1 (l:Byts) (c:UInt8):Lib.index l [c]= -1∨∃p:Nat,Lib.index l [c]=p:=by
 rcases Lib.index_spec l [c]with ⟨h1,_⟩|⟨i,h1,_⟩
 ·exact .inl h1
 ·exact .inr ⟨i,h1⟩
theorem Ztd (c:UInt8):∀(k:Nat) (l:Byts),l.count c≤k→Lib.splitK [c] 0 k l=cutL c l
 |0,l,h=>by
  have:c ∉ l:=fun hm=>by have:=List.count_pos_iff.2 hm;omega
  rw[Lib.splitK,Zmr this]
 |k+1,l,h=>by
  unfold Lib.splitK
  rcases Zr1 l c with e|⟨p,e⟩
  ·rw[e,if_pos (by rfl),Zmr (Zsz e)]
  ·obtain⟨h1,h2,h3⟩:=Zs9 e
   have hne:¬((p:Int)== -1)=true:=by rw[beq_iff_eq];omega
   rw[e,if_neg hne,Nat.add_zero,Int.toNat_natCast]
   have hc:(l.drop (p+1)).count c≤k:=by
    rw[h3,List.count_append,List.count_cons_self]at h;omega
   show l.take p::Lib.splitK [c] 0 k (l.drop (p+1))=_
   rw[Ztd c k _ hc]
   conv=>rhs;rw[h3]
   rw[Z32 _ h2]
def bts (s:ByteArray):Byts:=s.data.toList
def txt (l:Byts):ByteArray:=⟨l.toArray⟩
theorem Zbv (l:Byts):bts (txt l)=l:=rfl
theorem Zlw (s:ByteArray):txt (bts s)=s:=rfl
theorem Zae {a b:ByteArray} (h:bts a=bts b):a=b:=by rw[←Zlw a,h,Zlw]
theorem Zbz (s:ByteArray):(bts s).length=s.size:=rfl
theorem Zfi (l:Byts):(txt l).size=l.length:=by simp[txt,ByteArray.size]
def cutT (c:UInt8) (s:ByteArray):List ByteArray:=(cutL c (bts s)).map txt
theorem Zf5 (c:UInt8) (s:ByteArray):(cutT c s).length=(bts s).count c+1:=by unfold cutT;rw[List.length_map,Zafe]
theorem Zhg (c:UInt8) (s:ByteArray):(cutT c s).map bts=cutL c (bts s):=by
 unfold cutT;rw[List.map_map];exact List.map_id _
theorem Zgn {a b:List ByteArray} (h:a.map bts=b.map bts):a=b:=by
 have:=congrArg (List.map txt) h
 simpa[List.map_map,Function.comp_def,Zlw]using this
theorem Ztm (c:UInt8) (s:ByteArray):Lib.countB s ⟨#[c]⟩=(bts s).count c:=by
 unfold Lib.countB;exact Lib.count_one c _
theorem Z58 (c:UInt8) (s:ByteArray):Lib.splitB ⟨#[c]⟩ 0 (Lib.countB s ⟨#[c]⟩) s=cutT c s:=by
 apply Zgn
 rw[Zhg]
 have:=Lib.splitB_data ⟨#[c]⟩ 0 (Lib.countB s ⟨#[c]⟩) s
 refine Eq.trans this ?_
 exact Ztd c _ _ (by rw[Ztm];exact Nat.le_refl _)
theorem Zqw (c:UInt8):∀(l cur:Byts),∀p∈cutF c cur l,p.length≤cur.length+l.length
 |[],cur,p,hp=>by rw[cutF,List.mem_singleton]at hp;rw[hp];simp
 |b::l,cur,p,hp=>by
  unfold cutF at hp
  split at hp
  ·rcases List.mem_cons.1 hp with e|e
   ·rw[e];simp
   ·have:=Zqw c l [] p e;simp at this ⊢;omega
  ·have:=Zqw c l _ p hp;simp at this ⊢;omega
theorem Zdk {c:UInt8} {s p:ByteArray} (h:p∈cutT c s):p.size≤s.size:=by
 unfold cutT at h
 obtain⟨x,hx,rfl⟩:=List.mem_map.1 h
 have:=Zqw c _ [] x hx
 rw[Zfi,←Zbz];simpa using this
def Zbi (c:UInt8) (ps:List ByteArray):ByteArray:=txt (Lib.join (ps.map bts) [c])
theorem Zji (c:UInt8) (s:ByteArray):Zbi c (cutT c s)=s:=by unfold Zbi;rw[Zhg,Zafa,Zlw]
theorem Zmn {c:UInt8} {ps:List ByteArray} (h:ps≠[]) (hp:∀p∈ps,c ∉ bts p):cutT c (Zbi c ps)=ps:=by
 apply Zgn
 rw[Zhg]
 unfold Zbi
 rw[Zbv]
 exact Z4r (by simpa using h) (fun p hp'=>by obtain⟨x,hx,rfl⟩:=List.mem_map.1 hp';exact hp x hx)
def valD (l:Byts):Nat:=l.foldl (fun n b=>10*n+(b.toNat-48)) 0
def digC (b:UInt8):Bool:=decide (48≤b.toNat)&&decide (b.toNat≤57)
def Zsg (l:Byts):Bool:=decide (1≤l.length)&&decide (l.length≤17)&&l.all digC
theorem Zj2 (l:Byts) (b:UInt8):valD (l++[b])=10*valD l+(b.toNat-48):=by unfold valD;rw[List.foldl_append];rfl
theorem Zo9 {b:UInt8}:digC b=true↔48≤b.toNat∧b.toNat≤57:=by unfold digC;simp
theorem Z2z {P:Byts→Prop} (h0:P []) (h1:∀l b,P l→P (l++[b])):∀l,P l:=by
 intro l
 rw[←List.reverse_reverse l]
 induction l.reverse with
 |nil=>exact h0
 |cons b r ih=>rw[List.reverse_cons];exact h1 _ _ ih
theorem Z0c:∀(l:Byts),l.all digC=true→valD l<10^l.length:=by
 refine Z2z ?_ ?_
 ·intro _;decide
 ·intro l b ih h
  rw[List.all_append,Bool.and_eq_true]at h
  have:=ih h.1
  have hb:digC b=true:=by simpa using h.2
  rw[Zo9]at hb
  rw[Zj2,List.length_append,List.length_singleton,Nat.pow_succ]
  omega
theorem Zj4 {d:Nat} (h:d<10):(UInt8.ofNat (48+d)).toNat=48+d:=by
 rw[UInt8.toNat_ofNat'];omega
theorem Zm2 (u:Nat):(Lib.decDigits u).all digC=true:=by
 induction u using Nat.strongRecOn with
 |_ u ih=>
  rw[Lib.decDigits]
  split
  ·next h=>
   have:=Zj4 h
   rw[List.all_cons,List.all_nil,Bool.and_true,Zo9,this];omega
  ·next h=>
   rw[List.all_append,ih (u/10) (by omega)]
   have hm:u%10<10:=Nat.mod_lt _ (by decide)
   have:=Zj4 hm
   rw[Bool.true_and,List.all_cons,List.all_nil,Bool.and_true,Zo9,this];omega
theorem Z1a (u:Nat):valD (Lib.decDigits u)=u:=by
 induction u using Nat.strongRecOn with
 |_ u ih=>
  rw[Lib.decDigits]
  split
  ·next h=>show 10*0+((UInt8.ofNat (48+u)).toNat-48)=u;rw[Zj4 h];omega
  ·next h=>rw[Zj2,ih (u/10) (by omega),Zj4 (Nat.mod_lt _ (by decide))];omega
theorem Zahq (u:Nat):Lib.decDigits u≠[]:=by
 intro h
 have:=Lib.decDigits_length u
 rw[h]at this
 have:=Lib.nDigits_pos u
 simp at*;omega
theorem Z2j {u:Nat} (h:0<u):(Lib.decDigits u).head?≠some 48:=by
 induction u using Nat.strongRecOn with
 |_ u ih=>
  rw[Lib.decDigits]
  split
  ·next h10=>
   intro e
   simp only[List.head?_cons,Option.some.injEq]at e
   have:=congrArg UInt8.toNat e
   rw[Zj4 h10]at this
   have:(48:UInt8).toNat=48:=rfl
   omega
  ·next h10=>
   have h1:=ih (u/10) (by omega) (by omega)
   have h2:=Zahq (u/10)
   rw[List.head?_append]
   cases hd:(Lib.decDigits (u/10)).head? with
   |none=>rw[List.head?_eq_none_iff]at hd;exact absurd hd h2
   |some x=>rw[hd]at h1;simpa using h1
theorem Zo2:Lib.decDigits 0=[48]:=by rw[Lib.decDigits];rfl
theorem Z8b:∀(l:Byts),l≠[]→l.all digC=true→(l.head?=some 48→l=[48])→Lib.decDigits (valD l)=l:=by
 refine Z2z ?_ ?_
 ·intro h;exact absurd rfl h
 ·intro l b ih _ h hz
  rw[List.all_append,Bool.and_eq_true]at h
  have hb:digC b=true:=by simpa using h.2
  rw[Zo9]at hb
  have hbn:UInt8.ofNat (48+(b.toNat-48))=b:=by rw[show 48+(b.toNat-48)=b.toNat by omega];exact UInt8.ofNat_toNat
  by_cases hl:l=[]
  ·subst hl
   rw[Zj2]
   show Lib.decDigits (10*0+(b.toNat-48))=_
   rw[Lib.decDigits,dif_pos (by omega),show 10*0+(b.toNat-48)=b.toNat-48 by omega,hbn];rfl
  ·have hh:l.head?≠some 48:=by
    intro e
    have:=hz (by rw[List.head?_append,e];rfl)
    have h2:=congrArg List.length this
    rw[List.length_append]at h2
    have h3:l.length≠0:=fun e=>hl (List.length_eq_zero_iff.1 e)
    simp only[List.length_singleton]at h2;omega
   have hv:=ih hl h.1 (fun e=>absurd e hh)
   have hp:0<valD l:=by
    rcases Nat.eq_zero_or_pos (valD l)with e|e
    ·rw[e,Zo2]at hv;rw[←hv]at hh;exact absurd rfl hh
    ·exact e
   rw[Zj2,Lib.decDigits,dif_neg (by omega)]
   rw[show(10*valD l+(b.toNat-48))/10=valD l by omega,show(10*valD l+(b.toNat-48))%10=b.toNat-48 by omega,hv,hbn]
def numL:Byts→Option Int
 |45::d=>if Zsg d=true∧d.head?≠some 48 then some (-(valD d:Int))else none
 |d=>if Zsg d=true∧(d.head?=some 48→d=[48])then some (valD d:Int)else none
def numT (s:ByteArray):Option Int:=numL (bts s)
def decT (n:Int):ByteArray:=txt (Lib.itoa n)
theorem Zg2 {d:Byts} (h:Zsg d=true):1≤d.length∧d.length≤17∧d.all digC=true:=by
 unfold Zsg at h;rw[Bool.and_eq_true,Bool.and_eq_true,decide_eq_true_eq,decide_eq_true_eq]at h;exact⟨h.1.1,h.1.2,h.2⟩
theorem Zvk {d:Byts} (h1:1≤d.length) (h2:d.length≤17) (h3:d.all digC=true):Zsg d=true:=by
 unfold Zsg;rw[decide_eq_true h1,decide_eq_true h2,h3];rfl
theorem Zt2 {d:Byts} (h:d.all digC=true) (hd:d≠[]):d.head?≠some 45:=by
 cases d with
 |nil=>exact absurd rfl hd
 |cons b d=>
  intro e
  simp only[List.head?_cons,Option.some.injEq]at e
  subst e
  rw[List.all_cons]at h;simp[digC]at h
theorem Z37 {d:Byts} (h:d.head?≠some 45):numL d=if Zsg d=true∧(d.head?=some 48→d=[48])then some (valD d:Int)else none:=by
 unfold numL
 split
 ·exact absurd rfl h
 ·rfl
theorem Zaiq {n:Int} (h0: -100000000000000000<n) (h1:n<100000000000000000):numL (Lib.itoa n)=some n:=by
 have hlen:∀u:Nat,u<100000000000000000→1≤(Lib.decDigits u).length∧(Lib.decDigits u).length≤17:=by
  intro u hu
  rw[Lib.decDigits_length]
  refine⟨Lib.nDigits_pos u,?_⟩
  rcases Nat.lt_or_ge 17 (Lib.nDigits u)with h|h
  ·exfalso
   have:=Z1a u
   obtain⟨k,hk⟩:∃k,Lib.nDigits u=k+1:=⟨Lib.nDigits u-1,by omega⟩
   have hge:10^k≤u:=by
    rcases Nat.lt_or_ge u (10^k)with h'|h'
    ·cases k with
     |zero=>omega
     |succ k=>
      rcases Nat.eq_zero_or_pos u with e|e
      ·subst e;rw[Lib.nDigits_small (by decide)]at hk;omega
      ·have:∃j,j≤k∧10^j≤u∧u<10^(j+1):=by
        clear hk this
        induction k with
        |zero=>exact⟨0,Nat.le_refl _,by omega,by omega⟩
        |succ k ih=>
         rcases Nat.lt_or_ge u (10^(k+1))with h3|h3
         ·obtain⟨j,hj,h4⟩:=ih h3
          exact⟨j,by omega,h4⟩
         ·exact⟨k+1,Nat.le_refl _,h3,h'⟩
       obtain⟨j,hj,h4,h5⟩:=this
       have:=Lib.nDigits_unique j u h4 h5
       omega
    ·exact h'
   have:10^17≤10^k:=Nat.pow_le_pow_right (by decide) (by omega)
   have:(10:Nat)^17=100000000000000000:=by decide
   omega
  ·exact h
 unfold Lib.itoa
 by_cases hn:n<0
 ·rw[if_pos hn]
  obtain⟨a,b⟩:=hlen n.natAbs (by omega)
  show(if Zsg (Lib.decDigits n.natAbs)=true∧(Lib.decDigits n.natAbs).head?≠some 48 then some (-(valD (Lib.decDigits n.natAbs):Int))else none)=_
  rw[if_pos ⟨Zvk a b (Zm2 _),Z2j (by omega)⟩,Z1a]
  congr 1;omega
 ·rw[if_neg hn]
  obtain⟨a,b⟩:=hlen n.toNat (by omega)
  have hz:(Lib.decDigits n.toNat).head?=some 48→Lib.decDigits n.toNat=[48]:=fun e=>by
   rcases Nat.eq_zero_or_pos n.toNat with h|h
   ·rw[h,Zo2]
   ·exact absurd e (Z2j h)
  rw[Z37 (Zt2 (Zm2 _) (Zahq _)),if_pos ⟨Zvk a b (Zm2 _),hz⟩,Z1a,Int.toNat_of_nonneg (by omega)]
theorem Zakq {l:Byts} {n:Int} (h:numL l=some n):Lib.itoa n=l:=by
 unfold numL at h
 split at h
 ·next d=>
  split at h
  ·next hc=>
   obtain⟨h1,h2⟩:=hc
   obtain⟨a,b,c⟩:=Zg2 h1
   obtain rfl:=Option.some.inj h
   have hd:d≠[]:=by intro e;rw[e]at a;simp at a
   have hv:=Z8b d hd c (fun e=>absurd e h2)
   have hp:0<valD d:=by
    rcases Nat.eq_zero_or_pos (valD d)with e|e
    ·rw[e,Zo2]at hv;rw[←hv]at h2;exact absurd rfl h2
    ·exact e
   unfold Lib.itoa
   rw[if_pos (by omega),show(-(valD d:Int)).natAbs=valD d by omega,hv]
  ·cases h
 ·split at h
  ·next hc=>
   obtain⟨h1,h2⟩:=hc
   obtain⟨a,b,c⟩:=Zg2 h1
   obtain rfl:=Option.some.inj h
   have hd:l≠[]:=by intro e;rw[e]at a;simp at a
   have hv:=Z8b l hd c h2
   unfold Lib.itoa
   rw[if_neg (by omega),Int.toNat_natCast,hv]
  ·cases h
theorem Zaf5 {n:Int} {b:UInt8} (h:b∈Lib.itoa n):b=45∨digC b=true:=by
 unfold Lib.itoa at h
 split at h
 ·rcases List.mem_cons.1 h with e|e
  ·exact .inl e
  ·exact .inr (List.all_eq_true.1 (Zm2 _) b e)
 ·exact .inr (List.all_eq_true.1 (Zm2 _) b h)
theorem Zmq {n:Int} {c:UInt8} (h1:c≠45) (h2:digC c=false):c ∉ Lib.itoa n:=by
 intro h
 rcases Zaf5 h with e|e
 ·exact h1 e
 ·rw[h2]at e;cases e
end Go.Proofs.YtcjihfongfefoaaGreatDoor
