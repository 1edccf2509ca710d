/- As Lc Tg Na Th Tj -/
import Derived.Test.YtcjihfongfefoaaGreatDoorJ07
import Derived.Test.YtcjihfongfefoaaGreatDoorJ08
import Derived.Laws.CopyOwn
import Derived.Deep.RegionLaw
import Derived.Outline
namespace Go.Proofs.YtcjihfongfefoaaGreatDoor
open Go.RowKit
set_option maxHeartbeats 25600000
set_option maxRecDepth 100000
def Zsl (l:List Stn) (nm:ByteArray) (loss:Int):Bool:=Zay l&&decide (l.length<8)&&Zdv nm&&decide (idxS l nm<0)&&inB loss 1 20
def admR (l:List Stn) (nm:ByteArray) (d loss:Int):Option (List Stn):=if Zsl l nm loss=true then(Zf3 (l.map Stn.ph) d).map (fun p=>l++[⟨nm,p,1,loss⟩])else none
theorem Zahg {l:List Stn} {nm:ByteArray} {d loss:Int} (h:Zay l=false):admR l nm d loss=none:=by simp[admR,Zsl,h]
theorem Zahu {l:List Stn} {nm:ByteArray} {d loss:Int} (h:8≤l.length):admR l nm d loss=none:=by simp[admR,Zsl,show ¬l.length<8 by omega]
theorem Zag1 {l:List Stn} {nm:ByteArray} {d loss:Int} (h:Zdv nm=false):admR l nm d loss=none:=by simp[admR,Zsl,h]
theorem Zahw {l:List Stn} {nm:ByteArray} {d loss:Int} {f:Nat} (h:idxS l nm=f):admR l nm d loss=none:=by
 unfold admR Zsl;rw[decide_eq_false (show ¬idxS l nm<0 by omega)];simp
theorem Zahx {l:List Stn} {nm:ByteArray} {d loss:Int} (h:inB loss 1 20=false):admR l nm d loss=none:=by simp[admR,Zsl,h]
theorem Zag8 {l:List Stn} {nm:ByteArray} {d loss:Int} (h1:Zay l=true) (h2:l.length<8) (h3:Zdv nm=true) (h4:idxS l nm= -1) (h5:inB loss 1 20=true):admR l nm d loss=(Zf3 (l.map Stn.ph) d).map (fun p=>l++[⟨nm,p,1,loss⟩]):=by
 have:Zsl l nm loss=true:=by unfold Zsl;rw[h1,decide_eq_true h2,h3,decide_eq_true (show idxS l nm<0 by omega),h5];rfl
 unfold admR;rw[if_pos this]
theorem Z2y {l:List Stn} (h:Zay l=true):∀q∈l.map Stn.ph,Zcq q=true:=by
 intro q hq
 obtain⟨s,hs,rfl⟩:=List.mem_map.1 hq
 obtain⟨i,hi,rfl⟩:=List.getElem_of_mem hs
 exact Zg9 (Zej h hi)
theorem Zq6 (w:World) (s:Stn) (t:TypeId):RdS (w.alloc (.cells #[.string s.nm,.string s.ph,.int .i64 s.g,.int .i64 s.l] t)) (some ⟨w.heap.size,0,none⟩) 1 [s]:=by
 refine⟨rfl,by omega,fun i hi=>?_⟩
 obtain rfl:i=0:=by simpa using hi
 have hB:=Box.new w #[.string s.nm,.string s.ph,.int .i64 s.g,.int .i64 s.l] t
 exact⟨_,_,rfl,hB.cell (i:=0) rfl,hB.cell (i:=1) rfl,hB.cell (i:=2) rfl,hB.cell (i:=3) rfl⟩
theorem Zacc {ops:Array Oper} {rest:List Oper} {o:Oper} {a:Act} {Q:Exit→Act→World→Prop} (w:World) (hgd:o.guard=none) (s x:Operand)
 (hop:o.op=Op.makeSlice 23 s x) (kl kc:IntKind) (n:Nat) (C:Int) (hC:C=(n:Int)+1) (hs:a.eval s= .int kl n) (hx:a.eval x= .int kc C) (hn:n≤1000000)
 (h:∀w',w'.ownsRow w.heap.size 37 4 (.slice (some ⟨w.heap.size,0,none⟩) n (n+1)) n (Zbe (List.replicate n zstn))→Below w.heap.size w w'→
   wpList Tryz.prog ops Q rest (a.put o.dst (.slice (some ⟨w.heap.size,0,none⟩) n (n+1))) w'):
 wpList Tryz.prog ops Q (o::rest) a w:=by
 obtain⟨i0,hi,hz0,hz1,hz2⟩:=info_parts Zke
 subst hC
 refine wpList_plain hgd fun K hK=>?_
 have hrun:=run_make (P:=Tryz.prog) w 23 37 i0 _ Tryz.underlying23 hi hz0 kl kc (n:Int) ((n:Int)+1) (by omega) (by omega) (by rw[hz2];omega) (by omega)
 rw[hz1]at hrun
 rw[show(n:Int).toNat=n from Int.toNat_natCast n,show((n:Int)+1).toNat=n+1 by omega]at hrun
 unfold Oper.wp
 simp[execOp,hop,hs,hx,hrun,Result.andThen]
 refine hK _ _ (h _ ⟨by rw[Zcb,List.length_replicate],.inr ⟨w.heap.size,n+1,_,rfl,Nat.le_refl _,heap_alloc_new w _,by omega,by unfold maxLen;omega,size_madeCells _ _,?_⟩⟩ ((Below.refl _ _).alloc (Nat.le_refl _) _))
 rw[Zu4,List.replicate_succ',Zi1,List.take_left' (by rw[Zcb,List.length_replicate])]
theorem Zaae (w:World) (ty:TypeId) (g dLen dCap:Nat) (a:Addr) (sCap:Nat) (cur:Array Value) (t:TypeId) (cs:List Value)
 (hg:w.heap[g]?=some (.cells cur t (0,0))) (hn:cs.length=dLen*4)
 (hsrc:∀j v,cs[j]?=some v→w.cell? (a.add j)=some v) (hfit:cs.length≤cur.size) (h1:∀v∈cs,v.oneCell'=true):
 (Builtin.copy_ #[23,23] ty #[.slice (some ⟨g,0,none⟩) dLen dCap,.slice (some a) dLen sCap]).run Tryz.prog w=
   .ok (goInt dLen) (w.setRow g (cs++cur.toList.drop cs.length).toArray):=by
 obtain⟨i0,hi,hz0,hz1,hz2⟩:=info_parts Zke
 have hl:=run_loadCells_list (P:=Tryz.prog) w a cs hsrc
 have hst:=run_storeCells_at Tryz.prog g 0 t cs 0 cur w hg (by simpa using hfit) h1
 have hm:Nat.min dLen dLen=dLen:=Nat.min_self _
 have hu:Tryz.prog.underlying 23=some (.slice 37):=Tryz.underlying23
 simp[Builtin.copy_,run_underlying hu,Builtin.lenOf,Builtin.firstCells,sizeOf,typeInfo,hi,hz1,hm,←hn,hl,hst]
theorem Z6w (w:World) (ty:TypeId) (g dCap:Nat) (ao:Option Addr) (sCap:Nat):
 (Builtin.copy_ #[23,23] ty #[.slice (some ⟨g,0,none⟩) 0 dCap,.slice ao 0 sCap]).run Tryz.prog w= .ok (goInt 0) w:=by
 obtain⟨i0,hi,hz0,hz1,hz2⟩:=info_parts Zke
 have hu:Tryz.prog.underlying 23=some (.slice 37):=Tryz.underlying23
 have hl:∀(x:Addr),(loadCells x 0).run Tryz.prog w= .ok #[] w:=fun x=>by simpa using run_loadCells_list (P:=Tryz.prog) w x [] (by simp)
 cases ao<;>simp[Builtin.copy_,run_underlying hu,Builtin.lenOf,Builtin.firstCells,sizeOf,typeInfo,hi,storeCells,hl]
theorem Zad3 {ops:Array Oper} {rest:List Oper} {o:Oper} {a:Act} {Q:Exit→Act→World→Prop} {w0:World} (w:World) (hgd:o.guard=none) (d s:Operand)
 (ho:o.op= .call {callee:=.builtin .copy,args:= #[d,s],argTypes:= #[23,23]}) (lo g n c c2:Nat) (L l:List Stn) (ao:Option Addr)
 (hd:a.eval d= .slice (some ⟨g,0,none⟩) n c) (hs:a.eval s= .slice ao n c2) (hown:w.ownsRow lo 37 4 (.slice (some ⟨g,0,none⟩) n c) n (Zbe L)) (hr:RdS w ao n l) (hb:Below lo w0 w)
 (h:∀w',OwnVS w' lo (.slice (some ⟨g,0,none⟩) n c) l→Below lo w0 w'→wpList Tryz.prog ops Q rest (a.put o.dst (goInt n)) w'):
 wpList Tryz.prog ops Q (o::rest) a w:=by
 refine wpList_plain hgd fun K hK=>?_
 by_cases h0:n=0
 ·subst h0
  have hrun:=Z6w w o.type g c ao c2
  unfold Oper.wp
  simp[execOp,ho,resolve,invoke,builtin,hd,hs,hrun,Result.andThen]
  have hl:l=[]:=List.eq_nil_of_length_eq_zero hr.1.symm
  subst hl
  have hL:Zbe L=[]:=List.eq_nil_of_length_eq_zero (by rw[hown.1])
  rw[hL]at hown
  exact hK _ _ (h w hown hb)
 ·obtain⟨b1,o1,rfl,hl0,_⟩:=hr.at (show 0<n by omega)
  rcases hown.2 with ⟨h1,_⟩|⟨g',cap,cur,hv,hgl,hh,hnc,hcm,hsz,htk⟩
  ·cases h1
  ·cases hv
   have hln:=hr.1
   have hcl:(Zbe l).length=n*4:=by rw[Zcb,←hln]
   have hfit:(Zbe l).length≤cur.size:=by rw[hcl,hsz];omega
   have hrun:=Zaae w o.type g n c ⟨b1,o1,none⟩ c2 cur 37 (Zbe l) hh hcl hr.news hfit (Znp l)
   unfold Oper.wp
   simp[execOp,ho,resolve,invoke,builtin,hd,hs,hrun,Result.andThen]
   refine hK _ _ (h _ ?_ (below_setRow hb hgl _))
   refine⟨by rw[Zcb],.inr ⟨g,c,_,by rw[hln],hgl,setRow_heap w g _ _ _ _ hh,by omega,hcm,?_,?_⟩⟩
   ·simp[hcl,hsz];omega
   ·simp[←hln,List.take_left' hcl]
def Zaie (a b:Stn):Prop:=(a.nm.toList==b.nm.toList)=false∧Zen a.ph b.ph=false
def stOk (s:Stn):Prop:=stB s.nm s.ph s.g s.l=true
theorem Zx4 {l:List Stn} {i k:Nat} (hi:i<l.length) (hk:k<l.length):Zdt l i k=true↔Zaie l[k] l[i]:=by
 unfold Zdt Zaie
 rw[Zcv hi,Zcv hk]
 simp
theorem cellB_iff {l:List Stn}:Zay l=true↔l.length≤8∧(∀s∈l,stOk s)∧l.Pairwise Zaie:=by
 unfold Zay okT
 rw[Bool.and_eq_true,decide_eq_true_eq,List.all_eq_true,List.pairwise_iff_getElem]
 constructor
 ·rintro⟨h8,h⟩
  refine⟨h8,fun s hs=>?_,fun i j hi hj hij=>?_⟩
  ·obtain⟨i,hi,rfl⟩:=List.getElem_of_mem hs
   have:=h i (List.mem_range.2 hi)
   unfold Zhf at this
   rw[Bool.and_eq_true,Zcv hi]at this
   exact this.1
  ·have:=h j (List.mem_range.2 hj)
   unfold Zhf apT at this
   rw[Bool.and_eq_true,List.all_eq_true]at this
   exact(Zx4 hj hi).1 (this.2 i (List.mem_range.2 hij))
 ·rintro⟨h8,h1,h2⟩
  refine⟨h8,fun i hi=>?_⟩
  rw[List.mem_range]at hi
  unfold Zhf apT
  rw[Bool.and_eq_true,List.all_eq_true,Zcv hi]
  refine⟨h1 _ (List.getElem_mem hi),fun k hk=>?_⟩
  rw[List.mem_range]at hk
  exact(Zx4 hi (by omega)).2 (h2 k i (by omega) hi hk)
theorem Z9u {l r:List Stn} (h:Zay l=true) (hs:r.Sublist l):Zay r=true:=by
 rw[cellB_iff]at*
 exact⟨Nat.le_trans hs.length_le h.1,fun s hm=>h.2.1 s (hs.subset hm),h.2.2.sublist hs⟩
theorem idxS_neg {l:List Stn} {nm:ByteArray}:idxS l nm<0↔∀s∈l,(s.nm.toList==nm.toList)=false:=by
 unfold idxS
 cases hf:l.findIdx? (fun s=>s.nm.toList==nm.toList)with
 |none=>
  rw[List.findIdx?_eq_none_iff]at hf
  exact⟨fun _=>hf,fun _=>by decide⟩
 |some i=>
  have:=List.findIdx?_eq_some_iff_getElem.1 hf
  obtain⟨h1,h2,_⟩:=this
  constructor
  ·intro h;exact absurd h (by show ¬(i:Int)<0;omega)
  ·intro h;rw[h _ (List.getElem_mem h1)]at h2;cases h2
theorem Z6h {a b:ByteArray} (h:a.toList=b.toList):a=b:=by
 rw[ByteArray.toList_eq,ByteArray.toList_eq]at h
 cases a;cases b;simp at h;simpa using h
theorem Z5o {l:List Stn} {s:Stn} (h:Zay l=true) (h8:l.length<8) (hs:stOk s) (hn:idxS l s.nm<0) (hp:∀q∈l,Zen s.ph q.ph=false):Zay (l++[s])=true:=by
 rw[cellB_iff]at*
 refine⟨by simp;omega,fun x hx=>?_,?_⟩
 ·rcases List.mem_append.1 hx with hx|hx
  ·exact h.2.1 x hx
  ·rw[List.mem_singleton]at hx;subst hx;exact hs
 ·rw[List.pairwise_append]
  refine⟨h.2.2,List.pairwise_singleton _ _,fun a ha b hb=>?_⟩
  rw[List.mem_singleton]at hb;subst hb
  exact⟨idxS_neg.1 hn a ha,by rw[Zng];exact hp a ha⟩
theorem freeB_iff {u:List ByteArray} {p:ByteArray}:Zjt u p=true↔∀q∈u,Zen p q=false:=by
 unfold Zjt;rw[List.all_eq_true];simp
theorem Zz5 {u:List ByteArray} {d:Int} {p:ByteArray} (h:Zf3 u d=some p):(0≤d∧d≤6)∧(p.size:Int)=d∧Zcq p=true∧∀q∈u,Zen p q=false:=by
 unfold Zf3 at h
 split at h
 ·rename_i hd
  have hd':=inB_iff.1 hd
  have hm:=List.mem_of_mem_head? h
  unfold Zg8 at hm
  rw[List.mem_filter,List.mem_map]at hm
  obtain⟨⟨n,_,rfl⟩,hf⟩:=hm
  exact⟨hd',by rw[Zdn];omega,Zyn (by omega),freeB_iff.1 hf⟩
 ·cases h
def dropS (l:List Stn) (f:Nat):List Stn:=l.take f++l.drop (f+1)
theorem Zacn (l:List Stn) (f:Nat):(dropS l f).Sublist l:=by
 unfold dropS
 conv=>rhs;rw[←List.take_append_drop f l]
 exact List.Sublist.append (List.Sublist.refl _) (List.drop_sublist_drop_left _ (Nat.le_succ f))
theorem Ztn {s:Stn} (h:stOk s):Zdv s.nm=true∧Zcq s.ph=true∧(0≤s.g∧s.g≤1000)∧(1≤s.l∧s.l≤20):=by
 unfold stOk stB at h
 simp only[Bool.and_eq_true]at h
 exact⟨h.1.1.1,h.1.1.2,inB_iff.1 h.1.2,inB_iff.1 h.2⟩
theorem Z02 {s:Stn} (h1:Zdv s.nm=true) (h2:Zcq s.ph=true) (h3:0≤s.g∧s.g≤1000) (h4:1≤s.l∧s.l≤20):stOk s:=by
 unfold stOk stB;rw[h1,h2,Zax h3.1 h3.2,Zax h4.1 h4.2];rfl
theorem pstS_g {t:Int} {s:Stn}:(pstS t s).g=if s.g<Zi9 t s then s.g+1 else if s.g>Zi9 t s then s.g-1 else s.g:=rfl
theorem Zaj4 {t:Int} {s:Stn} (ht:0≤t∧t≤40) (h:stOk s):stOk (pstS t s):=by
 obtain⟨h1,h2,h3,h4⟩:=Ztn h
 have hg:=Zwq ht h4
 refine Z02 h1 h2 ?_ h4
 rw[pstS_g]
 split
 ·omega
 ·split<;>omega
theorem Zaa2 {l:List Stn} {t:Int} (ht:0≤t∧t≤40) (h:Zay l=true):Zay (l.map (pstS t))=true:=by
 rw[cellB_iff]at*
 refine⟨by simp[h.1],fun s hs=>?_,?_⟩
 ·obtain⟨x,hx,rfl⟩:=List.mem_map.1 hs
  exact Zaj4 ht (h.2.1 x hx)
 ·rw[List.pairwise_map]
  exact h.2.2
theorem Zvz {l l':List Stn} {nm:ByteArray} {d loss:Int} (h:admR l nm d loss=some l'):Zay l'=true:=by
 unfold admR at h
 split at h
 ·rename_i hok
  cases ha:Zf3 (l.map Stn.ph) d with
  |none=>rw[ha]at h;cases h
  |some p=>
   rw[ha]at h
   obtain rfl:l++[⟨nm,p,1,loss⟩]=l':=by simpa using h
   unfold Zsl at hok
   simp only[Bool.and_eq_true,decide_eq_true_eq]at hok
   obtain⟨⟨⟨⟨h1,h2⟩,h3⟩,h4⟩,h5⟩:=hok
   obtain⟨_,h6,h7,h8⟩:=Zz5 ha
   exact Z5o h1 h2 (Z02 h3 h7 (by show(0:Int)≤1∧(1:Int)≤1000;omega) (inB_iff.1 h5)) h4 fun q hq=>h8 _ (List.mem_map_of_mem hq)
 ·cases h
theorem Z5i {l:List Stn} {k:Nat} (h:Zay l=true) (hk:k<l.length) {x:Int} (hx:0≤x∧x≤1000):Zay (l.set k ⟨l[k].nm,l[k].ph,x,l[k].l⟩)=true:=by
 rw[cellB_iff]at*
 refine⟨by rw[List.length_set];exact h.1,fun s hs=>?_,?_⟩
 ·rcases List.mem_or_eq_of_mem_set hs with hs|rfl
  ·exact h.2.1 s hs
  ·have hp:=Ztn (h.2.1 _ (List.getElem_mem hk))
   exact Z02 hp.1 hp.2.1 hx hp.2.2.2
 ·have h2:=h.2.2
  rw[List.pairwise_iff_getElem]at h2 ⊢
  intro i j hi hj hij
  rw[List.length_set]at hi hj
  have h3:=h2 i j hi hj hij
  rw[List.getElem_set,List.getElem_set]
  split
  ·rename_i e;subst e
   rw[if_neg (by omega)];exact h3
  ·split
   ·rename_i e;subst e;exact h3
   ·exact h3
def Z85 (l:Byts):Byts:=if l=[]then[45]else l
def Zaf (s:ByteArray):ByteArray:=if s.size=0 then⟨#[45]⟩else s
def Zar (s:ByteArray):ByteArray:=if bts s=[45]then⟨#[]⟩else s
theorem Zmh (s:ByteArray):bts (Zaf s)=Z85 (bts s):=by
 unfold Zaf Z85
 by_cases h:s.size=0
 ·rw[if_pos h,if_pos (by rw[←List.length_eq_zero_iff,Zbz];exact h)];rfl
 ·rw[if_neg h,if_neg (by rw[←List.length_eq_zero_iff,Zbz];exact h)]
theorem Zw5 {s:ByteArray} (h:bts s≠[45]):Zar (Zaf s)=s:=by
 apply Zae
 unfold Zar
 rw[Zmh]
 unfold Z85
 by_cases e:bts s=[]
 ·rw[if_pos e,if_pos rfl,e];rfl
 ·rw[if_neg e,if_neg h,Zmh];unfold Z85;rw[if_neg e]
theorem Zaa5 {s:ByteArray} (h:s.size≠0):Zaf (Zar s)=s:=by
 unfold Zar
 by_cases e:bts s=[45]
 ·rw[if_pos e];exact Zae (by rw[Zmh,e];rfl)
 ·rw[if_neg e];unfold Zaf;rw[if_neg h]
def stF (s:Stn):List ByteArray:=[s.nm,Zaf s.ph,decT s.g,decT s.l]
def stT (s:Stn):ByteArray:=Zbi 58 (stF s)
def fmtT (l:List Stn):ByteArray:=if Zay l=true then Zaf (Zbi 59 (l.map stT))else⟨#[]⟩
def parS (p:ByteArray):Option Stn:=
 match cutT 58 p with
 |[f0,f1,f2,f3]=>
  match numT f2,numT f3 with
  |some g,some l=>if f1.size≠0∧stB f0 (Zar f1) g l=true then some ⟨f0,Zar f1,g,l⟩else none
  |_,_=>none
 |_=>none
def rawS (p:ByteArray):Option Stn:=
 match cutT 58 p with
 |[f0,f1,f2,f3]=>some ⟨f0,Zar f1,(numT f2).getD 0,(numT f3).getD 0⟩
 |_=>none
def allO {α β:Type} (f:α→Option β):List α→Option (List β)
 |[]=>some []
 |x::l=>match f x,allO f l with
  |some y,some r=>some (y::r)
  |_,_=>none
def parT (t:ByteArray):Option (List Stn):=
 if bts t=[45]then some []
 else match allO parS (cutT 59 t)with
  |some l=>if Zay l=true then some l else none
  |none=>none
def spT (t:ByteArray):Option (List Stn):=
 if bts t=[45]then some []
 else match allO rawS ((cutT 59 t).take 9)with
  |some l=>if bts (fmtT l)=bts t then some l else none
  |none=>none
theorem Zm3 {α β:Type} {f:α→Option β}:∀{l:List α} {r:List β},allO f l=some r→r.length=l.length∧∀i (h:i<l.length) (h':i<r.length),f l[i]=some r[i]
 |[],r,h=>by obtain rfl:=Option.some.inj h;exact⟨rfl,fun i h=>absurd h (by simp)⟩
 |x::l,r,h=>by
  unfold allO at h
  split at h
  ·next y r' h1 h2=>
   obtain rfl:=Option.some.inj h
   obtain⟨a,b⟩:=Zm3 h2
   refine⟨by simp[a],fun i h h'=>?_⟩
   cases i with
   |zero=>exact h1
   |succ i=>exact b i (by simpa using h) (by simpa using h')
  ·cases h
theorem Zq8 {α β:Type} {f:α→Option β}:∀{l:List α} {r:List β},r.length=l.length→(∀i (h:i<l.length) (h':i<r.length),f l[i]=some r[i])→allO f l=some r
 |[],r,h,_=>by cases r with
  |nil=>rfl
  |cons _ _=>simp at h
 |x::l,[],h,_=>by simp at h
 |x::l,y::r,h,hf=>by
  unfold allO
  have h0:=hf 0 (by simp) (by simp)
  simp only[List.getElem_cons_zero]at h0
  rw[h0,Zq8 (l:=l) (r:=r) (by simpa using h) (fun i h1 h2=>by have:=hf (i+1) (by simpa using h1) (by simpa using h2);simpa using this)]
theorem Zeu {nm ph:ByteArray} {g l:Int} (h:stB nm ph g l=true):Zdv nm=true∧Zcq ph=true∧(0≤g∧g≤1000)∧(1≤l∧l≤20):=by
 have h2:=Ze9 h
 unfold stB at h
 rw[Bool.and_eq_true,Bool.and_eq_true,Bool.and_eq_true]at h
 exact⟨h.1.1.1,h.1.1.2,h2⟩
theorem Zp2 {nm:ByteArray} (h:Zdv nm=true) {c:UInt8} (hc:c.toNat<97):c ∉ bts nm:=by
 intro hm
 unfold Zdv allS at h
 rw[Bool.and_eq_true,List.all_eq_true]at h
 have:=h.2 c hm
 unfold letC at this
 have:=(inB_iff.1 this).1
 omega
theorem Z3b {ph:ByteArray} (h:Zcq ph=true) {c:UInt8} (hm:c∈bts ph):c.toNat=48∨c.toNat=49:=by
 unfold Zcq allS at h
 rw[Bool.and_eq_true,List.all_eq_true]at h
 have:=h.2 c hm
 unfold bitC at this
 rw[Bool.or_eq_true,beq_iff_eq,beq_iff_eq]at this
 omega
theorem Zyu {ph:ByteArray} (h:Zcq ph=true) {c:UInt8} (hc:c.toNat≠48∧c.toNat≠49):c ∉ bts ph:=fun hm=>by rcases Z3b h hm with e|e<;>omega
theorem Z9l {ph:ByteArray} (h:Zcq ph=true):bts ph≠[45]:=fun e=>by
 have:(45:UInt8)∈bts ph:=by rw[e];simp
 rcases Z3b h this with e|e<;>exact absurd e (by decide)
theorem Zh9 {s:ByteArray} {c:UInt8} (h:c ∉ bts s) (hc:c≠45):c ∉ bts (Zaf s):=by
 rw[Zmh];unfold Z85
 split
 ·simpa using hc
 ·exact h
theorem Z38 {s:Stn} (h:stOk s) {c:UInt8} (hc:c=58∨c=59):∀p∈stF s,c ∉ bts p:=by
 obtain⟨h1,h2,_,_⟩:=Zeu h
 have hd:digC c=false:=by rcases hc with rfl|rfl<;>decide
 have h45:c≠45:=by rcases hc with rfl|rfl<;>decide
 have h97:c.toNat<97:=by rcases hc with rfl|rfl<;>decide
 have h48:c.toNat≠48∧c.toNat≠49:=by rcases hc with rfl|rfl<;>decide
 intro p hp
 simp only[stF,List.mem_cons,List.not_mem_nil,or_false]at hp
 rcases hp with rfl|rfl|rfl|rfl
 ·exact Zp2 h1 h97
 ·exact Zh9 (Zyu h2 h48) h45
 ·exact Zmq h45 hd
 ·exact Zmq h45 hd
theorem Zqm {c d:UInt8} (hcd:c≠d):∀{ps:List Byts},(∀p∈ps,c ∉ p)→c ∉ Lib.join ps [d]
 |[],_=>by rw[Lib.join_nil];simp
 |[p],h=>by rw[Lib.join_one];exact h p (by simp)
 |p::q::r,h=>by
  rw[Zeg]
  simp only[List.mem_append,List.mem_singleton,not_or]
  exact⟨⟨h p (by simp),hcd⟩,Zqm hcd (fun x hx=>h x (by simp[hx]))⟩
theorem Zagu {s:Stn} (h:stOk s):(59:UInt8) ∉ bts (stT s):=by
 unfold stT Zbi
 rw[Zbv]
 refine Zqm (by decide) fun p hp=>?_
 obtain⟨x,hx,rfl⟩:=List.mem_map.1 hp
 exact Z38 h (.inr rfl) x hx
theorem Z1d {s:Stn} (h:stOk s):cutT 58 (stT s)=stF s:=Zmn (by simp[stF]) (Z38 h (.inl rfl))
theorem stT_ne {s:Stn} (h:stOk s):bts (stT s)≠[]:=by
 intro e
 have:=Z1d h
 unfold cutT at this
 rw[e]at this
 have:=congrArg List.length this
 simp[stF,cutL,cutF]at this
theorem Zew {n:Int} (h0: -100000000000000000<n) (h1:n<100000000000000000):numT (decT n)=some n:=Zaiq h0 h1
theorem Zmw {s:ByteArray} {n:Int} (h:numT s=some n):decT n=s:=Zae (Zakq h)
theorem Zakc {s:Stn} (h:stOk s):parS (stT s)=some s:=by
 obtain⟨h1,h2,h3,h4⟩:=Zeu h
 unfold parS
 rw[Z1d h]
 simp only[stF]
 rw[Zew (by omega) (by omega),Zew (by omega) (by omega)]
 have hn:=Zw5 (Z9l h2)
 have hz:(Zaf s.ph).size≠0:=by
  unfold Zaf
  split
  ·decide
  ·assumption
 simp only[]
 rw[hn,if_pos ⟨hz,h⟩]
theorem Z43 {p:ByteArray} {s:Stn} (h:parS p=some s):rawS p=some s∧stT s=p∧stOk s:=by
 unfold parS at h
 split at h
 ·next f0 f1 f2 f3 hc=>
  split at h
  ·next g l hg hl=>
   split at h
   ·next hx=>
    obtain rfl:=Option.some.inj h
    refine⟨?_,?_,hx.2⟩
    ·unfold rawS;rw[hc];simp only[hg,hl,Option.getD_some]
    ·unfold stT stF
     simp only[]
     rw[Zaa5 hx.1,Zmw hg,Zmw hl,←hc,Zji]
   ·cases h
  ·cases h
 ·cases h
theorem Zadl {ps:List ByteArray} {c:UInt8} (h:ps≠[]) (hp:∀p∈ps,bts p≠[]):bts (Zbi c ps)≠[]:=by
 unfold Zbi
 rw[Zbv]
 cases ps with
 |nil=>exact absurd rfl h
 |cons p r=>
  rw[List.map_cons,Lib.join_cons]
  intro e
  rw[List.append_eq_nil_iff]at e
  exact hp p (by simp) e.1
theorem Zaaf {s:ByteArray} (h:bts s≠[]):Zaf s=s:=by
 unfold Zaf;rw[if_neg];rw[←Zbz,List.length_eq_zero_iff];exact h
theorem Z2o {l:List Stn} (h:Zay l=true) (hl:l≠[]):fmtT l=Zbi 59 (l.map stT):=by
 unfold fmtT
 rw[if_pos h]
 refine Zaaf (Zadl (by simpa using hl) fun p hp=>?_)
 obtain⟨s,hs,rfl⟩:=List.mem_map.1 hp
 exact stT_ne ((cellB_iff.1 h).2.1 s hs)
theorem Zacd {l:List Stn} (h:Zay l=true) (hl:l≠[]):cutT 59 (fmtT l)=l.map stT:=by
 rw[Z2o h hl]
 refine Zmn (by simpa using hl) fun p hp=>?_
 obtain⟨s,hs,rfl⟩:=List.mem_map.1 hp
 exact Zagu ((cellB_iff.1 h).2.1 s hs)
theorem Zzl:Zay []=true:=by decide
theorem Z8t:fmtT []=⟨#[45]⟩:=by
 unfold fmtT;rw[if_pos Zzl];rfl
theorem Z7g:∀{l:List Stn},(∀s∈l,stOk s)→allO parS (l.map stT)=some l
 |[],_=>rfl
 |s::l,h=>by
  rw[List.map_cons]
  unfold allO
  rw[Zakc (h s (by simp)),Z7g (fun x hx=>h x (by simp[hx]))]
theorem Zae4 {l:List Stn} (h:Zay l=true) (hl:l≠[]):bts (fmtT l)≠[45]:=by
 intro e
 have hc:=Zacd h hl
 unfold cutT at hc
 rw[e]at hc
 cases l with
 |nil=>exact hl rfl
 |cons s r=>
  have hs:=(cellB_iff.1 h).2.1 s (by simp)
  have h1:bts (stT s)=[45]:=by
   have:=congrArg (fun x:List ByteArray=>x.head?.map bts) hc
   simpa[cutL,cutF,Zbv]using this.symm
  have:=Z1d hs
  unfold cutT at this
  rw[h1]at this
  have:=congrArg List.length this
  simp[stF,cutL,cutF]at this
theorem Zaax {l:List Stn} (h:Zay l=true):parT (fmtT l)=some l:=by
 by_cases hl:l=[]
 ·subst hl;rw[Z8t];rfl
 ·unfold parT
  rw[if_neg (Zae4 h hl),Zacd h hl,Z7g (cellB_iff.1 h).2.1]
  simp only[]
  rw[if_pos h]
theorem Zpo {t:ByteArray} {l:List Stn} (h:parT t=some l):Zay l=true:=by
 unfold parT at h
 split at h
 ·obtain rfl:=Option.some.inj h;exact Zzl
 ·split at h
  ·split at h
   ·next hc=>obtain rfl:=Option.some.inj h;exact hc
   ·cases h
  ·cases h
theorem Zah8 {t:ByteArray} {l:List Stn} (h:parT t=some l):fmtT l=t:=by
 have hcb:=Zpo h
 unfold parT at h
 split at h
 ·next e=>obtain rfl:=Option.some.inj h;rw[Z8t];exact Zae e.symm
 ·split at h
  ·next r hr=>
   have hcr:Zay r=true:=by
    split at h
    ·assumption
    ·cases h
   rw[if_pos hcr]at h
   obtain rfl:=Option.some.inj h
   obtain⟨hlen,hat⟩:=Zm3 hr
   have hne:r≠[]:=by
    intro e
    rw[e]at hlen
    have:=Zf5 59 t
    simp at hlen;rw[←hlen]at this;simp at this
   rw[Z2o hcb hne]
   have:r.map stT=cutT 59 t:=by
    apply List.ext_getElem
    ·rw[List.length_map,hlen]
    ·intro i h1 h2
     rw[List.getElem_map]
     exact(Z43 (hat i h2 (by simpa using h1))).2.1
   rw[this,Zji]
  ·cases h
theorem Zag0 (t:ByteArray):spT t=parT t:=by
 by_cases hd:bts t=[45]
 ·unfold spT parT;rw[if_pos hd,if_pos hd]
 ·have fwd:∀l,parT t=some l→spT t=some l:=by
   intro l h
   have hc:=Zpo h
   have hf:=Zah8 h
   unfold parT at h
   rw[if_neg hd]at h
   split at h
   ·next r hr=>
    have hcr:Zay r=true:=by
     split at h
     ·assumption
     ·cases h
    rw[if_pos hcr]at h
    obtain rfl:=Option.some.inj h
    obtain⟨hlen,hat⟩:=Zm3 hr
    have h8:=(cellB_iff.1 hc).1
    unfold spT
    rw[if_neg hd,List.take_of_length_le (by omega),Zq8 (r:=r) hlen (fun i h1 h2=>(Z43 (hat i h1 h2)).1)]
    simp only[]
    rw[if_pos (by rw[hf])]
   ·cases h
  have bwd:∀l,spT t=some l→parT t=some l:=by
   intro l h
   unfold spT at h
   rw[if_neg hd]at h
   split at h
   ·next r hr=>
    split at h
    ·next hf=>
     obtain rfl:=Option.some.inj h
     have hf:=Zae hf
     by_cases hc:Zay r=true
     ·rw[←hf];exact Zaax hc
     ·have ht:t=⟨#[]⟩:=by rw[←hf];unfold fmtT;rw[if_neg hc]
      subst ht
      have:allO rawS ((cutT 59 ⟨#[]⟩).take 9)=none:=by rfl
      rw[this]at hr;cases hr
    ·cases h
   ·cases h
  cases hp:parT t with
  |some l=>exact fwd l hp
  |none=>
   cases hs:spT t with
   |none=>rfl
   |some l=>rw[bwd l hs]at hp;cases hp
def Zbj (d s:List Int):List Int:=d.flatMap fun b=>s.map fun c=>Zbk b*Zbk c
theorem Zok (b:Int) (d s:List Int):Zbj (b::d) s=(s.map fun c=>Zbk b*Zbk c)++Zbj d s:=rfl
theorem Zep (d s:List Int):(Zbj d s).length=d.length*s.length:=by
 induction d with
 |nil=>simp[Zbj]
 |cons b d ih=>rw[Zok,List.length_append,List.length_map,List.length_cons,ih,Nat.succ_mul,Nat.add_comm]
theorem Zr6 (d s:List Int) {i:Nat} (h:i<d.length*s.length):(Zbj d s).getD i 0=Zbk (d.getD (i/s.length) 0)*Zbk (s.getD (i%s.length) 0):=by
 induction d generalizing i with
 |nil=>simp at h
 |cons b d ih=>
  have hs:0<s.length:=by
   rcases Nat.eq_zero_or_pos s.length with h0|h0
   ·rw[h0]at h;simp at h
   ·exact h0
  rw[Zok]
  by_cases hi:i<s.length
  ·rw[Nat.div_eq_of_lt hi,Nat.mod_eq_of_lt hi]
   simp[List.getD,List.getElem?_append,hi]
  ·have h2:i-s.length<d.length*s.length:=by rw[List.length_cons,Nat.succ_mul]at h;omega
   have e1:i/s.length=(i-s.length)/s.length+1:=by
    have:=Nat.add_div_right (i-s.length) hs
    rw[Nat.sub_add_cancel (by omega)]at this
    exact this
   have e2:i%s.length=(i-s.length)%s.length:=Nat.mod_eq_sub_mod (by omega)
   have:=ih h2
   rw[e1,e2,List.getD_cons_succ,←this]
   simp[List.getD,List.getElem?_append,hi]
theorem Zyd (d s:List Int) (b:Int):Zbj (d++[b]) s=Zbj d s++s.map fun c=>Zbk b*Zbk c:=by
 unfold Zbj;rw[List.flatMap_append];simp
def bdL (M:Int) (l:List Int):Prop:=∀x∈l, -M≤x∧x≤M
theorem Zka {M N:Int} {l:List Int} (h:bdL M l) (hN:M≤N):bdL N l:=fun x hx=>by have:=h x hx;omega
theorem Z3k {M:Int} {l:List Int} (h:bdL M l) (h0:0≤M) (i:Nat): -M≤l.getD i 0∧l.getD i 0≤M:=by
 by_cases hi:i<l.length
 ·have e:l.getD i 0=l[i]:=by simp[List.getD,hi]
  rw[e];exact h _ (List.getElem_mem hi)
 ·have e:l.getD i 0=0:=by simp[List.getD,List.getElem?_eq_none (by omega:l.length≤i)]
  rw[e];omega
theorem Zqy {l:List Int} (h1:l.length≤3000) (h2:bdL 1000000 l):sigB l=true:=by
 unfold sigB allB
 rw[decide_eq_true h1,Bool.true_and,List.all_eq_true]
 intro x hx
 have:=h2 x hx
 exact Zax this.1 this.2
theorem Zabr {l:List Int} (h:sigB l=true):bdL 1000000 l:=by
 intro x hx
 unfold sigB allB at h
 rw[Bool.and_eq_true,List.all_eq_true]at h
 exact inB_iff.1 (h.2 x hx)
theorem Zwy (x y:Int): -1≤Zbk x*Zbk y∧Zbk x*Zbk y≤1:=by
 rcases Zpm x with e|e<;>rcases Zpm y with f|f<;>rw[e,f]<;>omega
theorem Zib (d s:List Int):bdL 1 (Zbj d s):=by
 intro x hx
 unfold Zbj at hx
 obtain⟨b,_,hb⟩:=List.mem_flatMap.1 hx
 obtain⟨c,_,rfl⟩:=List.mem_map.1 hb
 exact Zwy b c
def Zb9 (g:Int) (l:List Int):List Int:=l.map fun x=>g*x
theorem Zh5 (g:Int) (l:List Int):(Zb9 g l).length=l.length:=by simp[Zb9]
theorem Ztc (g:Int) {l:List Int} {i:Nat} (h:i<l.length):(Zb9 g l).getD i 0=g*l[i]:=by simp[Zb9,List.getD,h]
theorem Z7k {g x:Int} (hg:0≤g∧g≤1000) (hx: -1≤x∧x≤1): -1000≤g*x∧g*x≤1000:=by
 have:x= -1∨x=0∨x=1:=by omega
 rcases this with rfl|rfl|rfl<;>omega
theorem Zaar {g:Int} {l:List Int} (hg:0≤g∧g≤1000) (h:bdL 1 l):bdL 1000 (Zb9 g l):=by
 intro x hx
 unfold Zb9 at hx
 obtain⟨y,hy,rfl⟩:=List.mem_map.1 hx
 exact Z7k hg (h y hy)
def addL (a b:List Int):List Int:=(List.range (max a.length b.length)).map fun i=>a.getD i 0+b.getD i 0
theorem Zhd (a b:List Int):(addL a b).length=max a.length b.length:=by simp[addL]
theorem Zjk {l:List Int} {i:Nat} (h:l.length≤i):l.getD i 0=0:=by simp[List.getD,List.getElem?_eq_none h]
theorem Zur (a b:List Int) (i:Nat):(addL a b).getD i 0=a.getD i 0+b.getD i 0:=by
 by_cases h:i<max a.length b.length
 ·simp[addL,List.getD,List.getElem?_map,List.getElem?_range h]
 ·rw[Zjk (by rw[Zhd];omega),Zjk (by omega),Zjk (by omega)];rfl
theorem Zakm {A B:Int} {a b:List Int} (ha:bdL A a) (hb:bdL B b) (hA:0≤A) (hB:0≤B):bdL (A+B) (addL a b):=by
 intro x hx
 unfold addL at hx
 obtain⟨i,_,rfl⟩:=List.mem_map.1 hx
 have:=Z3k ha hA i
 have:=Z3k hb hB i
 omega
def padL (a:List Int) (m:Nat):List Int:=a++List.replicate (m-a.length) 0
theorem Zus {a:List Int} {m:Nat} (h:a.length≤m):(padL a m).length=m:=by simp[padL];omega
theorem Zuz (a:List Int) (m i:Nat):(padL a m).getD i 0=a.getD i 0:=by
 unfold padL
 by_cases h:i<a.length
 ·simp[List.getD,List.getElem?_append,h]
 ·rw[Zjk (by omega:a.length≤i)]
  simp[List.getD,List.getElem?_append,h,List.getElem?_replicate]
  split<;>rfl
theorem Zacg {a b:List Int} {k:Nat} (hk:b.length≤k):(addL a b).take k++(padL a (max a.length b.length)).drop k=addL a b:=by
 have hlen:(padL a (max a.length b.length)).length=max a.length b.length:=Zus (by omega)
 apply List.ext_getElem?
 intro j
 rw[List.getElem?_append,List.length_take,Zhd]
 by_cases h1:j<min k (max a.length b.length)
 ·rw[if_pos h1,List.getElem?_take,if_pos (by omega)]
 ·rw[if_neg h1]
  by_cases h2:j<max a.length b.length
  ·have e:min k (max a.length b.length)=k:=by omega
   rw[e,List.getElem?_drop,show k+(j-k)=j by omega]
   have e1:=Zur a b j
   rw[Zjk (show b.length≤j by omega),Int.add_zero,←Zuz a (max a.length b.length) j]at e1
   have l1:j<(addL a b).length:=by rw[Zhd];exact h2
   have l2:j<(padL a (max a.length b.length)).length:=by rw[hlen];exact h2
   rw[List.getElem?_eq_getElem l1,List.getElem?_eq_getElem l2]
   simp only[List.getD,List.getElem?_eq_getElem l1,List.getElem?_eq_getElem l2,Option.getD_some]at e1
   rw[e1]
  ·rw[List.getElem?_eq_none (by rw[List.length_drop,hlen];omega),List.getElem?_eq_none (by rw[Zhd];omega)]
def usrL (u:Stn):List Int:=Zb9 u.g (Zbj (Zab u.ph) (Zab u.nm))
def Zhv (us:List Stn):List Int:=us.foldl (fun acc u=>addL acc (usrL u)) []
theorem Z5c (us:List Stn) (u:Stn):Zhv (us++[u])=addL (Zhv us) (usrL u):=by unfold Zhv;rw[List.foldl_append];rfl
theorem Znw {us:List Stn} {k:Nat} (hk:k<us.length):Zhv (us.take (k+1))=addL (Zhv (us.take k)) (usrL us[k]):=by
 rw[List.take_succ_eq_append_getElem hk,Z5c]
def Zed (u:Stn):Bool:=seqB u.nm&&Zan u.ph&&inB u.g 0 1000&&inB u.l 0 1000&&decide ((u.ph.size:Int)*u.nm.size+u.l≤3000)
def Zee (us:List Stn):Bool:=decide (us.length≤8)&&us.all Zed
def sndR (us:List Stn):Option (List Int):=if Zee us=true then some (Zhv us)else none
theorem Zg4 {u:Stn} (h:Zed u=true):seqB u.nm=true∧Zan u.ph=true∧(0≤u.g∧u.g≤1000)∧(0≤u.l∧u.l≤1000)∧(u.ph.size:Int)*u.nm.size+u.l≤3000:=by
 unfold Zed at h
 simp only[Bool.and_eq_true]at h
 exact⟨h.1.1.1.1,h.1.1.1.2,inB_iff.1 h.1.1.2,inB_iff.1 h.1.2,of_decide_eq_true h.2⟩
theorem Z3y (u:Stn):(usrL u).length=u.ph.size*u.nm.size:=by unfold usrL;rw[Zh5,Zep,Zac,Zac]
theorem Zp1 {u:Stn} (h:Zed u=true):(usrL u).length≤3000:=by
 obtain⟨_,_,_,h4,h5⟩:=Zg4 h
 rw[Z3y]
 have e:(u.ph.size:Int)*u.nm.size=((u.ph.size*u.nm.size:Nat):Int):=by simp
 omega
theorem Z1z {u:Stn} (h:Zed u=true):bdL 1000 (usrL u):=Zaar (Zg4 h).2.2.1 (Zib _ _)
theorem Z5k {us:List Stn} (h:us.all Zed=true):∀k,k≤us.length→(Zhv (us.take k)).length≤3000∧bdL (1000*(k:Int)) (Zhv (us.take k)):=by
 intro k
 induction k with
 |zero=>intro _;exact⟨by simp[Zhv],fun x hx=>by simp[Zhv]at hx⟩
 |succ k ih=>
  intro hk
  obtain⟨h1,h2⟩:=ih (by omega)
  have hu:Zed us[k]=true:=(List.all_eq_true.1 h) _ (List.getElem_mem _)
  rw[Znw (by omega)]
  refine⟨by rw[Zhd];have:=Zp1 hu;omega,?_⟩
  have:=Zakm h2 (Z1z hu) (by omega) (by omega)
  exact Zka this (by omega)
theorem Zrk {us:List Stn} (h:Zee us=true) {k:Nat} (hk:k≤us.length):sigB (Zhv (us.take k))=true:=by
 unfold Zee at h
 rw[Bool.and_eq_true]at h
 have h8:=of_decide_eq_true h.1
 obtain⟨h1,h2⟩:=Z5k h.2 k hk
 exact Zqy h1 (Zka h2 (by omega))
theorem Zrs {us:List Stn} (h:Zee us=true) {k:Nat} (hk:k<us.length):Zed us[k]=true:=by
 unfold Zee at h
 rw[Bool.and_eq_true]at h
 exact(List.all_eq_true.1 h.2) _ (List.getElem_mem _)
theorem Z4p {us:List Stn} (h:Zee us=true):sndR us=some (Zhv us):=by unfold sndR;rw[if_pos h]
theorem Zacu {us:List Stn} (h:Zee us=false):sndR us=none:=by unfold sndR;rw[h];rfl
theorem Zzz {us:List Stn} (h:8<us.length):Zee us=false:=by unfold Zee;rw[decide_eq_false (by omega)];rfl
theorem Zsy {us:List Stn} {k:Nat} (hk:k<us.length) (h:Zed us[k]=false):Zee us=false:=by
 unfold Zee
 have:us.all Zed=false:=by
  rw[List.all_eq_false]
  exact⟨us[k],List.getElem_mem _,by rw[h];simp⟩
 rw[this,Bool.and_false]
theorem Zck (s:ByteArray):s.toList=bts s:=ByteArray.toList_eq s
theorem Zou {s:ByteArray} {l:Byts} (h:bts s≠l):(s.toList==l)=false:=by rw[Zck,beq_eq_false_iff_ne];exact h
theorem Zu6 {s:ByteArray} {l:Byts} (h:bts s=l):(s.toList==l)=true:=by rw[Zck,h];simp
theorem Zkb {s:ByteArray} (h:s.size=0):bts s=[]:=by rw[←List.length_eq_zero_iff,Zbz];exact h
theorem Zfh {s:ByteArray} (h:s.size≠0):bts s≠[]:=fun e=>h (by rw[←Zbz,e];rfl)
theorem Zcg (s:ByteArray) (w:World):Calls Tryz.prog 53 #[.string s] w fun e w'=>e= .returned (.string (Zaf s))∧w=w':=by
 by_cases h:s.size=0
 ·have hs:=Zkb h
  have hr:=Lib.hid (show Zaf s=⟨#[45]⟩by unfold Zaf;rw[if_pos h])
  obtain rfl:s=⟨#[]⟩:=Zae hs
  clear h hs
  go_enter Tryz.func53,Tryz.ntmps53
  go_wp2_with fail
  go_ret
  exact⟨by rw[hr.out];rfl,rfl⟩
 ·have hr:=Lib.hid (show Zaf s=s by unfold Zaf;rw[if_neg h])
  have h1:=Zou (Zfh h)
  have h2:s.toList.isEmpty=false:=by rw[Zck];simpa using Zfh h
  clear h
  go_enter Tryz.func53,Tryz.ntmps53
  go_wp2_with fail
  go_ret
  exact⟨by rw[hr.out];rfl,rfl⟩
theorem Zev (s:ByteArray) (w:World):Calls Tryz.prog 154 #[.string s] w fun e w'=>e= .returned (.string (Zaf s))∧w=w':=by
 by_cases h:s.size=0
 ·have hs:=Zkb h
  have hr:=Lib.hid (show Zaf s=⟨#[45]⟩by unfold Zaf;rw[if_pos h])
  obtain rfl:s=⟨#[]⟩:=Zae hs
  clear h hs
  go_enter Tryz.func154,Tryz.ntmps154
  go_wp2_with fail
  go_ret
  exact⟨by rw[hr.out];rfl,rfl⟩
 ·have hr:=Lib.hid (show Zaf s=s by unfold Zaf;rw[if_neg h])
  have h1:=Zou (Zfh h)
  have h2:s.toList.isEmpty=false:=by rw[Zck];simpa using Zfh h
  clear h
  go_enter Tryz.func154,Tryz.ntmps154
  go_wp2_with fail
  go_ret
  exact⟨by rw[hr.out];rfl,rfl⟩
theorem Zci (s:ByteArray) (w:World):Calls Tryz.prog 206 #[.string s] w fun e w'=>e= .returned (.string (Zar s))∧w=w':=by
 by_cases h:bts s=[45]
 ·have hr:=Lib.hid (show Zar s=⟨#[]⟩by unfold Zar;rw[if_pos h])
  have h1:=Zu6 h
  clear h
  go_enter Tryz.func206,Tryz.ntmps206
  go_wp2_with fail
  go_ret
  exact⟨by rw[hr.out];rfl,rfl⟩
 ·have hr:=Lib.hid (show Zar s=s by unfold Zar;rw[if_neg h])
  have h1:=Zou h
  clear h
  go_enter Tryz.func206,Tryz.ntmps206
  go_wp2_with fail
  go_ret
  exact⟨by rw[hr.out];rfl,rfl⟩
theorem Zkk (s:ByteArray) (w:World):Calls Tryz.prog 217 #[.string s] w fun e w'=>e= .returned (.string (Zar s))∧w=w':=by
 by_cases h:bts s=[45]
 ·have hr:=Lib.hid (show Zar s=⟨#[]⟩by unfold Zar;rw[if_pos h])
  have h1:=Zu6 h
  clear h
  go_enter Tryz.func217,Tryz.ntmps217
  go_wp2_with fail
  go_ret
  exact⟨by rw[hr.out];rfl,rfl⟩
 ·have hr:=Lib.hid (show Zar s=s by unfold Zar;rw[if_neg h])
  have h1:=Zou h
  clear h
  go_enter Tryz.func217,Tryz.ntmps217
  go_wp2_with fail
  go_ret
  exact⟨by rw[hr.out];rfl,rfl⟩
def subL (l:Byts) (a b:Nat):Byts:=(l.take b).drop a
theorem Z3a (l:Byts) (a:Nat):subL l a a=[]:=by unfold subL;exact List.drop_of_length_le (by rw[List.length_take];omega)
theorem Zaah {l:Byts} {a b:Nat} (h:a≤b) (hb:b<l.length):subL l a (b+1)=subL l a b++[l[b]]:=by
 unfold subL;rw[List.take_succ_eq_append_getElem hb,List.drop_append_of_le_length (by rw[List.length_take];omega)]
theorem Zgx (s:ByteArray) {a b:Nat} (_h:a≤b):bts (s.extract a b)=subL (bts s) a b:=by
 unfold bts subL
 rw[Lib.extract_data,List.drop_take]
def Zsk (c:UInt8) (s:ByteArray) (P:List ByteArray) (F k:Nat):Prop:=P.map bts++cutF c (subL (bts s) F k) ((bts s).drop k)=cutL c (bts s)
theorem Z1p (c:UInt8) (s:ByteArray):Zsk c s [] 0 0:=by
 unfold Zsk;rw[Z3a];rfl
theorem Zac0 {c:UInt8} {s:ByteArray} {P:List ByteArray} {F k:Nat} (h:Zsk c s P F k) (hF:F≤k) (hk:k=s.size):P++[s.extract F k]=cutT c s:=by
 apply Zgn
 rw[Zhg,←h,List.map_append,List.drop_of_length_le (by rw[Zbz];omega),cutF,List.map_cons,Zgx s hF];rfl
theorem Z7q {c:UInt8} {s:ByteArray} {P:List ByteArray} {F k:Nat} (h:Zsk c s P F k) (hF:F≤k) (hk:k<s.size) (hc:s[k]=c):Zsk c s (P++[s.extract F k]) (k+1) (k+1):=by
 have hk':k<(bts s).length:=hk
 have hc':(bts s)[k]=c:=hc
 unfold Zsk at*
 rw[List.drop_eq_getElem_cons hk',cutF,if_pos hc']at h
 rw[←h,List.map_append,Z3a,List.append_assoc,List.map_cons,Zgx s hF];rfl
theorem Z6u {c:UInt8} {s:ByteArray} {P:List ByteArray} {F k:Nat} (h:Zsk c s P F k) (hF:F≤k) (hk:k<s.size) (hc:s[k]≠c):Zsk c s P F (k+1):=by
 have hk':k<(bts s).length:=hk
 have hc':(bts s)[k]≠c:=hc
 unfold Zsk at*
 rw[List.drop_eq_getElem_cons hk',cutF,if_neg hc']at h
 rw[←h,Zaah hF hk']
def RetTx (w:World) (l:List ByteArray) (e:Ending) (w':World):Prop:=∃ao n c,e= .returned (.slice ao n c)∧OwnT w' w.heap.size ao n c l∧Below w.heap.size w w'
theorem Zho (s:ByteArray) (C:UInt8) (c:Int) (hc:c=(C.toNat:Int)) (w:World) (hs:s.size≤1000000000):Calls Tryz.prog 67 #[.string s,.int .u8 c] w (RetTx w (cutT C s)):=by
 have HC:=Lib.hid hc
 clear hc
 have hb0:Below w.heap.size w (w.alloc (.cells #[] 9)):=(Below.refl _ _).alloc (Nat.le_refl _) _
 have ho0:Zjo (w.alloc (.cells #[] 9)) w.heap.size (.slice (some ⟨w.heap.size,0,none⟩) 0 0) []:=OwnVF.made0 _ _ w (Nat.le_refl _)
 go_enter Tryz.func67,Tryz.ntmps67
 go_wp2_with fail
 go_loopw [5,6,7] (fun v f i wr=>∃(k F:Nat) (P:List ByteArray),k≤s.size+1∧i= .int .i64 k∧f= .int .i64 F∧F≤k∧Hid (P.length≤k)∧Hid (k≤s.size→Zsk C s P F k)∧Hid (k=s.size+1→P=cutT C s)∧Zjo wr w.heap.size v P∧Below w.heap.size w wr) (fun _ _ i _=>s.size+1-(intOf i).toNat)
 case atStart=>exact⟨0,0,[],by omega,rfl,rfl,Nat.le_refl _,Lib.hid (by simp),Lib.hid (fun _=>Z1p C s),Lib.hid (fun h=>by omega),ho0,hb0⟩
 case round=>
  clear ho0 hb0
  obtain⟨k,F,P,hk,rfl,rfl,hF,HP,HA,HZ,ho,hb⟩:=hrel
  have hz:=hb.size
  by_cases hlt:k≤s.size
  ·have hle:(k:Int)≤(s.size:Int):=by omega
   have hA:=Lib.hid (HA.out hlt)
   by_cases he:k=s.size
   ·have HE:=Lib.hid (Zac0 hA.out hF he)
    have heq:((k:Int)==(s.size:Int))=true:=by rw[beq_iff_eq];omega
    have hFk:(F:Int)≤(k:Int):=by omega
    have hp9:P.length≤k:=HP.out
    have HEK:=Lib.hid he
    clear he
    go_wp2_with (at_builtin;refine Zd5 24 9 16 ByteArray.empty Tryz.underlying24 Zd2 rfl (by decide) (fun _=>rfl) wr rfl _ _ rfl w.heap.size _ P _ rfl (by exact ho) rfl (by omega) hz ?_;intro v' w5 ho5 _ hb5)
    have hb6:=hb.trans hb5
    rw[HE.out]at ho5
    go_roundw
    case rel=>exact⟨k+1,k+1,_,by omega,by go_num,by go_num,Nat.le_refl _,Lib.hid (by rw[←HE.out];simp;omega),Lib.hid (fun h=>by have:=HEK.out;omega),Lib.hid (fun _=>rfl),ho5,hb6⟩
    case measure=>simp[intOf];omega
   ·have heq:((k:Int)==(s.size:Int))=false:=by rw[beq_eq_false_iff_ne];omega
    have hks:k<s.size:=by omega
    clear he
    by_cases hcc:s[k]=C
    ·have HH:=Lib.hid (Z7q hA.out hF hks hcc)
     have hce:((s[k].toNat:Int)==c)=true:=by rw[HC.out,hcc];simp
     have hFk:(F:Int)≤(k:Int):=by omega
     have hp9:P.length≤k:=HP.out
     clear hcc
     go_wp2_with (at_builtin;refine Zd5 24 9 16 ByteArray.empty Tryz.underlying24 Zd2 rfl (by decide) (fun _=>rfl) wr rfl _ _ rfl w.heap.size _ P _ rfl (by exact ho) rfl (by omega) hz ?_;intro v' w5 ho5 _ hb5)
     have hb6:=hb.trans hb5
     go_roundw
     case rel=>exact⟨k+1,k+1,_,by omega,by go_num,by go_num,Nat.le_refl _,Lib.hid (by simp;omega),Lib.hid (fun _=>HH.out),Lib.hid (fun h=>by omega),ho5,hb6⟩
     case measure=>simp[intOf];omega
    ·have HM:=Lib.hid (Z6u hA.out hF hks hcc)
     have hce:((s[k].toNat:Int)==c)=false:=by
      rw[HC.out,beq_eq_false_iff_ne]
      intro e
      exact hcc (UInt8.toNat_inj.1 (by omega))
     have hp9:P.length≤k:=HP.out
     clear hcc
     go_wp2_with fail
     go_roundw
     case rel=>exact⟨k+1,F,P,by omega,by go_num,rfl,by omega,Lib.hid (by omega),Lib.hid (fun _=>HM.out),Lib.hid (fun h=>by omega),ho,hb⟩
     case measure=>simp[intOf];omega
  ·have hle:¬(k:Int)≤(s.size:Int):=by omega
   have hp:=HZ.out (by omega)
   have hp9:P.length≤k:=HP.out
   obtain⟨a2,n2,c2,hv,ho2⟩:=ho.own (by omega)
   subst hv
   rw[hp]at ho2
   clear hp
   go_wp2_with fail
   go_ret
   exact⟨a2,n2,c2,rfl,ho2,hb⟩
theorem Zabz {u:Nat} (h:¬u<10):Lib.decDigits u=Lib.decDigits (u/10)++[UInt8.ofNat (48+u%10)]:=by rw[Lib.decDigits,dif_neg h]
theorem Zqa (a b:Byts):txt a++txt b=txt (a++b):=by
 apply ByteArray.ext;simp[txt]
theorem Zwi (u:Nat):text [((48+u:Nat):Int)]=txt [UInt8.ofNat (48+u)]:=rfl
theorem Z2r {n:Nat} (h:n≤9223372036854775807):(Lib.decDigits n).length≤21:=by
 have:=Lib.itoa_length_le (n:Int) (by omega) (by omega)
 rwa [Lib.itoa_nonneg]at this
theorem Zaci (u:Int):(text [u]).size=1:=by rw[Zaq];rfl
theorem Z47 (n:Nat) (w:World) (h:n≤9223372036854775807):Calls Tryz.prog 141 #[.int .i64 n] w fun e w'=>e= .returned (.string (txt (Lib.decDigits n)))∧Below w.heap.size w w':=by
 have HL:=Lib.hid (Z2r h)
 go_enter Tryz.func141,Tryz.ntmps141
 go_wp2_with fail
 go_loopw [0,3] (fun i o wr=>∃(m:Nat) (x:ByteArray),i= .int .i64 m∧o= .string x∧m≤9223372036854775807∧Hid (Lib.decDigits n=Lib.decDigits m++bts x)∧Below w.heap.size w wr) (fun i _ _=>(intOf i).toNat)
 case atStart=>exact⟨n,⟨#[]⟩,rfl,rfl,h,Lib.hid (by simp[bts]),Below.refl _ _⟩
 case round=>
  obtain⟨m,x,rfl,rfl,hm,HX,hb⟩:=hrel
  have hx:x.size≤21:=by
   have h1:=congrArg List.length HX.out
   have h2:=HL.out
   rw[List.length_append,Zbz]at h1
   omega
  by_cases hlt:9<m
  ·have hlt':(9:Int)<(m:Int):=by omega
   have HS:=Lib.hid (Zabz (u:=m) (by omega))
   obtain⟨r,hr⟩:∃r,r=m%10:=⟨_,rfl⟩
   obtain⟨q,hq⟩:∃q,q=m/10:=⟨_,rfl⟩
   have hr9:r≤9:=by omega
   have hqm:q<m:=by omega
   rw[←hr,←hq]at HS
   have e1:(m:Int)%10=(r:Int):=by omega
   have e2:(m:Int)/10=(q:Int):=by omega
   have HN:=Lib.hid (show text [48+(r:Int)]++x=txt (UInt8.ofNat (48+r)::bts x)by
    rw[show(48+(r:Int))=((48+r:Nat):Int)by omega,Zwi];exact Zqa _ (bts x))
   have hsum:¬(text [48+(r:Int)]).size+x.size>9223372036854775807:=by rw[Zaci];omega
   have hb2:Below w.heap.size w (wr.alloc (.cells #[.int .u8 (48+(r:Int))] 5)):=hb.alloc hb.size _
   clear hr hq
   go_wp2_with (with_reducible refine Zca 22 5 9 Tryz.underlying22 Tryz.underlying5 Tryz.underlying9 _ rfl (.tmp 18) rfl rfl (Zr9 _ _ _) ?_)
   rw[HN.out]
   clear e1 e2 hsum
   go_roundw
   case rel=>exact⟨q,_,rfl,rfl,by omega,Lib.hid (by rw[HX.out,HS.out,Zbv];simp),hb2⟩
   case measure=>simp[intOf];omega
  ·have hlt':¬(9:Int)<(m:Int):=by omega
   have HN:=Lib.hid (show text [48+(m:Int)]++x=txt (Lib.decDigits n)by
    rw[show(48+(m:Int))=((48+m:Nat):Int)by omega,Zwi,HX.out,Lib.decDigits_one (by omega)];exact Zqa _ (bts x))
   have hsum:¬(text [48+(m:Int)]).size+x.size>9223372036854775807:=by rw[Zaci];omega
   have hm9:m≤9:=by omega
   have hb2:Below w.heap.size w (wr.alloc (.cells #[.int .u8 (48+(m:Int))] 5)):=hb.alloc hb.size _
   go_wp2_with (with_reducible refine Zca 22 5 9 Tryz.underlying22 Tryz.underlying5 Tryz.underlying9 _ rfl (.tmp 27) rfl rfl (Zr9 _ _ _) ?_)
   go_ret
   exact⟨by rw[←HN.out];rfl,hb2⟩
theorem Zhl (n:Int) (w:World) (h0: -9223372036854775807≤n) (h1:n≤9223372036854775807):Calls Tryz.prog 141 #[.int .i64 n] w fun e w'=>e= .returned (.string (decT n))∧Below w.heap.size w w':=by
 by_cases hn:n<0
 ·obtain⟨u,rfl⟩:∃u:Nat,n= -(u:Int):=⟨n.natAbs,by omega⟩
  have HD:=Lib.hid (show(⟨#[45]⟩:ByteArray)++txt (Lib.decDigits u)=decT (-(u:Int))by
   unfold decT;rw[Lib.itoa_neg u (by omega)];exact Zqa [45] _)
  have HL:=Lib.hid (Z2r (n:=u) (by omega))
  have hz:(txt (Lib.decDigits u)).size≤21:=by rw[Zfi];exact HL.out
  have hneg:IntKind.i64.wrap (-(-(u:Int)))=(u:Int):=by rw[Int.neg_neg];exact IntWalk.i64_in _ (by omega)
  have hneg2: -(-(u:Int))=(u:Int):=Int.neg_neg _
  have hsum:¬(⟨#[45]⟩:ByteArray).size+(txt (Lib.decDigits u)).size>9223372036854775807:=by
   have:(⟨#[45]⟩:ByteArray).size=1:=rfl
   omega
  go_enter Tryz.func141,Tryz.ntmps141
  go_wp2_with fail
  refine(Z47 u _ (by omega)).mono ?_;rintro e w1 ⟨rfl,hb1⟩
  go_wp2_with fail
  go_ret
  exact⟨by rw[←HD.out];rfl,hb1⟩
 ·obtain⟨u,rfl⟩:=Int.eq_ofNat_of_zero_le (show 0≤n by omega)
  refine(Z47 u w (by omega)).mono ?_;rintro e w1 ⟨rfl,hb1⟩
  exact⟨by unfold decT;rw[Lib.itoa_nonneg],hb1⟩
end Go.Proofs.YtcjihfongfefoaaGreatDoor
