/- G Tb -/
import Derived.Test.YtcjihfongfefoaaGreatDoorJ02
import Derived.Laws.IdiomStrings
import Derived.Laws.BytesString
namespace Go.Proofs.YtcjihfongfefoaaGreatDoor
open Go.RowKit
section
variable {α:Type} {f:α→Value} {t:TypeId} {w w':World} {ao:Option Addr} {n c lo:Nat} {l:List α}
def RdF (f:α→Value) (w:World) (ao:Option Addr) (n:Nat) (l:List α):Prop:=
 n=l.length∧n≤1099511627776∧∀i (hi:i<l.length),∃b off,ao=some ⟨b,off,none⟩∧w.cell? ⟨b,off+i,none⟩=some (f (l[i]'hi))
theorem RdF.below (h:RdF f w ao n l) (hb:Below w.heap.size w w'):RdF f w' ao n l:=by
 refine⟨h.1,h.2.1,fun i hi=>?_⟩
 obtain⟨b,off,h1,h2⟩:=h.2.2 i hi
 exact⟨b,off,h1,by rw[hb.cell (Zaa h2)];exact h2⟩
theorem RdF.qw (h:RdF f w ao n l) (hq:Qw w w'):RdF f w' ao n l:=h.below (hq.below _)
theorem RdF.nil (f:α→Value) (w:World):RdF f w none 0 []:=⟨rfl,by omega,fun i hi=>absurd hi (by simp)⟩
theorem RdF.at (h:RdF f w ao n l) {i:Nat} (hi:i<n):∃b off,ao=some ⟨b,off,none⟩∧∃hl:i<l.length,w.cell? ⟨b,off+i,none⟩=some (f (l[i]'hl)):=by
 have hl:i<l.length:=by rw[←h.1];exact hi
 obtain⟨b,off,h1,h2⟩:=h.2.2 i hl
 exact⟨b,off,h1,hl,h2⟩
theorem RdF.lt (h:RdF f w ao n l):∀b,ao=some b→0<n→b.block<w.heap.size:=by
 intro b hb hn
 obtain⟨k,off,h1,_,h2⟩:=h.at hn
 rw[hb]at h1
 cases h1
 exact Zaa h2
theorem RdF.take (h:RdF f w ao n l) {k:Nat} (hk:k≤n):RdF f w ao k (l.take k):=by
 have hl:=h.1
 refine⟨by rw[List.length_take];omega,by have:=h.2.1;omega,fun i hi=>?_⟩
 have hi2:i<k:=by rw[List.length_take]at hi;omega
 obtain⟨b,off,h1,_,h2⟩:=h.at (show i<n by omega)
 exact⟨b,off,h1,by rw[h2];simp⟩
theorem RdF.drop {b off:Nat} (h:RdF f w (some ⟨b,off,none⟩) n l) {k:Nat} (hk:k≤n):RdF f w (some ⟨b,off+k,none⟩) (n-k) (l.drop k):=by
 have hl:=h.1
 refine⟨by rw[List.length_drop];omega,by have:=h.2.1;omega,fun i hi=>?_⟩
 have hi2:k+i<l.length:=by rw[List.length_drop]at hi;omega
 obtain⟨b',off',h1,h2⟩:=h.2.2 (k+i) hi2
 cases h1
 exact⟨b,off+k,rfl,by rw[Nat.add_assoc,h2];simp⟩
theorem RdF.news {ad:Addr} (h:RdF f w (some ad) n l):∀j u,(l.map f)[j]?=some u→w.cell? (ad.add j)=some u:=by
 intro j u hu
 have hj:j<l.length:=by simpa using(List.getElem?_eq_some_iff.1 hu).1
 obtain⟨b,off,h1,h2⟩:=h.2.2 j hj
 cases h1
 rw[Addr.add_lit,h2,←hu]
 simp[hj]
theorem RdF.empty {ao:Option Addr} (h:RdF f w ao n l) (h0:ao=none):n=0∧l=[]:=by
 subst h0
 rcases Nat.eq_zero_or_pos n with h1|h1
 ·subst h1;exact⟨rfl,List.eq_nil_of_length_eq_zero h.1.symm⟩
 ·obtain⟨b,off,h2,_⟩:=h.at h1
  cases h2
def OwnF (f:α→Value) (t:TypeId) (w:World) (lo:Nat) (ao:Option Addr) (n c:Nat) (l:List α):Prop:=
 n=l.length∧n≤1099511627776∧w.ownsRow lo t 1 (.slice ao n c) n (l.map f)
theorem OwnF.rd (h:OwnF f t w lo ao n c l):RdF f w ao n l:=by
 obtain⟨hn,hs,hown⟩:=h
 refine⟨hn,hs,fun i hi=>?_⟩
 rcases hown.2 with ⟨h1,h2⟩|⟨g,cap,cur,hv,hr⟩
 ·omega
 ·cases hv
  refine⟨g,0,rfl,?_⟩
  rw[Nat.zero_add,hown.cellAt i (by omega)]
  simp[hi]
theorem OwnF.lt (h:OwnF f t w lo ao n c l):∀b,ao=some b→lo≤b.block∧b.block<w.heap.size:=by
 intro b hb
 exact h.2.2.lt b.block (by rw[Zhr,hb];rfl)
theorem OwnF.cap (h:OwnF f t w lo ao n c l):n≤c:=by
 rcases h.2.2.2 with ⟨h1,h2⟩|⟨g,cap,cur,hv,_,_,hc,_⟩
 ·cases h1;exact Nat.le_refl _
 ·cases hv;exact hc
theorem OwnF.zero (h:OwnF f t w lo ao n c l) (h0:ao=none):c=0:=by
 rcases h.2.2.2 with ⟨h1,h2⟩|⟨g,cap,cur,hv,_⟩
 ·cases h1;rfl
 ·cases hv;cases h0
def OwnVF (f:α→Value) (t:TypeId) (w:World) (lo:Nat) (v:Value) (l:List α):Prop:=w.ownsRow lo t 1 v l.length (l.map f)
theorem OwnVF.own {v:Value} (h:OwnVF f t w lo v l) (hs:l.length≤1099511627776):∃ao n c,v= .slice ao n c∧OwnF f t w lo ao n c l:=by
 rcases h.2 with ⟨hv,hl⟩|⟨g,cap,cur,hv,hr⟩
 ·refine⟨none,0,0,hv,hl.symm,by omega,?_⟩
  subst hv;unfold OwnVF at h;rwa [hl]at h
 ·refine⟨_,_,_,hv,rfl,hs,?_⟩
  subst hv;exact h
theorem OwnF.v (h:OwnF f t w lo ao n c l):OwnVF f t w lo (.slice ao n c) l:=by
 have:=h.2.2
 rw[h.1]at this
 unfold OwnVF
 rw[h.1]
 exact this
theorem OwnVF.made0 (f:α→Value) (t:TypeId) (w:World) {lo:Nat} (hb:lo≤w.heap.size):OwnVF f t (w.alloc (.cells #[] t)) lo (.slice (some ⟨w.heap.size,0,none⟩) 0 0) []:=
 World.ownsRow_lit (size:=1) w #[] 0 hb (Nat.zero_le _) rfl
theorem OwnVF.grown {v:Value} (h:OwnVF f t w lo v l) (hg:w.grownBy w' v.ownBlock) (hlo:lo≤w.heap.size):Below lo w w':=
 (Below.refl _ _).grown hg hlo fun k hk=>(h.lt k hk).1
theorem OwnVF.below {v:Value} (h:OwnVF f t w lo v l) (hb:Below w.heap.size w w'):OwnVF f t w' lo v l:=
 Zam h hb fun k hk=>(h.lt k hk).2
theorem Zyw {l r:List α} {k:Nat} (hk:k<l.length) (hr:r.length=l.length):(l.take k++r.drop k).set k l[k]=l.take (k+1)++r.drop (k+1):=by
 rw[List.set_append_right _ _ (by rw[List.length_take];omega)]
 rw[List.length_take,Nat.min_eq_left (by omega),Nat.sub_self,List.take_succ_eq_append_getElem hk,List.append_assoc,List.drop_eq_getElem_cons (by omega)]
 rfl
theorem Zs6 {l r:List α} {k:Nat} (hk:k<l.length) (hr:r.length=l.length):((l.take k++r.drop k).map f).set k (f l[k])=(l.take (k+1)++r.drop (k+1)).map f:=by
 rw[←List.map_set]
 congr 1
 rw[List.set_append_right _ _ (by rw[List.length_take];omega)]
 rw[List.length_take,Nat.min_eq_left (by omega),Nat.sub_self,List.take_succ_eq_append_getElem hk,List.append_assoc,List.drop_eq_getElem_cons (by omega)]
 rfl
def FillF (f:α→Value) (t:TypeId) (w:World) (lo g m:Nat) (L Z:List α) (k:Nat):Prop:=
 w.ownsRow lo t 1 (.slice (some ⟨g,0,none⟩) m m) m ((L.take k++Z.drop k).map f)∧L.length=m∧Z.length=m
variable {g m k:Nat} {L Z:List α}
theorem FillF.cell (h:FillF f t w lo g m L Z k) (hk:k<m):∃z:α,w.cell? ⟨g,k,none⟩=some (f z):=by
 obtain⟨ho,hL,hZ⟩:=h
 refine⟨Z[k]'(by omega),?_⟩
 rw[ho.cellAt k (by omega),List.getElem?_map,List.getElem?_append,List.length_take,Nat.min_eq_left (by omega),if_neg (by omega),List.getElem?_drop,Nat.sub_self,Nat.add_zero]
 simp[show k<Z.length by omega]
theorem FillF.free (h:FillF f t w lo g m L Z k) (j:Nat):w.frozen? ⟨g,j,none⟩=false:=h.1.frozenAt j
theorem FillF.base (h:FillF f t w lo g m L Z k):lo≤g:=(h.1.lt g rfl).1
theorem FillF.lt (h:FillF f t w lo g m L Z k):g<w.heap.size:=(h.1.lt g rfl).2
theorem FillF.step (h:FillF f t w lo g m L Z k) (hk:k<m) {y:Value} (hy:∀hl:k<L.length,f (L[k]'hl)=y):FillF f t (w.setCell ⟨g,k,none⟩ y) lo g m L Z (k+1):=by
 obtain⟨ho,hL,hZ⟩:=h
 have hl:k<L.length:=by omega
 have h2:=(ho.stored k y).1
 rw[←hy hl,Zs6 hl (by omega)]at h2
 rw[←hy hl]
 exact⟨h2,hL,hZ⟩
theorem FillF.below {w1:World} (h:FillF f t w lo g m L Z k) (hb:Below lo w1 w) (u:Value):Below lo w1 (w.setCell ⟨g,k,none⟩ u):=hb.setCell h.base u
theorem FillF.done (h:FillF f t w lo g m L Z k) (hk:m≤k):OwnVF f t w lo (.slice (some ⟨g,0,none⟩) m m) L:=by
 obtain⟨ho,hL,hZ⟩:=h
 subst hL
 rw[List.take_of_length_le hk,List.drop_of_length_le (by omega),List.append_nil]at ho
 exact ho
theorem FillF.alter (h:FillF f t w lo g m L Z k) (hb:Below w.heap.size w w'):FillF f t w' lo g m L Z k:=
 ⟨Zam h.1 hb fun k hk=>(h.1.lt k hk).2,h.2⟩
theorem FillF.start (ho:w.ownsRow lo t 1 (.slice (some ⟨g,0,none⟩) m m) m (Z.map f)) (hL:L.length=m) (hZ:Z.length=m):FillF f t w lo g m L Z 0:=
 ⟨by simpa using ho,hL,hZ⟩
theorem FillF.at (h:FillF f t w lo g m L Z k) {j:Nat} (hj:j<k) (hk:k≤m):∃hl:j<L.length,w.cell? ⟨g,j,none⟩=some (f (L[j]'hl)):=by
 obtain⟨ho,hL,hZ⟩:=h
 refine⟨by omega,?_⟩
 rw[ho.cellAt j (by omega),List.getElem?_map,List.getElem?_append,List.length_take,Nat.min_eq_left (by omega),if_pos hj,List.getElem?_take,if_pos hj]
 simp[show j<L.length by omega]
def RowF (f:α→Value) (t:TypeId) (w:World) (lo g:Nat) (l:List α):Prop:=
 lo≤g∧∃cs fr,w.heap[g]?=some (.cells cs t fr)∧cs.toList.take l.length=l.map f∧(fr.2≤fr.1∨l.length≤fr.1)
theorem RowF.cell (h:RowF f t w lo g l) {i:Nat} (hi:i<l.length):w.cell? ⟨g,i,none⟩=some (f l[i]):=by
 obtain⟨_,cs,fr,hb,hc,_⟩:=h
 have h2:(cs.toList.take l.length)[i]?=some (f l[i]):=by rw[hc];simp[hi]
 rw[List.getElem?_take,if_pos hi,Array.getElem?_toList]at h2
 simp[World.cell?,hb,h2]
theorem RowF.free (h:RowF f t w lo g l) {i:Nat} (hi:i<l.length):w.frozen? ⟨g,i,none⟩=false:=by
 obtain⟨_,cs,fr,hb,hc,hfr⟩:=h
 simp[World.frozen?,hb]
 omega
theorem RowF.set (h:RowF f t w lo g l) {i:Nat} (x:α):RowF f t (w.setCell ⟨g,i,none⟩ (f x)) lo g (l.set i x):=by
 obtain⟨h0,cs,fr,hb,hc,hfr⟩:=h
 refine⟨h0,cs.setIfInBounds i (f x),fr,by simp[World.setCell,Array.getElem?_modify,hb],?_,by simpa using hfr⟩
 rw[List.length_set,Array.toList_setIfInBounds,List.map_set,←hc]
 apply List.ext_getElem?
 intro j
 simp only[List.getElem?_take,List.getElem?_set,List.length_take]
 by_cases e:i=j
 ·subst e
  by_cases hj:i<l.length
  ·rw[if_pos hj,if_pos rfl,if_pos rfl]
   by_cases hk:i<cs.toList.length
   ·rw[if_pos hk,if_pos (by omega)]
   ·rw[if_neg hk,if_neg (by omega)]
  ·rw[if_neg hj,if_pos rfl,if_neg (by omega)]
 ·rw[if_neg e,if_neg e]
theorem RowF.belowSet {w1:World} (h:RowF f t w lo g l) (hb:Below lo w1 w) (i:Nat) (u:Value):Below lo w1 (w.setCell ⟨g,i,none⟩ u):=hb.setCell h.1 u
theorem RowF.rd (h:RowF f t w lo g l) (hn:n=l.length) (hs:n≤1099511627776):RdF f w (some ⟨g,0,none⟩) n l:=
 ⟨hn,hs,fun i hi=>⟨g,0,rfl,by rw[Nat.zero_add];exact h.cell hi⟩⟩
theorem RowF.of (h:OwnVF f t w lo (.slice (some ⟨g,0,none⟩) n c) l):RowF f t w lo g l:=by
 rcases h.2 with ⟨h1,h2⟩|⟨g',cap,cur,hv,hg,hb,hc,hm,hz,hx⟩
 ·cases h1
 ·cases hv
  exact⟨hg,cur,_,hb,by rw[←hx,Nat.mul_one],.inl (Nat.le_refl _)⟩
end
section
variable {P:Program} {ops:Array Oper} {rest:List Oper} {o:Oper} {a:Act} {Q:Exit→Act→World→Prop} {α:Type} {f:α→Value}
theorem Zcd (T t:TypeId) (bytes:Nat) (z:α) (hu:P.underlying T=some (.slice t)) (hinfo:(P.info? t).map (fun i=>(i.zero,i.size,i.bytes))=some (some (f z),1,bytes)) (hcz:(f z).cells= #[f z]) (hby:bytes≤32)
 (w:World) (hgd:o.guard=none) (s x:Operand) (hop:o.op=Op.makeSlice T s x) (kl kc:IntKind) (n:Nat) (hs:a.eval s= .int kl n) (hx:a.eval x= .int kc n) (hn:n≤1099511627776)
 (h:∀w',w'.ownsRow w.heap.size t 1 (.slice (some ⟨w.heap.size,0,none⟩) n n) n ((List.replicate n z).map f)→Below w.heap.size w w'→
   wpList P ops Q rest (a.put o.dst (.slice (some ⟨w.heap.size,0,none⟩) n n)) w'):
 wpList P ops Q (o::rest) a w:=by
 obtain⟨i0,hi,hz0,hz1,hz2⟩:=info_parts hinfo
 have hb:i0.bytes*n≤32*n:=Nat.mul_le_mul_right _ (by omega)
 refine wpList_make_full w hgd s x T hop w.heap.size t i0 (f z) 1 hu hi hz0 hz1 kl kc n n n hs hx rfl rfl (by omega) (by unfold maxLen;omega) (Nat.le_refl _) ?_
 intro w1 h1 h2
 refine h w1 ?_ ((Below.refl _ _).grown h2 (Nat.le_refl _) (by intro k hk;cases hk))
 have e:(madeCells (f z).cells (n*1)).toList=(List.replicate n z).map f:=by
  rw[Nat.mul_one,hcz];refine(toList_madeCells_one _ _).trans ?_;simp
 rw[←e];exact h1
theorem Zd5 (T t:TypeId) (bytes:Nat) (z:α) (hu:P.underlying T=some (.slice t)) (hinfo:(P.info? t).map (fun i=>(i.zero,i.size,i.bytes))=some (some (f z),1,bytes)) (hcz:(f z).cells.size=1) (hby:bytes≤32) (h1c:∀y,(f y).oneCell'=true)
 (wr:World) (hgd:o.guard=none) (s x:Operand)
 (ho:o.op= .call {callee:=.builtin .append,args:= #[s,x],argTypes:= #[T,T]})
 (lo:Nat) (v:Value) (l:List α) (y:α) (hs:a.eval s=v) (hown:OwnVF f t wr lo v l) (hx:a.eval x= .slice (some ⟨wr.heap.size,0,none⟩) 1 1)
 (hlen:l.length≤1099511627775) (hlo:lo≤wr.heap.size)
 (h:∀v' w',OwnVF f t w' lo v' (l++[y])→wr.grownBy w' v.ownBlock→Below lo wr w'→wpList P ops Q rest (a.put o.dst v') w'):
 wpList P ops Q (o::rest) a (wr.alloc (.cells #[f y] t)):=by
 obtain⟨i0,hi,hz0,hz1,hz2⟩:=info_parts hinfo
 have hb:(l.length+1)*bytes≤(l.length+1)*32:=Nat.mul_le_mul_left _ hby
 refine wpList_append_own _ hgd s x T ho lo t i0 (f z) 1 bytes hu hi hz0 hz1 hz2 hcz (by decide) v l.length (l.map f) hs (World.ownsRow.alloc hown _)
  ⟨wr.heap.size,0,none⟩ 1 1 [f y] hx rfl (cell_one_new _ _ _) (by simp[h1c]) (by unfold maxLen;omega) (by omega) (by simp;omega) ?_
 intro v' w1 h1 h2 _
 have hg:wr.grownBy w1 v.ownBlock:=by
  refine⟨h2.os,h2.tape,h2.output,Nat.le_trans (by simp) h2.size,fun k hk hne=>?_⟩
  rw[h2.block k (by simp;omega) hne]
  exact Below.heap_alloc _ _ _ hk
 exact h v' w1 (by unfold OwnVF;simpa using h1) hg (hown.grown hg hlo)
theorem Z39 {K:Act→World→Prop} (T t:TypeId) (bytes:Nat) (z:α) (hu:P.underlying T=some (.slice t)) (hinfo:(P.info? t).map (fun i=>(i.zero,i.size,i.bytes))=some (some (f z),1,bytes)) (hcz:(f z).cells.size=1) (hby:bytes≤32) (h1c:∀y,(f y).oneCell'=true)
 (wr:World) (s x:Operand)
 (ho:o.op= .call {callee:=.builtin .append,args:= #[s,x],argTypes:= #[T,T]})
 (lo:Nat) (v:Value) (l r:List α) (ao:Option Addr) (m c:Nat) (hs:a.eval s=v) (hown:OwnVF f t wr lo v l) (hx:a.eval x= .slice ao m c) (hr:RdF f wr ao m r)
 (hc:ao=none→c=0) (hlen:l.length+m≤1099511627776) (hlo:lo≤wr.heap.size)
 (h:∀v' w',OwnVF f t w' lo v' (l++r)→wr.grownBy w' v.ownBlock→Below lo wr w'→K (a.put o.dst v') w'):
 o.wp P a wr K Q:=by
 obtain⟨i0,hi,hz0,hz1,hz2⟩:=info_parts hinfo
 have hb:(l.length+m)*bytes≤(l.length+m)*32:=Nat.mul_le_mul_left _ hby
 cases ao with
 |none=>
  obtain rfl:=hc rfl
  obtain⟨rfl,rfl⟩:=hr.empty rfl
  have hrun:=run_append_owned_none (P:=P) (w:=wr) lo T o.type t i0 1 hu hi v l.length (l.map f) hown
  unfold Oper.wp
  simp[execOp,ho,resolve,invoke,builtin,hs,hx,hrun,Result.andThen]
  exact h v wr (by rw[List.append_nil];exact hown) (World.grownBy.refl _ _) (Below.refl _ _)
 |some ad=>
  have hm:=hr.1
  refine wp_append_own wr s x T ho lo t i0 (f z) 1 bytes hu hi hz0 hz1 hz2 hcz (by decide) v l.length (l.map f) hs hown
   ad m c (r.map f) hx (by simp[hm]) hr.news (by simp[h1c]) (by unfold maxLen;omega) (by omega) hlo ?_
  intro v' w1 h1 h2 _
  refine h v' w1 ?_ h2 (hown.grown h2 hlo)
  unfold OwnVF
  rw[List.length_append,←hm,List.map_append]
  exact h1
def Zab (s:ByteArray):List Int:=s.data.toList.map fun b=>(b.toNat:Int)
def text (l:List Int):ByteArray:=⟨(l.map fun n=>UInt8.ofNat n.toNat).toArray⟩
theorem Zac (s:ByteArray):(Zab s).length=s.size:=by simp[Zab]
theorem Zcj (s:ByteArray) {i:Nat} (h:i<s.size):(Zab s)[i]'(by rw[Zac];exact h)=(s[i].toNat:Int):=by
 simp[Zab];rfl
theorem Zaq (l:List Int):(text l).size=l.length:=by simp[text,ByteArray.size]
theorem Zc6 (s:ByteArray):text (Zab s)=s:=by
 apply ByteArray.ext
 simp[text,Zab,Function.comp_def]
theorem Zj3:∀(l:List Int) (r:ByteArray),l.foldl (fun r n=>r.push (UInt8.ofNat n.toNat)) r=⟨r.data++(l.map fun n=>UInt8.ofNat n.toNat).toArray⟩
 |[],r=>by simp
 |n::l,r=>by
  rw[List.foldl_cons,Zj3 l]
  simp[ByteArray.push]
theorem Zadh {w:World} (T t S:TypeId) (hT:P.underlying T=some (.slice t)) (ht:P.underlying t=some (.int .u8)) (hS:P.underlying S=some .string) {ao:Option Addr} {n c:Nat} {l:List Int}
 (h:RdF (Value.int .u8) w ao n l):(convert T S (.slice ao n c)).run P w= .ok (.string (text l)) w:=by
 rw[run_convert_bytes_string w T S t ao n c hT ht hS]
 cases ao with
 |none=>
  obtain⟨rfl,rfl⟩:=h.empty rfl
  simp[Conv.bytesToString,text]
  first|rfl|skip
 |some ad=>
  have hl:=run_loadCells_list (P:=P) w ad (l.map (Value.int .u8)) h.news
  rw[List.length_map]at hl
  obtain rfl:=h.1
  rw[run_bytesToString w ad l.length c l hl,Zj3]
  have he0:ByteArray.empty.data= #[]:=rfl
  rw[he0]
  simp[text]
theorem Z4v (S T t:TypeId) (hS:P.underlying S=some .string) (hT:P.underlying T=some (.slice t)) (ht:P.underlying t=some (.int .u8)) (w:World) (hgd:o.guard=none) (x:Operand) (hop:o.op=Op.convert S T x) (s:ByteArray) (hx:a.eval x= .string s)
 (h:∀w' c,RowF (Value.int .u8) t w' w.heap.size w.heap.size (Zab s)→Below w.heap.size w w'→w'.heap.size=w.heap.size+1→s.size≤c→wpList P ops Q rest (a.put o.dst (.slice (some ⟨w.heap.size,0,none⟩) s.size c)) w'):
 wpList P ops Q (o::rest) a w:=by
 refine wpList_plain hgd fun K hK=>?_
 have hrun:=run_bytes_of_string (P:=P) w S T t s hS hT ht
 unfold Oper.wp
 simp[execOp,hop,hx,hrun,Result.andThen]
 refine hK _ _ (h _ _ ⟨Nat.le_refl _,?_⟩ ?_ ?_ ?_)
 ·refine⟨_,_,heap_alloc_new _ _,?_,?_⟩
  ·have h9:(Zab s).length=(s.data.map fun b=>Value.int .u8 (b.toNat:Int)).toList.length:=by rw[Zac];simp
   unfold bytesRow;rw[Array.toList_append,h9,List.take_left];unfold Zab;rw[Array.toList_map,List.map_map];rfl
  ·rw[Zac]
   right
   unfold bytesRow;rw[Array.size_append,Array.size_map];exact Nat.le_add_right _ _
 ·exact(Below.drew (Below.refl _ _)).alloc (Nat.le_refl _) _
 ·simp
 ·exact grownCap_ge _ _ _ _
end
abbrev RdT:=RdF Value.string
abbrev OwnT:=OwnF Value.string 9
abbrev Zjo:=OwnVF Value.string 9
abbrev Zaaj:=FillF Value.string 9
theorem Zd2:(Tryz.prog.info? 9).map (fun i=>(i.zero,i.size,i.bytes))=some (some (.string ByteArray.empty),1,16):=by kernel_rfl
abbrev RdB:=RdF (Value.int .u8)
abbrev RowB:=RowF (Value.int .u8) 5
abbrev Zg1:=OwnVF (Value.int .u8) 5
abbrev Zmz:=FillF (Value.int .u8) 5
theorem Zct:(Tryz.prog.info? 5).map (fun i=>(i.zero,i.size,i.bytes))=some (some (.int .u8 0),1,1):=by kernel_rfl
section
variable {P:Program} {ops:Array Oper} {rest:List Oper} {o:Oper} {a:Act} {Q:Exit→Act→World→Prop}
theorem Zca (T t S:TypeId) (hT:P.underlying T=some (.slice t)) (ht:P.underlying t=some (.int .u8)) (hS:P.underlying S=some .string) (w:World) (hgd:o.guard=none) (x:Operand) (hop:o.op=Op.convert T S x)
 {ao:Option Addr} {n c:Nat} {l:List Int} (hx:a.eval x= .slice ao n c) (hr:RdF (Value.int .u8) w ao n l)
 (h:wpList P ops Q rest (a.put o.dst (.string (text l))) w):wpList P ops Q (o::rest) a w:=by
 refine wpList_plain hgd fun K hK=>?_
 have hrun:=Zadh (P:=P) T t S hT ht hS (c:=c) hr
 unfold Oper.wp
 simp[execOp,hop,hx,hrun,Result.andThen]
 exact hK _ _ h
theorem Zr9 (w:World) (t:TypeId) (v:Int):RdF (Value.int .u8) (w.alloc (.cells #[.int .u8 v] t)) (some ⟨w.heap.size,0,none⟩) 1 [v]:=by
 refine⟨rfl,by omega,fun i hi=>⟨w.heap.size,0,rfl,?_⟩⟩
 obtain rfl:i=0:=by simpa using hi
 exact(Box.new w #[.int .u8 v] t).cell (i:=0) rfl
end
def Zdx (w:World) (r:Option ByteArray) (e:Ending) (w':World):Prop:=e= .returned (.tuple #[.string (r.getD ByteArray.empty),.bool r.isSome])∧Below w.heap.size w w'
theorem Zag {w w':World} {r:Option ByteArray} (hr:r=none) (hb:Below w.heap.size w w'):Zdx w r (.returned (.tuple #[.string ⟨#[]⟩,.bool false])) w':=by
 subst hr;exact⟨rfl,hb⟩
theorem Zbb {w w':World} {r:Option ByteArray} {s:ByteArray} (hr:r=some s) (hb:Below w.heap.size w w'):Zdx w r (.returned (.tuple #[.string s,.bool true])) w':=by
 subst hr;exact⟨rfl,hb⟩
end Go.Proofs.YtcjihfongfefoaaGreatDoor
