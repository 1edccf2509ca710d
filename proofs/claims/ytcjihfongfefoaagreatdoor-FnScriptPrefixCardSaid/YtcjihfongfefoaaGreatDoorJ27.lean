/- Zk -/
import Derived.Test.YtcjihfongfefoaaGreatDoorJ26
import Derived.OrdersHeld
namespace Go.Proofs.YtcjihfongfefoaaGreatDoor
open Go.RowKit
section
variable {P:Program} {ops:Array Oper} {md:Region.Mode} {k n:Nat} {S:Bool→World→Prop} {L:Array Bool→Act→Prop} {Q:Exit→Act→World→Prop}
def Gives2 (P:Program) (ops:Array Oper) (k:Nat) (S:Bool→World→Prop) (i:Nat) (o:Oper) (v:Value) (a:Act):Prop:=
 (Region.wanted o (yielded ops a.tmps)=true∧i≠k∧∀b w,S b w→((execOp a.eval o).run P w= .ok (.value v) w∨
   ∃f args,(execOp a.eval o).run P w= .ok (.enter f args) w∧Calls P f args w (fun e w'=>e= .returned v∧S b w')))∨
 (Region.wanted o (yielded ops a.tmps)=true∧i=k∧o.dst=none∧∀w,S false w→∃w',(execOp a.eval o).run P w= .ok .skip w'∧S true w')∨
 (Region.wanted o (yielded ops a.tmps)=false∧i≠k∧v=undef)
theorem Gives2.same {i:Nat} {o:Oper} {v:Value} {a a':Act} (h:Gives2 P ops k S i o v a) (he:execOp a'.eval o=execOp a.eval o)
 (hw:Region.wanted o (yielded ops a'.tmps)=Region.wanted o (yielded ops a.tmps)):Gives2 P ops k S i o v a':=by
 unfold Gives2 at*
 rw[he,hw]
 exact h
def AllH (P:Program) (md:Region.Mode) (ops:Array Oper) (k n:Nat) (S:Bool→World→Prop) (L:Array Bool→Act→Prop):Nat→Array Bool→Act→Prop
 |0,listed,a=>L listed a
 |f+1,listed,a=>Region.ready md ops listed≠[]∧
  ∀i∈Region.ready md ops listed,i<n∧∃oi v,ops[i]?=some oi∧Gives2 P ops k S i oi v a∧AllH P md ops k n S L f (listed.setIfInBounds i true) (a.put oi.dst v)
theorem Zvp {listed:Array Bool} {i:Nat} (h:i∈Region.ready md ops listed):i<ops.size:=by
 obtain⟨_,o,ho,_⟩:=mem_ready.1 h
 exact(Array.getElem?_eq_some_iff.1 ho).1
theorem AllH.first {i:Nat} {oi:Oper} {v:Value} {I:Array Bool→Prop} (hi:ops[i]?=some oi) (hin:i<n) (hsel:∀(j:Nat) (o:Oper) cs b,ops[j]?=some o→o.op≠ .select cs b)
 (hI:∀listed j,I listed→j∈Region.ready md ops listed→j<n→I (listed.setIfInBounds j true))
 (hlt:∀listed,I listed→listed.getD i true=false→∀j∈Region.ready md ops listed,j<n)
 (hdone:∀listed a,L listed a→∀j∈Region.ready md ops listed,n≤j):
 ∀(f:Nat) (listed:Array Bool) (a:Act),I listed→
  (∀j oj,ops[j]?=some oj→j≠i→listed.getD j true=false→(∀e∈oj.after,Region.binds md e=true→e.on≠i)→oi.apart ops oj=true)→
  i∈Region.ready md ops listed→Gives2 P ops k S i oi v a→AllH P md ops k n S L f (listed.setIfInBounds i true) (a.put oi.dst v)→AllH P md ops k n S L (f+1) listed a:=by
 intro f
 induction f with
 |zero=>
  intro listed a inv _ hr hy H
  refine⟨fun h=>(by rw[h]at hr;cases hr),fun j hj=>?_⟩
  have hjn:=hlt listed inv (mem_ready.1 hr).1 j hj
  refine⟨hjn,?_⟩
  by_cases hji:j=i
  ·subst hji;exact⟨oi,v,hi,hy,H⟩
  ·have:=hdone _ _ H j (ready_mono hj hji)
   omega
 |succ f ih=>
  intro listed a inv hfree hr hy H
  have hun:=(mem_ready.1 hr).1
  refine⟨fun h=>(by rw[h]at hr;cases hr),fun j hj=>?_⟩
  have hjn:=hlt listed inv hun j hj
  refine⟨hjn,?_⟩
  by_cases hji:j=i
  ·subst hji;exact⟨oi,v,hi,hy,H⟩
  ·obtain⟨_,oj,u,hoj,hyj,Hj⟩:=H.2 j (ready_mono hj hji)
   obtain⟨hjun,oj',hoj',hall⟩:=mem_ready.1 hj
   have:oj'=oj:=Option.some.inj (hoj'.symm.trans hoj)
   subst this
   have hnot:∀e∈oj'.after,Region.binds md e=true→e.on≠i:=fun e he hb heq=>by
    have h1:=hall e he hb
    rw[heq,getD_both hun]at h1
    cases h1
   obtain⟨h1,h2,h3⟩:=Oper.apart_spec (hfree j oj' hoj hji hjun hnot)
   have hyj':Gives2 P ops k S j oj' u a:=hyj.same (execOp_put oj' (fun cs b=>hsel j oj' cs b hoj) a oi.dst v h1).symm (wanted_put oj' a oi.dst v h1).symm
   have hyi':Gives2 P ops k S i oi v (a.put oj'.dst u):=hy.same (execOp_put oi (fun cs b=>hsel i oi cs b hi) a oj'.dst u h3) (wanted_put oi a oj'.dst u h3)
   have hfree':∀k ok,ops[k]?=some ok→k≠i→(listed.setIfInBounds j true).getD k true=false→
    (∀e∈ok.after,Region.binds md e=true→e.on≠i)→oi.apart ops ok=true:=fun k ok hk hki hun' hno=>by
    refine hfree k ok hk hki ?_ hno
    by_cases hjk:j=k
    ·subst hjk;exact hjun
    ·rw[getD_set_ne true hjk]at hun';exact hun'
   refine⟨oj',u,hoj,hyj',ih (listed.setIfInBounds j true) (a.put oj'.dst u) (hI listed j inv hj hjn) hfree' (ready_mono hr (Ne.symm hji)) hyi' ?_⟩
   rw[Array.setIfInBounds_comm _ _ hji,←Act.put_comm a v u h2]
   exact Hj
theorem Zin {listed:Array Bool} {i:Nat} (h:i<listed.size) (d:Bool):(listed.setIfInBounds i true).getD i d=true:=by
 rw[Array.getD,dif_pos (by simpa using h)]
 simp
theorem Zmp {g:Nat} (hL:∀listed a w,L listed a→S (listed.getD k false) w→wpAny P md ops Q g listed a w):
 ∀(f:Nat) (listed:Array Bool) (a:Act) (w:World),listed.size=ops.size→S (listed.getD k false) w→AllH P md ops k n S L f listed a→wpAny P md ops Q (f+g) listed a w:=by
 intro f
 induction f with
 |zero=>intro listed a w _ hS h;rw[Nat.zero_add];exact hL listed a w h hS
 |succ f ih=>
  intro listed a w hsz hS h
  rw[Nat.succ_add]
  refine⟨fun h0=>absurd h0 h.1,fun i hi=>?_⟩
  obtain⟨_,oi,v,hoi,hg,h'⟩:=h.2 i hi
  have hil:i<listed.size:=by rw[hsz];exact Zvp hi
  have hun:=(mem_ready.1 hi).1
  have hsz':(listed.setIfInBounds i true).size=ops.size:=by simpa using hsz
  unfold wpOp
  simp only[hoi]
  rcases hg with ⟨hw,hik,hv⟩|⟨hw,hik,hd,hv⟩|⟨hw,hik,rfl⟩
  ·simp only[hw,if_true]
   refine .inl ?_
   unfold Oper.wp
   rcases hv _ w hS with hv|⟨fn,args,hv,hc⟩
   ·rw[hv]
    simp only[Oper.upon]
    exact ih _ _ w hsz' (by rw[getD_set_ne false hik];exact hS) h'
   ·rw[hv]
    simp only[Oper.upon]
    refine hc.mono fun e w' ⟨he,hs⟩=>?_
    subst he
    exact ih _ _ w' hsz' (by rw[getD_set_ne false hik];exact hs) h'
  ·simp only[hw,if_true]
   refine .inl ?_
   unfold Oper.wp
   have hf:listed.getD k false=false:=by rw[←hik];exact getD_both hun
   rw[hf]at hS
   obtain⟨w',hv,hs⟩:=hv w hS
   rw[hv]
   simp only[Oper.upon]
   rw[hd]at h' ⊢
   exact ih _ _ w' hsz' (by rw[←hik,Zin hil];exact hs) h'
  ·simp only[hw,Bool.false_eq_true,if_false]
   exact ih _ _ w hsz' (by rw[getD_set_ne false hik];exact hS) h'
def Zja (P:Program) (ops:Array Oper) (k:Nat) (S:Bool→World→Prop) (L:Act→Prop):Nat→List Oper→Act→Prop
 |_,[],a=>L a
 |j,o::l,a=>∃v,Gives2 P ops k S j o v a∧Zja P ops k S L (j+1) l (a.put o.dst v)
theorem Zbo {M:Act→Prop} {a:Act} {j:Nat} (h:M a):Zja P ops k S M j [] a:=h
theorem Zs3 {M:Act→Prop} {o:Oper} {l:List Oper} {a:Act} {v:Value} {j:Nat} (hw:Region.wanted o (yielded ops a.tmps)=true) (hj:(j != k)=true) (h:∀b w,S b w→(execOp a.eval o).run P w= .ok (.value v) w)
 (hr:Zja P ops k S M (j+1) l (a.put o.dst v)):Zja P ops k S M j (o::l) a:=⟨v,.inl ⟨hw,by simpa using hj,fun b w hs=>.inl (h b w hs)⟩,hr⟩
theorem Zaj1 {M:Act→Prop} {o:Oper} {l:List Oper} {a:Act} {v:Value} {f:FuncId} {args:Array Value} {j:Nat} (hw:Region.wanted o (yielded ops a.tmps)=true) (hj:(j != k)=true) (h:∀b w,S b w→(execOp a.eval o).run P w= .ok (.enter f args) w)
 (hc:∀b w,S b w→Calls P f args w (fun e w'=>e= .returned v∧S b w')) (hr:Zja P ops k S M (j+1) l (a.put o.dst v)):Zja P ops k S M j (o::l) a:=⟨v,.inl ⟨hw,by simpa using hj,fun b w hs=>.inr ⟨f,args,h b w hs,hc b w hs⟩⟩,hr⟩
theorem Zc3 {M:Act→Prop} {o:Oper} {l:List Oper} {a:Act} {j:Nat} (hw:Region.wanted o (yielded ops a.tmps)=true) (hj:j=k) (hd:o.dst=none) (h:∀w,S false w→∃w',(execOp a.eval o).run P w= .ok .skip w'∧S true w')
 (hr:Zja P ops k S M (j+1) l a):Zja P ops k S M j (o::l) a:=⟨undef,.inr (.inl ⟨hw,hj,hd,h⟩),by rw[hd];exact hr⟩
theorem Zuv {fin:Array Bool} {M:Act→Prop} {I:Array Bool→Prop} (hsel:Region.noSelect ops=true)
 (hI:∀listed j,I listed→j∈Region.ready md ops listed→j<n→I (listed.setIfInBounds j true))
 (hlt:∀listed i,I listed→i<n→listed.getD i true=false→∀j∈Region.ready md ops listed,j<n)
 (hf:∀j∈Region.ready md ops fin,n≤j):
 ∀(l:List Oper) (j:Nat) (listed:Array Bool) (a:Act),(∀i,i<l.length→l[i]?=ops[j+i]?)→j+l.length=n→I listed→
 Zgb md ops fin l.length j listed=true→Zja P ops k S M j l a→AllH P md ops k n S (fun listed' a'=>listed'=fin∧M a') l.length listed a
 |[],j,listed,a,_,_,_,hB,h=>by
  simp only[List.length_nil,Zgb,decide_eq_true_eq]at hB
  exact⟨Array.ext' hB,h⟩
 |o::l,j,listed,a,hl,hj,inv,hB,h=>by
  have h0:ops[j]?=some o:=by simpa using(hl 0 (by simp)).symm
  simp only[List.length_cons,Zgb,Bool.and_eq_true]at hB
  obtain⟨⟨hr,hfr⟩,hB'⟩:=hB
  have hjn:j<n:=by simp only[List.length_cons]at hj;omega
  have hr':j∈Region.ready md ops listed:=by simpa using hr
  obtain⟨v,hg,hn⟩:=h
  exact AllH.first h0 hjn (Region.noSelect_spec hsel) hI (fun listed hin hu=>hlt listed j hin hjn hu) (fun listed' a' hL=>by rw[hL.1];exact hf) l.length listed a inv (Region.free_spec h0 hfr) hr' hg
   (Zuv hsel hI hlt hf l (j+1) _ _ (fun i hi=>by have:=hl (i+1) (by simp;omega);simpa[Nat.add_assoc,Nat.add_comm 1 i]using this) (by simp only[List.length_cons]at hj;omega) (hI _ _ inv hr' hjn) hB' hn)
def finB (ops:Array Oper) (m F:Nat):Bool:=Region.noSelect ops&&decide (m≤ops.size)&&decide (F=ops.size-m)&&(Region.ready .any ops (Zb7 ops.size ops.size)).isEmpty&&Zgb .any ops (Zb7 ops.size ops.size) (ops.size-m) m (Zb7 m ops.size)
theorem Zdp {a:Act} {w:World} {l:List Oper} {listed:Array Bool} {F:Nat} (m k:Nat) (S:Bool→World→Prop) (hB:finB l.toArray m F=true) (hl0:listed=Zb7 m l.length) (hmk:decide (m≤k)=true)
 (hS:S false w) (h:Zja P l.toArray k S (fun a'=>∀w',S (decide (k<l.length)) w'→Q .normal a' w') m (l.drop m) a):wpAny P .any l.toArray Q F listed a w:=by
 subst hl0
 simp only[finB,Bool.and_eq_true,decide_eq_true_eq]at hB hmk
 obtain⟨⟨⟨⟨hsel,hm⟩,hF⟩,hr⟩,hlex⟩:=hB
 have hr':Region.ready .any l.toArray (Zb7 l.toArray.size l.toArray.size)=[]:=by simpa using hr
 have hsz:l.toArray.size=l.length:=by simp
 have hm':m≤l.length:=by rw[←hsz];exact hm
 have htl:(l.drop m).length=l.length-m:=by simp
 have H:=Zuv (md:=.any) (P:=P) (k:=k) (S:=S) (n:=l.length) (I:=fun _=>True) (fin:=Zb7 l.toArray.size l.toArray.size) hsel (fun _ _ _ _ _=>trivial) (fun listed i _ _ _ j hj=>by have:=Zvp hj;rwa [hsz]at this)
  (fun j hj=>by rw[hr']at hj;cases hj) (l.drop m) m (Zb7 m l.toArray.size) a (fun j _=>by rw[List.getElem?_drop];simp) (by rw[htl];omega) trivial (by rw[htl,←hsz];exact hlex) h
 have h2:=Zmp (Q:=Q) (g:=0) (fun listed a' w' hL hs=>by
  obtain⟨rfl,hL⟩:=hL
  refine⟨hr',hL w' ?_⟩
  rw[hsz]at hs
  by_cases hk:k<l.length
  ·rw[Zcw _ (Nat.le_refl _) hk,decide_eq_true hk]at hs
   rw[decide_eq_true hk];exact hs
  ·rw[Array.getD,dif_neg (by rw[Zdg (Nat.le_refl _)];exact hk)]at hs
   rw[decide_eq_false hk];exact hs) _ _ a w (Zdg hm) (by
  have:(Zb7 m l.toArray.size).getD k false=false:=by
   by_cases hk:k<l.toArray.size
   ·rw[Zcw _ hm hk,decide_eq_false (by omega)]
   ·rw[Array.getD,dif_neg (by rw[Zdg hm];exact hk)]
  rw[this];exact hS) H
 rw[htl,hsz]at h2
 rw[hF,hsz]
 exact h2
theorem Zdb {a:Act} {w:World} {l:List Oper} {listed:Array Bool} {F:Nat} (m n k:Nat) (S:Bool→World→Prop) (hB:headB .any l.toArray m n F listed=true) (hmk:decide (m≤k)=true)
 (hS:S false w) (h:Zja P l.toArray k S (fun a'=>∀w',S (decide (k<n)) w'→wpAny P .any l.toArray Q (l.length-n) (Zb7 n l.length) a' w') m ((l.take n).drop m) a):wpAny P .any l.toArray Q F listed a w:=by
 simp only[headB,Bool.and_eq_true,decide_eq_true_eq]at hB hmk
 obtain⟨⟨⟨⟨⟨⟨⟨⟨⟨hsel,hn⟩,hkn⟩,hF⟩,hl0⟩,hcl⟩,hs⟩,hc⟩,hf⟩,hlex⟩:=hB
 obtain rfl:listed=Zb7 m l.toArray.size:=Array.ext' hl0
 have hsz:l.toArray.size=l.length:=by simp
 have hn':n<l.length:=by simpa using hn
 have htl:((l.take n).drop m).length=n-m:=by simp;omega
 have hf':∀j∈Region.ready .any l.toArray (Zb7 n l.toArray.size),n≤j:=fun j hj=>by simpa using List.all_eq_true.1 hf j hj
 have inv0:HeadInv .any l.toArray n (Zb7 m l.toArray.size):=
  ⟨Zdg (by omega),fun j oj hj hl e he hb=>by
    have hjl:j<l.toArray.size:=(Array.getElem?_eq_some_iff.1 hj).1
    rw[Zcw _ (by omega) hjl,decide_eq_true_eq]at hl
    have h1:=List.all_eq_true.1 hcl j (List.mem_range.2 hl)
    rw[hj]at h1
    have h2:=Array.all_eq_true'.1 h1 e he
    rw[hb]at h2
    simpa using h2,fun t ht htl=>by rw[Zcw _ (by omega) htl,decide_eq_false (by omega)]⟩
 have H:=Zuv (md:=.any) (P:=P) (k:=k) (S:=S) (n:=n) (I:=fun listed=>HeadInv .any l.toArray n listed∧∀j,j<m→listed.getD j true=true) (fin:=Zb7 n l.toArray.size) hsel (fun listed j inv hj hjn=>⟨inv.1.set hj hjn,fun i hi=>by
  by_cases e:j=i
  ·subst e
   have h1:=(mem_ready.1 hj).1
   rw[inv.2 j hi]at h1
   cases h1
  ·rw[getD_set_ne true e];exact inv.2 i hi⟩)
  (fun listed i inv hi hu j hj=>(Nat.lt_or_ge j n).resolve_right fun hge=>Z6d hs hc hn inv.1 _ i rfl (by
    rcases Nat.lt_or_ge i m with h'|h'
    ·rw[inv.2 i h']at hu;cases hu
    ·exact h') hi hu j hge hj)
  hf' ((l.take n).drop m) m _ a (fun j hj=>by
   rw[htl]at hj
   rw[List.getElem?_drop,List.getElem?_take,if_pos (by omega)];simp) (by rw[htl];omega) ⟨inv0,fun j hj=>by rw[Zcw _ (by omega) (by omega),decide_eq_true hj]⟩ (by rw[htl];exact hlex) h
 have h2:=Zmp (Q:=Q) (g:=l.length-n) (fun listed a' w' hL hs=>by
  obtain⟨rfl,hL⟩:=hL
  rw[hsz]at hs ⊢
  refine hL w' ?_
  by_cases hk:k<l.length
  ·rwa [Zcw _ (by omega) hk]at hs
  ·rw[Array.getD,dif_neg (by rw[Zdg (by omega)];exact hk)]at hs
   rw[decide_eq_false (by omega)];exact hs) _ _ a w (Zdg (by omega)) (by
    have:(Zb7 m l.toArray.size).getD k false=false:=by
     by_cases hk:k<l.toArray.size
     ·rw[Zcw _ (by omega) hk,decide_eq_false (by omega)]
     ·rw[Array.getD,dif_neg (by rw[Zdg (by omega)];exact hk)]
    rw[this];exact hS) H
 rw[htl,show n-m+(l.length-n)=F by rw[hF,hsz];omega]at h2
 exact h2
def oneB (ops:Array Oper) (n F:Nat):Bool:=decide (n<ops.size)&&decide (F=ops.size-n)&&decide (Region.ready .any ops (Zb7 n ops.size)=[n])&&decide (((Zb7 n ops.size).setIfInBounds n true).toList=(Zb7 (n+1) ops.size).toList)
theorem Zd3 {a:Act} {w:World} {l:List Oper} {listed:Array Bool} {F:Nat} (n:Nat) (o:Oper) (f:FuncId) (args:Array Value) (hB:oneB l.toArray n F=true) (hl0:listed=Zb7 n l.length) (ho:l[n]?=some o)
 (hw:Region.wanted o (yielded l.toArray a.tmps)=true) (he:(execOp a.eval o).run P w= .ok (.enter f args) w)
 (hc:Calls P f args w fun e w'=>∃v,e= .returned v∧wpAny P .any l.toArray Q (l.length-(n+1)) (Zb7 (n+1) l.length) (a.put o.dst v) w'):wpAny P .any l.toArray Q F listed a w:=by
 subst hl0
 simp only[oneB,Bool.and_eq_true,decide_eq_true_eq]at hB
 obtain⟨⟨⟨hn,hF⟩,hr⟩,hs⟩:=hB
 have hsz:l.toArray.size=l.length:=by simp
 rw[hsz]at hr hs hn hF
 obtain⟨g,rfl⟩:∃g,F=g+1:=⟨F-1,by omega⟩
 refine⟨fun h0=>absurd (h0.symm.trans hr) (by simp),fun i hi=>?_⟩
 rw[hr]at hi
 obtain rfl:i=n:=by simpa using hi
 have ho':l.toArray[i]?=some o:=by simpa using ho
 unfold wpOp
 simp only[ho',hw,if_true]
 refine .inl ?_
 unfold Oper.wp
 rw[he]
 simp only[Oper.upon]
 refine hc.mono fun e w' ⟨v,hv,hk⟩=>?_
 subst hv
 have e1:(Zb7 i l.length).setIfInBounds i true=Zb7 (i+1) l.length:=Array.ext' hs
 rw[e1,show g=l.length-(i+1)by omega]
 exact hk
theorem Zcn {id:Nat} {a:Act} {w:World} {l:List Oper} (hm:P.follows .mixedOrders=true) (h:wpAny P .any l.toArray Q l.length (Zb7 0 l.length) a w.drew):(Code.region id l.toArray true).wp P Q a w:=by
 refine wp_region_any hm ?_
 have e:Array.replicate l.toArray.size false=Zb7 0 l.length:=by
  apply Array.ext'
  simp[Zb7]
 rw[e]
 simpa using h
theorem Zau {id:Nat} {a:Act} {w:World} {l:List Oper} (k:Nat) (S:Bool→World→Prop) (hm:P.follows .mixedOrders=true) (hB:finB l.toArray 0 l.length=true)
 (hS:S false w.drew) (h:Zja P l.toArray k S (fun a'=>∀w',S (decide (k<l.length)) w'→Q .normal a' w') 0 l a):(Code.region id l.toArray true).wp P Q a w:=
 Zcn hm (Zdp 0 k S hB rfl (decide_eq_true (Nat.zero_le _)) hS h)
theorem sk {M:Act→Prop} {o:Oper} {l:List Oper} {a:Act} {j:Nat} (v:Value) (hr:Zja P ops k S M (j+1) l (a.put o.dst v)) (hw:Region.wanted o (yielded ops a.tmps)=true:=by kernel_rfl) (hj:(j != k)=true:=by kernel_rfl)
 (h:∀b w,S b w→(execOp a.eval o).run P w= .ok (.value v) w:=by intro _ _ _;kernel_rfl):Zja P ops k S M j (o::l) a:=Zs3 hw hj h hr
theorem sv {M:Act→Prop} {o:Oper} {l:List Oper} {a:Act} {j:Nat} (v:Value) (h:∀b w,S b w→(execOp a.eval o).run P w= .ok (.value v) w) (hr:Zja P ops k S M (j+1) l (a.put o.dst v)) (hw:Region.wanted o (yielded ops a.tmps)=true:=by kernel_rfl) (hj:(j != k)=true:=by kernel_rfl):
 Zja P ops k S M j (o::l) a:=Zs3 hw hj h hr
theorem sc {M:Act→Prop} {o:Oper} {l:List Oper} {a:Act} {j:Nat} (v:Value) (f:FuncId) (args:Array Value) (hc:∀b w,S b w→Calls P f args w (fun e w'=>e= .returned v∧S b w')) (hr:Zja P ops k S M (j+1) l (a.put o.dst v))
 (hw:Region.wanted o (yielded ops a.tmps)=true:=by kernel_rfl) (hj:(j != k)=true:=by kernel_rfl) (h:∀b w,S b w→(execOp a.eval o).run P w= .ok (.enter f args) w:=by intro _ _ _;kernel_rfl):Zja P ops k S M j (o::l) a:=Zaj1 hw hj h hc hr
end
end Go.Proofs.YtcjihfongfefoaaGreatDoor
