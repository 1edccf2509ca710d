/- Zl -/
import Derived.Test.YtcjihfongfefoaaGreatDoorJ27
namespace Go.Proofs.YtcjihfongfefoaaGreatDoor
open Go.RowKit
section
variable {P:Program} {ops:Array Oper} {q k:Nat} {dq:Tmp} {U:Nat→Value} {S:Bool→Option Value→World→Prop} {L:Array Bool→Act→Prop} {Q:Exit→Act→World→Prop}
def rq (listed:Array Bool) (q:Nat) (dq:Tmp) (a:Act):Option Value:=if listed.getD q false=true then some (a.tmps.getD dq undef)else none
def GQ (P:Program) (ops:Array Oper) (k:Nat) (dq:Tmp) (S:Bool→Option Value→World→Prop) (i:Nat) (o:Oper) (v:Value) (a:Act):Prop:=
 Region.wanted o (yielded ops a.tmps)=true∧
 ((i≠k∧∀b r w,S b r w→((execOp a.eval o).run P w= .ok (.value v) w∨∃f args,(execOp a.eval o).run P w= .ok (.enter f args) w∧Calls P f args w (fun e w'=>e= .returned v∧S b r w')))∨
  (i=k∧o.dst=none∧∀w,S false (some (a.tmps.getD dq undef)) w→∃w',(execOp a.eval o).run P w= .ok .skip w'∧S true (some (a.tmps.getD dq undef)) w'))
def FQ (P:Program) (ops:Array Oper) (S:Bool→Option Value→World→Prop) (o:Oper) (a:Act):Prop:=
 Region.wanted o (yielded ops a.tmps)=true∧∀w,S false none w→∃v w',(execOp a.eval o).run P w= .ok (.value v) w'∧S false (some v) w'
theorem GQ.same {i:Nat} {o:Oper} {v:Value} {a a':Act} (h:GQ P ops k dq S i o v a) (he:execOp a'.eval o=execOp a.eval o)
 (hw:Region.wanted o (yielded ops a'.tmps)=Region.wanted o (yielded ops a.tmps)) (hd:i≠k∨a'.tmps.getD dq undef=a.tmps.getD dq undef):GQ P ops k dq S i o v a':=by
 obtain⟨h1,h2⟩:=h
 refine⟨by rw[hw];exact h1,?_⟩
 rcases h2 with ⟨hk,h2⟩|⟨hk,h2,h3⟩
 ·exact .inl ⟨hk,by rw[he];exact h2⟩
 ·rcases hd with hd|hd
  ·exact absurd hk hd
  ·exact .inr ⟨hk,h2,by rw[he,hd];exact h3⟩
theorem FQ.same {o:Oper} {a a':Act} (h:FQ P ops S o a) (he:execOp a'.eval o=execOp a.eval o)
 (hw:Region.wanted o (yielded ops a'.tmps)=Region.wanted o (yielded ops a.tmps)):FQ P ops S o a':=⟨by rw[hw];exact h.1,by rw[he];exact h.2⟩
theorem Zq3 (a:Act) {x:Option Tmp} {d:Tmp} (h:x≠some d) (v:Value):(a.put x v).tmps.getD d undef=a.tmps.getD d undef:=by
 cases x with
 |none=>rfl
 |some e=>
  have hne:e≠d:=fun e'=>h (by rw[e'])
  show(a.tmps.setIfInBounds e v).getD d undef=_
  rw[Array.getD_eq_getD_getElem?,Array.getD_eq_getD_getElem?,Array.getElem?_setIfInBounds_ne hne]
theorem put_at (a:Act) {d:Tmp} (h:d<a.tmps.size) (v:Value):(a.put (some d) v).tmps.getD d undef=v:=by
 simp[Act.put,Array.getD,h]
theorem Z4o (a:Act) (x:Option Tmp) (v:Value):(a.put x v).tmps.size=a.tmps.size:=by
 cases x<;>simp[Act.put]
def AllQ (P:Program) (ops:Array Oper) (q k:Nat) (dq:Tmp) (U:Nat→Value) (S:Bool→Option Value→World→Prop) (L:Array Bool→Act→Prop):Nat→Array Bool→Act→Prop
 |0,listed,a=>L listed a
 |f+1,listed,a=>Region.ready .any ops listed≠[]∧
  ∀i∈Region.ready .any ops listed,∃oi,ops[i]?=some oi∧
   ((i≠q∧oi.dst≠some dq∧GQ P ops k dq S i oi (U i) a∧AllQ P ops q k dq U S L f (listed.setIfInBounds i true) (a.put oi.dst (U i)))∨
    (i=q∧oi.dst=some dq∧FQ P ops S oi a∧∀v,AllQ P ops q k dq U S L f (listed.setIfInBounds i true) (a.put oi.dst v)))
theorem Zvw (hqk:q≠k) (hkq:∀listed,k∈Region.ready .any ops listed→listed.getD q false=true) (hL:∀listed a w,L listed a→S (listed.getD k false) (rq listed q dq a) w→wpAny P .any ops Q 0 listed a w):
 ∀(f:Nat) (listed:Array Bool) (a:Act) (w:World),listed.size=ops.size→dq<a.tmps.size→(listed.getD k false=true→listed.getD q false=true)→
  S (listed.getD k false) (rq listed q dq a) w→AllQ P ops q k dq U S L f listed a→wpAny P .any ops Q f listed a w:=by
 intro f
 induction f with
 |zero=>intro listed a w _ _ _ hS h;exact hL listed a w h hS
 |succ f ih=>
  intro listed a w hsz hds hi hS h
  refine⟨fun h0=>absurd h0 h.1,fun i hir=>?_⟩
  obtain⟨oi,hoi,hc⟩:=h.2 i hir
  have hil:i<listed.size:=by rw[hsz];exact Zvp hir
  have hun:=(mem_ready.1 hir).1
  have hsz':(listed.setIfInBounds i true).size=ops.size:=by simpa using hsz
  unfold wpOp
  simp only[hoi]
  rcases hc with ⟨hiq,hdq,⟨hw,hg⟩,h'⟩|⟨hiq,hdq,⟨hw,hg⟩,h'⟩
  ·have hr:∀u,rq (listed.setIfInBounds i true) q dq (a.put oi.dst u)=rq listed q dq a:=fun u=>by
    unfold rq
    rw[getD_set_ne false hiq,Zq3 a hdq]
   rcases hg with ⟨hik,hv⟩|⟨hik,hd,hv⟩
   ·have hi':(listed.setIfInBounds i true).getD k false=true→(listed.setIfInBounds i true).getD q false=true:=by
     rw[getD_set_ne false hik,getD_set_ne false hiq];exact hi
    simp only[hw,if_true]
    refine .inl ?_
    unfold Oper.wp
    rcases hv _ _ w hS with hv|⟨fn,args,hv,hc⟩
    ·rw[hv]
     simp only[Oper.upon]
     exact ih _ _ w hsz' (by rw[Z4o];exact hds) hi' (by rw[getD_set_ne false hik,hr];exact hS) h'
    ·rw[hv]
     simp only[Oper.upon]
     refine hc.mono fun e w' ⟨he,hs⟩=>?_
     subst he
     exact ih _ _ w' hsz' (by rw[Z4o];exact hds) hi' (by rw[getD_set_ne false hik,hr];exact hs) h'
   ·have hlq:listed.getD q false=true:=hkq listed (by rw[←hik];exact hir)
    have hlk:listed.getD k false=false:=by rw[←hik];exact getD_both hun
    have hrq:rq listed q dq a=some (a.tmps.getD dq undef):=by unfold rq;rw[if_pos hlq]
    rw[hlk,hrq]at hS
    obtain⟨w',hv,hs⟩:=hv w hS
    simp only[hw,if_true]
    refine .inl ?_
    unfold Oper.wp
    rw[hv]
    simp only[Oper.upon]
    have e1:a.put oi.dst undef=a.put oi.dst (U i):=by rw[hd];rfl
    rw[e1]
    exact ih _ _ w' hsz' (by rw[Z4o];exact hds) (fun _=>by rw[getD_set_ne false hiq];exact hlq) (by
     rw[hr,hrq,←hik,Zin hil];exact hs) h'
  ·subst hiq
   have hlq:listed.getD i false=false:=getD_both hun
   have hlk:listed.getD k false=false:=by
    cases hk:listed.getD k false with
    |false=>rfl
    |true=>rw[hi hk]at hlq;cases hlq
   have hrq:rq listed i dq a=none:=by unfold rq;rw[if_neg (by rw[hlq];decide)]
   rw[hlk,hrq]at hS
   obtain⟨v,w',hv,hs⟩:=hg w hS
   simp only[hw,if_true]
   refine .inl ?_
   unfold Oper.wp
   rw[hv]
   simp only[Oper.upon]
   refine ih _ _ w' hsz' (by rw[Z4o];exact hds) (fun _=>Zin hil false) ?_ (h' v)
   rw[getD_set_ne false hqk,hlk]
   unfold rq
   rw[if_pos (Zin hil false),hdq,put_at a hds]
   exact hs
theorem AllQ.first {i:Nat} {oi:Oper} (hi:ops[i]?=some oi) (hiq:i≠q) (hdi:oi.dst≠some dq) (hsel:∀(j:Nat) (o:Oper) cs b,ops[j]?=some o→o.op≠ .select cs b)
 (hkq:∀listed,k∈Region.ready .any ops listed→listed.getD q false=true) (hdone:∀listed a,L listed a→Region.ready .any ops listed=[]):
 ∀(f:Nat) (listed:Array Bool) (a:Act),
  (∀j oj,ops[j]?=some oj→j≠i→listed.getD j true=false→(∀e∈oj.after,Region.binds .any e=true→e.on≠i)→oi.apart ops oj=true)→
  i∈Region.ready .any ops listed→GQ P ops k dq S i oi (U i) a→AllQ P ops q k dq U S L f (listed.setIfInBounds i true) (a.put oi.dst (U i))→AllQ P ops q k dq U S L (f+1) listed a:=by
 intro f
 induction f with
 |zero=>
  intro listed a _ hr hy H
  refine⟨fun h=>(by rw[h]at hr;cases hr),fun j hj=>?_⟩
  by_cases hji:j=i
  ·subst hji;exact⟨oi,hi,.inl ⟨hiq,hdi,hy,H⟩⟩
  ·have h1:=hdone _ _ H
   have h2:=ready_mono hj hji
   rw[h1]at h2
   cases h2
 |succ f ih=>
  intro listed a hfree hr hy H
  have hun:=(mem_ready.1 hr).1
  refine⟨fun h=>(by rw[h]at hr;cases hr),fun j hj=>?_⟩
  by_cases hji:j=i
  ·subst hji;exact⟨oi,hi,.inl ⟨hiq,hdi,hy,H⟩⟩
  ·obtain⟨oj,hoj,hcj⟩:=H.2 j (ready_mono hj hji)
   obtain⟨hjun,oj',hoj',hall⟩:=mem_ready.1 hj
   have:oj'=oj:=Option.some.inj (hoj'.symm.trans hoj)
   subst this
   have hnot:∀e∈oj'.after,Region.binds .any e=true→e.on≠i:=fun e he hb heq=>by
    have h1:=hall e he hb
    rw[heq,getD_both hun]at h1
    cases h1
   obtain⟨h1,h2,h3⟩:=Oper.apart_spec (hfree j oj' hoj hji hjun hnot)
   have hfree':∀k ok,ops[k]?=some ok→k≠i→(listed.setIfInBounds j true).getD k true=false→
    (∀e∈ok.after,Region.binds .any e=true→e.on≠i)→oi.apart ops ok=true:=fun k ok hk hki hun' hno=>by
    refine hfree k ok hk hki ?_ hno
    by_cases hjk:j=k
    ·subst hjk;exact hjun
    ·rw[getD_set_ne true hjk]at hun';exact hun'
   refine⟨oj',hoj,?_⟩
   rcases hcj with ⟨hjq,hdj,hyj,Hj⟩|⟨hjq,hdj,hyj,Hj⟩
   ·have hyj':GQ P ops k dq S j oj' (U j) a:=hyj.same (execOp_put oj' (fun cs b=>hsel j oj' cs b hoj) a oi.dst _ h1).symm (wanted_put oj' a oi.dst _ h1).symm (.inr (Zq3 a hdi _).symm)
    have hyi':GQ P ops k dq S i oi (U i) (a.put oj'.dst (U j)):=hy.same (execOp_put oi (fun cs b=>hsel i oi cs b hi) a oj'.dst _ h3) (wanted_put oi a oj'.dst _ h3) (.inr (Zq3 a hdj _))
    refine .inl ⟨hjq,hdj,hyj',ih (listed.setIfInBounds j true) (a.put oj'.dst (U j)) hfree' (ready_mono hr (Ne.symm hji)) hyi' ?_⟩
    rw[Array.setIfInBounds_comm _ _ hji,←Act.put_comm a (U i) (U j) h2]
    exact Hj
   ·have hik:i≠k:=fun e=>by
     have h4:=hkq listed (by rw[←e];exact hr)
     rw[←hjq,getD_both hjun]at h4
     cases h4
    refine .inr ⟨hjq,hdj,hyj.same (execOp_put oj' (fun cs b=>hsel j oj' cs b hoj) a oi.dst _ h1).symm (wanted_put oj' a oi.dst _ h1).symm,fun u=>?_⟩
    have hyi':GQ P ops k dq S i oi (U i) (a.put oj'.dst u):=hy.same (execOp_put oi (fun cs b=>hsel i oi cs b hi) a oj'.dst _ h3) (wanted_put oi a oj'.dst _ h3) (.inl hik)
    refine ih (listed.setIfInBounds j true) (a.put oj'.dst u) hfree' (ready_mono hr (Ne.symm hji)) hyi' ?_
    rw[Array.setIfInBounds_comm _ _ hji,←Act.put_comm a (U i) u h2]
    exact Hj u
theorem AllQ.firstQ {oi:Oper} (hi:ops[q]?=some oi) (hdi:oi.dst=some dq) (hqk:q≠k) (hsel:∀(j:Nat) (o:Oper) cs b,ops[j]?=some o→o.op≠ .select cs b)
 (hkq:∀listed,k∈Region.ready .any ops listed→listed.getD q false=true) (hdone:∀listed a,L listed a→Region.ready .any ops listed=[]):
 ∀(f:Nat) (listed:Array Bool) (a:Act),
  (∀j oj,ops[j]?=some oj→j≠q→listed.getD j true=false→(∀e∈oj.after,Region.binds .any e=true→e.on≠q)→oi.apart ops oj=true)→
  q∈Region.ready .any ops listed→FQ P ops S oi a→(∀v,AllQ P ops q k dq U S L f (listed.setIfInBounds q true) (a.put oi.dst v))→AllQ P ops q k dq U S L (f+1) listed a:=by
 intro f
 induction f with
 |zero=>
  intro listed a _ hr hy H
  refine⟨fun h=>(by rw[h]at hr;cases hr),fun j hj=>?_⟩
  by_cases hji:j=q
  ·subst hji;exact⟨oi,hi,.inr ⟨rfl,hdi,hy,H⟩⟩
  ·have h1:=hdone _ _ (H undef)
   have h2:=ready_mono hj hji
   rw[h1]at h2
   cases h2
 |succ f ih=>
  intro listed a hfree hr hy H
  have hun:=(mem_ready.1 hr).1
  refine⟨fun h=>(by rw[h]at hr;cases hr),fun j hj=>?_⟩
  by_cases hji:j=q
  ·subst hji;exact⟨oi,hi,.inr ⟨rfl,hdi,hy,H⟩⟩
  ·obtain⟨oj,hoj,hcj⟩:=(H undef).2 j (ready_mono hj hji)
   obtain⟨hjun,oj',hoj',hall⟩:=mem_ready.1 hj
   have:oj'=oj:=Option.some.inj (hoj'.symm.trans hoj)
   subst this
   have hnot:∀e∈oj'.after,Region.binds .any e=true→e.on≠q:=fun e he hb heq=>by
    have h1:=hall e he hb
    rw[heq,getD_both hun]at h1
    cases h1
   obtain⟨h1,h2,h3⟩:=Oper.apart_spec (hfree j oj' hoj hji hjun hnot)
   have hjk:j≠k:=fun e=>by
    have h4:=hkq listed (by rw[←e];exact hj)
    rw[getD_both hun]at h4
    cases h4
   have hfree':∀k ok,ops[k]?=some ok→k≠q→(listed.setIfInBounds j true).getD k true=false→
    (∀e∈ok.after,Region.binds .any e=true→e.on≠q)→oi.apart ops ok=true:=fun k ok hk hki hun' hno=>by
    refine hfree k ok hk hki ?_ hno
    by_cases hjk:j=k
    ·subst hjk;exact hjun
    ·rw[getD_set_ne true hjk]at hun';exact hun'
   refine⟨oj',hoj,?_⟩
   rcases hcj with ⟨hjq,hdj,hyj,_⟩|⟨hjq,_⟩
   ·have hyj':GQ P ops k dq S j oj' (U j) a:=hyj.same (execOp_put oj' (fun cs b=>hsel j oj' cs b hoj) a oi.dst _ h1).symm (wanted_put oj' a oi.dst _ h1).symm (.inl hjk)
    have hy':FQ P ops S oi (a.put oj'.dst (U j)):=hy.same (execOp_put oi (fun cs b=>hsel q oi cs b hi) a oj'.dst _ h3) (wanted_put oi a oj'.dst _ h3)
    refine .inl ⟨hjq,hdj,hyj',ih (listed.setIfInBounds j true) (a.put oj'.dst (U j)) hfree' (ready_mono hr (Ne.symm hji)) hy' fun v=>?_⟩
    obtain⟨ov,hov,hcv⟩:=(H v).2 j (ready_mono hj hji)
    have:oj'=ov:=Option.some.inj (hoj'.symm.trans hov)
    subst this
    rcases hcv with ⟨_,_,_,Hv⟩|⟨hjq',_⟩
    ·rw[Array.setIfInBounds_comm _ _ hji,←Act.put_comm a v (U j) h2]
     exact Hv
    ·exact absurd hjq' hji
   ·exact absurd hjq hji
def SeqQ (P:Program) (ops:Array Oper) (q k:Nat) (dq:Tmp) (U:Nat→Value) (S:Bool→Option Value→World→Prop) (M:Act→Prop):Nat→List Oper→Act→Prop
 |_,[],a=>M a
 |j,o::l,a=>(j≠q∧o.dst≠some dq∧GQ P ops k dq S j o (U j) a∧SeqQ P ops q k dq U S M (j+1) l (a.put o.dst (U j)))∨
  (j=q∧o.dst=some dq∧FQ P ops S o a∧∀v,SeqQ P ops q k dq U S M (j+1) l (a.put o.dst v))
theorem Ze5 {M:Act→Prop} {o:Oper} {l:List Oper} {a:Act} {j:Nat} (v:Value) (hu:U j=v) (hj:(j != q&&j != k)=true) (hd:(o.dst != some dq)=true) (hw:Region.wanted o (yielded ops a.tmps)=true) (h:∀b r w,S b r w→(execOp a.eval o).run P w= .ok (.value v) w)
 (hr:SeqQ P ops q k dq U S M (j+1) l (a.put o.dst v)):SeqQ P ops q k dq U S M j (o::l) a:=by
 subst hu
 rw[Bool.and_eq_true,bne_iff_ne,bne_iff_ne]at hj
 exact .inl ⟨hj.1,bne_iff_ne.1 hd,⟨hw,.inl ⟨hj.2,fun b r w hs=>.inl (h b r w hs)⟩⟩,hr⟩
theorem Zwn {M:Act→Prop} {o:Oper} {l:List Oper} {a:Act} {j:Nat} (v:Value) (f:FuncId) (args:Array Value) (hu:U j=v) (hj:(j != q&&j != k)=true) (hd:(o.dst != some dq)=true) (hw:Region.wanted o (yielded ops a.tmps)=true) (h:∀b r w,S b r w→(execOp a.eval o).run P w= .ok (.enter f args) w)
 (hc:∀b r w,S b r w→Calls P f args w (fun e w'=>e= .returned v∧S b r w')) (hr:SeqQ P ops q k dq U S M (j+1) l (a.put o.dst v)):SeqQ P ops q k dq U S M j (o::l) a:=by
 subst hu
 rw[Bool.and_eq_true,bne_iff_ne,bne_iff_ne]at hj
 exact .inl ⟨hj.1,bne_iff_ne.1 hd,⟨hw,.inl ⟨hj.2,fun b r w hs=>.inr ⟨f,args,h b r w hs,hc b r w hs⟩⟩⟩,hr⟩
theorem Z3z {M:Act→Prop} {o:Oper} {l:List Oper} {a:Act} {j:Nat} (u:Value) (hj:(j != q&&j==k)=true) (hd:o.dst=none) (hw:Region.wanted o (yielded ops a.tmps)=true) (ha:a.tmps.getD dq undef=u) (h:∀w,S false (some u) w→∃w',(execOp a.eval o).run P w= .ok .skip w'∧S true (some u) w')
 (hr:SeqQ P ops q k dq U S M (j+1) l a):SeqQ P ops q k dq U S M j (o::l) a:=by
 subst ha
 rw[Bool.and_eq_true,bne_iff_ne,beq_iff_eq]at hj
 exact .inl ⟨hj.1,by rw[hd];simp,⟨hw,.inr ⟨hj.2,hd,h⟩⟩,by rw[hd];exact hr⟩
theorem Z98 {M:Act→Prop} {o:Oper} {l:List Oper} {a:Act} {j:Nat} (hj:j=q) (hd:o.dst=some dq) (hw:Region.wanted o (yielded ops a.tmps)=true) (h:∀w,S false none w→∃v w',(execOp a.eval o).run P w= .ok (.value v) w'∧S false (some v) w')
 (hr:∀v,SeqQ P ops q k dq U S M (j+1) l (a.put o.dst v)):SeqQ P ops q k dq U S M j (o::l) a:=.inr ⟨hj,hd,⟨hw,h⟩,hr⟩
theorem Zwv {fin:Array Bool} {M:Act→Prop} (hsel:Region.noSelect ops=true) (hqk:q≠k) (hkq:∀listed,k∈Region.ready .any ops listed→listed.getD q false=true) (hf:Region.ready .any ops fin=[]):
 ∀(l:List Oper) (j:Nat) (listed:Array Bool) (a:Act),(∀i,i<l.length→l[i]?=ops[j+i]?)→
 Zgb .any ops fin l.length j listed=true→SeqQ P ops q k dq U S M j l a→AllQ P ops q k dq U S (fun listed' a'=>listed'=fin∧M a') l.length listed a
 |[],j,listed,a,_,hB,h=>by
  simp only[List.length_nil,Zgb,decide_eq_true_eq]at hB
  exact⟨Array.ext' hB,h⟩
 |o::l,j,listed,a,hl,hB,h=>by
  have h0:ops[j]?=some o:=by simpa using(hl 0 (by simp)).symm
  simp only[List.length_cons,Zgb,Bool.and_eq_true]at hB
  obtain⟨⟨hr,hfr⟩,hB'⟩:=hB
  have hr':j∈Region.ready .any ops listed:=by simpa using hr
  have hdone:∀listed a,(listed=fin∧M a)→Region.ready .any ops listed=[]:=fun listed a h=>by rw[h.1];exact hf
  have hl':∀i,i<l.length→l[i]?=ops[j+1+i]?:=fun i hi=>by have:=hl (i+1) (by simp;omega);simpa[Nat.add_assoc,Nat.add_comm 1 i]using this
  rcases h with ⟨hjq,hd,hg,hn⟩|⟨hjq,hd,hg,hn⟩
  ·exact AllQ.first h0 hjq hd (Region.noSelect_spec hsel) hkq hdone l.length listed a (Region.free_spec h0 hfr) hr' hg (Zwv hsel hqk hkq hf l (j+1) _ _ hl' hB' hn)
  ·have e:=hjq.symm
   subst e
   exact AllQ.firstQ h0 hd hqk (Region.noSelect_spec hsel) hkq hdone l.length listed a (Region.free_spec h0 hfr) hr' hg (fun v=>Zwv hsel hqk hkq hf l (q+1) _ _ hl' hB' (hn v))
theorem Zqs {id:Nat} {a:Act} {w:World} {l:List Oper} (q k:Nat) (dq:Tmp) (vs:List Value) (S:Bool→Option Value→World→Prop) (hm:P.follows .mixedOrders=true) (hB:finB l.toArray 0 l.length=true) (hqk:(q != k&&decide (q<l.length)&&decide (k<l.length))=true) (hkq:Region.waitsFor .any l.toArray k q=true)
 (hds:decide (dq<a.tmps.size)=true) (hS:S false none w.drew) (h:SeqQ P l.toArray q k dq (fun j=>vs.getD j undef) S (fun a'=>∀w',S true (some (a'.tmps.getD dq undef)) w'→Q .normal a' w') 0 l a):(Code.region id l.toArray true).wp P Q a w:=by
 refine Zcn hm ?_
 simp only[finB,Bool.and_eq_true,decide_eq_true_eq]at hB hds hqk
 obtain⟨⟨⟨⟨hsel,_⟩,_⟩,hr⟩,hlex⟩:=hB
 obtain⟨⟨hne,hql⟩,hkl⟩:=hqk
 have hne':q≠k:=bne_iff_ne.1 hne
 have hr':Region.ready .any l.toArray (Zb7 l.toArray.size l.toArray.size)=[]:=by simpa using hr
 have hsz:l.toArray.size=l.length:=by simp
 have hkq':∀listed,k∈Region.ready .any l.toArray listed→listed.getD q false=true:=fun listed hk=>by
  obtain⟨ok,hok,e,he,hb,hon⟩:=Region.waitsFor_spec hkq
  obtain⟨_,o',ho',hall⟩:=mem_ready.1 hk
  obtain rfl:ok=o':=Option.some.inj (hok.symm.trans ho')
  have:=hall e he hb
  rwa [hon]at this
 have H:=Zwv (P:=P) (q:=q) (k:=k) (dq:=dq) (U:=fun j=>vs.getD j undef) (S:=S) (fin:=Zb7 l.toArray.size l.toArray.size) hsel hne' hkq' hr' l 0 (Zb7 0 l.toArray.size) a (fun j _=>by simp) (by rw[Nat.sub_zero,hsz]at hlex;rw[hsz];exact hlex) h
 have h2:=Zvw (Q:=Q) hne' hkq' (fun listed a' w' hL hs=>by
  obtain⟨rfl,hL⟩:=hL
  refine⟨hr',hL w' ?_⟩
  rw[Zcw _ (Nat.le_refl _) (by rw[hsz];exact hkl),decide_eq_true (by rw[hsz];exact hkl)]at hs
  unfold rq at hs
  rw[Zcw _ (Nat.le_refl _) (by rw[hsz];exact hql),if_pos (decide_eq_true (by rw[hsz];exact hql))]at hs
  exact hs) l.length (Zb7 0 l.toArray.size) a w.drew (Zdg (Nat.zero_le _)) hds (fun e=>by
   rw[Zcw _ (Nat.zero_le _) (by rw[hsz];exact hkl)]at e
   simp at e) (by
   rw[Zcw _ (Nat.zero_le _) (by rw[hsz];exact hkl)]
   unfold rq
   rw[Zcw _ (Nat.zero_le _) (by rw[hsz];exact hql)]
   simpa using hS) H
 rw[hsz]at h2
 exact h2
theorem Zahj {a:Act} {j:Nat} (u:Value) (hv:a.tmps.getD dq undef=u) (h:∀w',S true (some u) w'→Q .normal a w'):SeqQ P ops q k dq U S (fun a'=>∀w',S true (some (a'.tmps.getD dq undef)) w'→Q .normal a' w') j [] a:=by
 subst hv
 exact h
end
end Go.Proofs.YtcjihfongfefoaaGreatDoor
