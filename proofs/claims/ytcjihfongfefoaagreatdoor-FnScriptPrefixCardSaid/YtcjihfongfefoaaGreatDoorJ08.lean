/- Pt Ps -/
import Derived.Test.YtcjihfongfefoaaGreatDoorJ04
import Derived.Deep.RegionHeld3
import Derived.IntWalk
namespace Go.Proofs.YtcjihfongfefoaaGreatDoor
open Go.RowKit
set_option maxHeartbeats 25600000
set_option maxRecDepth 100000
theorem Zej {l:List Stn} (h:Zay l=true) {i:Nat} (hi:i<l.length):stB l[i].nm l[i].ph l[i].g l[i].l=true:=by
 unfold Zay okT at h
 rw[Bool.and_eq_true,List.all_eq_true]at h
 have:=h.2 i (List.mem_range.2 hi)
 unfold Zhf at this
 rw[Bool.and_eq_true,Zcv hi]at this
 exact this.1
theorem Zjc {l:List Stn} (h:Zay l=true):l.length≤8:=by
 unfold Zay at h
 rw[Bool.and_eq_true]at h
 exact of_decide_eq_true h.1
def Zi9 (t:Int) (s:Stn):Int:=min (t*s.l) 1000
theorem Zwq {t:Int} {s:Stn} (ht:0≤t∧t≤40) (hl:1≤s.l∧s.l≤20):0≤Zi9 t s∧Zi9 t s≤800:=by
 have hp0:0≤t*s.l:=Int.mul_nonneg ht.1 (by omega)
 have hp1:t*s.l≤40*20:=Int.mul_le_mul ht.2 hl.2 (by omega) (by omega)
 unfold Zi9;omega
theorem RdS.news {w:World} {ad:Addr} {n:Nat} {l:List Stn} (h:RdS w (some ad) n l):∀j u,(Zbe l)[j]?=some u→w.cell? (ad.add j)=some u:=by
 intro j u hu
 obtain⟨i,r,hr,rfl⟩:∃i r,r<4∧j=i*4+r:=⟨j/4,j%4,Nat.mod_lt _ (by omega),by omega⟩
 rw[Zb6 _ _ _ hr]at hu
 rcases hi:l[i]? with _|s
 ·rw[hi]at hu;cases hu
 ·rw[hi]at hu
  obtain⟨hil,hs⟩:=List.getElem?_eq_some_iff.1 hi
  obtain⟨b,off,h1,c0,c1,c2,c3⟩:=h.2.2 i hil
  cases h1
  rw[hs]at c0 c1 c2 c3
  rw[Addr.add_lit]
  have hu':s.vals[r]?=some u:=hu
  rcases(by omega:r=0∨r=1∨r=2∨r=3)with rfl|rfl|rfl|rfl
  ·simp[Stn.vals]at hu';subst hu';rw[Nat.add_zero];exact c0
  ·simp[Stn.vals]at hu';subst hu';rw[←Nat.add_assoc];exact c1
  ·simp[Stn.vals]at hu';subst hu';rw[←Nat.add_assoc];exact c2
  ·simp[Stn.vals]at hu';subst hu';rw[←Nat.add_assoc];exact c3
theorem Znp (l:List Stn):∀u∈Zbe l,u.oneCell'=true:=by
 intro u hu
 unfold Zbe at hu
 obtain⟨s,_,h⟩:=List.mem_flatMap.1 hu
 simp[Stn.vals]at h
 rcases h with rfl|rfl|rfl|rfl<;>rfl
theorem Zi1 (l r:List Stn):Zbe (l++r)=Zbe l++Zbe r:=by simp[Zbe]
theorem RdS.take {w:World} {ao:Option Addr} {n k:Nat} {l:List Stn} (h:RdS w ao n l) (hk:k≤n):RdS w ao k (l.take k):=by
 have hl:=h.1
 refine⟨by rw[List.length_take];omega,by have:=h.2.1;omega,fun i hi=>?_⟩
 have hi2:i<k:=by rw[List.length_take]at hi;omega
 obtain⟨b,off,h1,_,h2⟩:=h.at (show i<n by omega)
 exact⟨b,off,h1,by simpa using h2⟩
theorem RdS.drop {w:World} {b off n k:Nat} {l:List Stn} (h:RdS w (some ⟨b,off,none⟩) n l) (hk:k≤n):RdS w (some ⟨b,off+k*4,none⟩) (n-k) (l.drop k):=by
 have hl:=h.1
 refine⟨by rw[List.length_drop];omega,by have:=h.2.1;omega,fun i hi=>?_⟩
 have hi2:k+i<l.length:=by rw[List.length_drop]at hi;omega
 obtain⟨b',off',h1,h2⟩:=h.2.2 (k+i) hi2
 cases h1
 refine⟨b,off+k*4,rfl,?_⟩
 have e:off+k*4+i*4=off+(k+i)*4:=by omega
 rw[e]
 simpa using h2
theorem RdS.empty {w:World} {ao:Option Addr} {n:Nat} {l:List Stn} (h:RdS w ao n l) (h0:ao=none):n=0∧l=[]:=by
 subst h0
 rcases Nat.eq_zero_or_pos n with h1|h1
 ·subst h1;exact⟨rfl,List.eq_nil_of_length_eq_zero h.1.symm⟩
 ·obtain⟨b,off,h2,_⟩:=h.at h1
  cases h2
theorem OwnS.cap' {w:World} {lo:Nat} {ao:Option Addr} {n c:Nat} {l:List Stn} (h:OwnS w lo ao n c l):n≤c∧(ao=none→c=0):=by
 rcases h.2.2.2 with ⟨h1,h2⟩|⟨g,cap,cur,hv,_,_,hc,_⟩
 ·cases h1;exact⟨Nat.le_refl _,fun _=>rfl⟩
 ·cases hv;exact⟨hc,fun e=>by cases e⟩
theorem OwnS.mono {w:World} {lo lo':Nat} {ao:Option Addr} {n c:Nat} {l:List Stn} (h:OwnS w lo ao n c l) (hl:lo'≤lo):OwnS w lo' ao n c l:=by
 refine⟨h.1,h.2.1,h.2.2.1,?_⟩
 rcases h.2.2.2 with h2|⟨g,cap,cur,hv,hg,hr⟩
 ·exact .inl h2
 ·exact .inr ⟨g,cap,cur,hv,by omega,hr⟩
def OwnVS (w:World) (lo:Nat) (v:Value) (l:List Stn):Prop:=w.ownsRow lo 37 4 v l.length (Zbe l)
theorem OwnVS.own {w:World} {lo:Nat} {v:Value} {l:List Stn} (h:OwnVS w lo v l) (hs:l.length≤1099511627776):∃ao n c,v= .slice ao n c∧OwnS w lo ao n c l:=by
 rcases h.2 with ⟨hv,hl⟩|⟨g,cap,cur,hv,hr⟩
 ·refine⟨none,0,0,hv,hl.symm,by omega,?_⟩
  subst hv;unfold OwnVS at h;rwa [hl]at h
 ·refine⟨_,_,_,hv,rfl,hs,?_⟩
  subst hv;exact h
theorem OwnVS.made0 (w:World) {lo:Nat} (hb:lo≤w.heap.size):OwnVS (w.alloc (.cells #[] 37)) lo (.slice (some ⟨w.heap.size,0,none⟩) 0 0) []:=
 World.ownsRow_lit (size:=4) w #[] 0 hb (Nat.zero_le _) rfl
theorem OwnVS.grown {w w':World} {lo:Nat} {v:Value} {l:List Stn} (h:OwnVS w lo v l) (hg:w.grownBy w' v.ownBlock) (hlo:lo≤w.heap.size):Below lo w w':=
 (Below.refl _ _).grown hg hlo fun k hk=>(h.lt k hk).1
def RetSB (w:World) (r:Option (List Stn)) (e:Ending) (w':World):Prop:=
 ∃ao n c,e= .returned (.tuple #[.slice ao n c,.bool r.isSome])∧OwnS w' w.heap.size ao n c (r.getD [])∧Below w.heap.size w w'
theorem Zdm {w w':World} {r:Option (List Stn)} (hr:r=none) (hb:Below w.heap.size w w'):RetSB w r (.returned (.tuple #[.slice none 0 0,.bool false])) w':=by
 subst hr
 exact⟨none,0,0,rfl,⟨rfl,by omega,World.ownsRow_nil _ _ _ _⟩,hb⟩
theorem Zb2 {w w':World} {r:Option (List Stn)} {l:List Stn} {v:Value} {b:Bool} (h:OwnVS w' w.heap.size v l) (hs:l.length≤1099511627776) (hl:r.getD []=l) (hr:r.isSome=b) (hb:Below w.heap.size w w'):RetSB w r (.returned (.tuple #[v,.bool b])) w':=by
 obtain⟨ao,n,c,rfl,ho⟩:=h.own hs
 subst hl;subst hr
 exact⟨ao,n,c,rfl,ho,hb⟩
theorem Z28 {o:Oper} {a:Act} {K:Act→World→Prop} {Q:Exit→Act→World→Prop} (wr:World) (s x:Operand)
 (ho:o.op= .call {callee:=.builtin .append,args:= #[s,x],argTypes:= #[23,23]})
 (lo:Nat) (v:Value) (l r:List Stn) (ao:Option Addr) (m c:Nat) (hs:a.eval s=v) (hown:OwnVS wr lo v l) (hx:a.eval x= .slice ao m c) (hr:RdS wr ao m r)
 (hc:ao=none→c=0) (hlen:l.length+m≤1099511627776) (hlo:lo≤wr.heap.size)
 (h:∀v' w',OwnVS w' lo v' (l++r)→wr.grownBy w' v.ownBlock→Below lo wr w'→K (a.put o.dst v') w'):
 o.wp Tryz.prog a wr K Q:=by
 obtain⟨i0,hi,hz0,hz1,hz2⟩:=info_parts Zke
 cases ao with
 |none=>
  obtain rfl:=hc rfl
  obtain⟨rfl,rfl⟩:=hr.empty rfl
  have hrun:=run_append_owned_none (P:=Tryz.prog) (w:=wr) lo 23 o.type 37 i0 4 Tryz.underlying23 hi v l.length (Zbe l) hown
  unfold Oper.wp
  simp[execOp,ho,resolve,invoke,builtin,hs,hx,hrun,Result.andThen]
  exact h v wr (by rw[List.append_nil];exact hown) (World.grownBy.refl _ _) (Below.refl _ _)
 |some ad=>
  have hm:=hr.1
  refine wp_append_own wr s x 23 ho lo 37 i0 _ 4 48 Tryz.underlying23 hi hz0 hz1 hz2 rfl (by decide) v l.length (Zbe l) hs hown
   ad m c (Zbe r) hx (by rw[Zcb,hm]) hr.news (Znp r) (by unfold maxLen;omega) (by omega) hlo ?_
  intro v' w1 h1 h2 _
  refine h v' w1 ?_ h2 (hown.grown h2 hlo)
  unfold OwnVS
  rw[List.length_append,←hm,Zi1]
  exact h1
theorem Zga {ops:Array Oper} {rest:List Oper} {o:Oper} {a:Act} {Q:Exit→Act→World→Prop} (wr:World) (hgd:o.guard=none) (s x:Operand)
 (ho:o.op= .call {callee:=.builtin .append,args:= #[s,x],argTypes:= #[23,23]})
 (lo:Nat) (v:Value) (l r:List Stn) (ao:Option Addr) (m c:Nat) (hs:a.eval s=v) (hown:OwnVS wr lo v l) (hx:a.eval x= .slice ao m c) (hr:RdS wr ao m r)
 (hc:ao=none→c=0) (hlen:l.length+m≤1099511627776) (hlo:lo≤wr.heap.size)
 (h:∀v' w',OwnVS w' lo v' (l++r)→wr.grownBy w' v.ownBlock→Below lo wr w'→wpList Tryz.prog ops Q rest (a.put o.dst v') w'):
 wpList Tryz.prog ops Q (o::rest) a wr:=
 wpList_plain hgd fun _ hK=>Z28 wr s x ho lo v l r ao m c hs hown hx hr hc hlen hlo fun v' w' h2 h3 h4=>hK _ _ (h v' w' h2 h3 h4)
theorem Zh7 {ops:Array Oper} {o:Oper} {a:Act} {K:Act→World→Prop} {Q:Exit→Act→World→Prop} {E:Prop} (wr:World) (hgd:o.guard=none) (s x:Operand)
 (ho:o.op= .call {callee:=.builtin .append,args:= #[s,x],argTypes:= #[23,23]})
 (lo:Nat) (v:Value) (l r:List Stn) (ao:Option Addr) (m c:Nat) (hs:a.eval s=v) (hown:OwnVS wr lo v l) (hx:a.eval x= .slice ao m c) (hr:RdS wr ao m r)
 (hc:ao=none→c=0) (hlen:l.length+m≤1099511627776) (hlo:lo≤wr.heap.size)
 (h:∀v' w',OwnVS w' lo v' (l++r)→wr.grownBy w' v.ownBlock→Below lo wr w'→K (a.put o.dst v') w'):
 if Region.wanted o (yielded ops a.tmps)=true then Oper.wp Tryz.prog o a wr K Q else E:=by
 have hw:Region.wanted o (yielded ops a.tmps)=true:=by simp[Region.wanted,hgd]
 rw[if_pos hw]
 exact Z28 wr s x ho lo v l r ao m c hs hown hx hr hc hlen hlo h
theorem Zags {ops:Array Oper} {rest:List Oper} {o:Oper} {a:Act} {Q:Exit→Act→World→Prop} (w:World) (hgd:o.guard=none) (s x:Operand)
 (hop:o.op=Op.makeSlice 23 s x) (kl kc:IntKind) (n:Nat) (hs:a.eval s= .int kl n) (hx:a.eval x= .int kc n) (hn:n≤1099511627776)
 (h:∀w',w'.ownsRow w.heap.size 37 4 (.slice (some ⟨w.heap.size,0,none⟩) n n) n (Zbe (List.replicate n zstn))→Below w.heap.size w w'→
   wpList Tryz.prog ops Q rest (a.put o.dst (.slice (some ⟨w.heap.size,0,none⟩) n n)) w'):
 wpList Tryz.prog ops Q (o::rest) a w:=by
 obtain⟨i0,hi,hz0,hz1,hz2⟩:=info_parts Zke
 refine wpList_make_full w hgd s x 23 hop w.heap.size 37 i0 _ 4 Tryz.underlying23 hi hz0 hz1 kl kc n n n hs hx rfl rfl (by rw[hz2];omega) (by unfold maxLen;omega) (Nat.le_refl _) ?_
 intro w1 h1 h2
 exact h w1 ((Zu4 n)▸h1) ((Below.refl _ _).grown h2 (Nat.le_refl _) (by intro k hk;cases hk))
theorem Zyo {ops:Array Oper} {rest:List Oper} {o:Oper} {a:Act} {Q:Exit→Act→World→Prop} (w:World) (hgd:o.guard=none) (s x:Operand)
 (hop:o.op=Op.makeSlice 23 s x) (kl kc:IntKind) (n:Nat) (C:Int) (hC:C=n) (hs:a.eval s= .int kl 0) (hx:a.eval x= .int kc C) (hn:n≤1099511627776)
 (h:∀w',OwnVS w' w.heap.size (.slice (some ⟨w.heap.size,0,none⟩) 0 n) []→Below w.heap.size w w'→
   wpList Tryz.prog ops Q rest (a.put o.dst (.slice (some ⟨w.heap.size,0,none⟩) 0 n)) w'):
 wpList Tryz.prog ops Q (o::rest) a w:=by
 obtain⟨i0,hi,hz0,hz1,hz2⟩:=info_parts Zke
 refine wpList_make_own w hgd s x 23 hop w.heap.size 37 i0 _ 4 Tryz.underlying23 hi hz0 hz1 kl kc C n hs hx hC (by rw[hz2];omega) (by unfold maxLen;omega) (Nat.le_refl _) ?_
 intro w1 h1 h2
 exact h w1 h1 ((Below.refl _ _).grown h2 (Nat.le_refl _) (by intro k hk;cases hk))
theorem OwnVS.mono {w:World} {lo lo':Nat} {v:Value} {l:List Stn} (h:OwnVS w lo v l) (hl:lo'≤lo):OwnVS w lo' v l:=by
 refine⟨h.1,?_⟩
 rcases h.2 with h2|⟨g,cap,cur,hv,hg,hr⟩
 ·exact .inl h2
 ·exact .inr ⟨g,cap,cur,hv,by omega,hr⟩
theorem Zj1 {w:World} {lo lo' n size:Nat} {t:TypeId} {v:Value} {xs:List Value} (h:w.ownsRow lo t size v n xs) (hl:lo'≤lo):w.ownsRow lo' t size v n xs:=by
 refine⟨h.1,?_⟩
 rcases h.2 with h2|⟨g,cap,cur,hv,hg,hr⟩
 ·exact .inl h2
 ·exact .inr ⟨g,cap,cur,hv,by omega,hr⟩
theorem ownRow_at' {w:World} {lo g n c size:Nat} {t:TypeId} {xs:List Value} {u:Value} {j:Nat} (h:w.ownsRow lo t size (.slice (some ⟨g,0,none⟩) n c) n xs) (hj:xs[j]?=some u):w.cell? ⟨g,j,none⟩=some u:=by
 have hl:j<xs.length:=(List.getElem?_eq_some_iff.1 hj).1
 rw[h.cellAt j (by rw[←h.1];exact hl)];exact hj
theorem Zp0 {w:World} {lo n size:Nat} {t:TypeId} {v:Value} {xs:List Value} (h:w.ownsRow lo t size v n xs) {p:Addr} (hne:∀k,v.ownBlock=some k→k≠p.block) (u:Value):(w.setCell p u).ownsRow lo t size v n xs:=by
 refine⟨h.1,?_⟩
 rcases h.2 with h2|⟨g,cap,cur,hv,hg,hh,hr⟩
 ·exact .inl h2
 ·refine .inr ⟨g,cap,cur,hv,hg,?_,hr⟩
  rw[Below.heap_setCell _ _ _ _ (hne g (by rw[hv];rfl))]
  exact hh
theorem Box.put {w:World} {b:Nat} {cs:Array Value} {t:TypeId} (h:Box w b cs t) (i:Nat) (u:Value):Box (w.setCell ⟨b,i,none⟩ u) b (cs.setIfInBounds i u) t:=by
 unfold Box at*
 simp[World.setCell,Array.getElem?_modify,h]
def pstS (t:Int) (s:Stn):Stn:=⟨s.nm,s.ph,if s.g<Zi9 t s then s.g+1 else if s.g>Zi9 t s then s.g-1 else s.g,s.l⟩
def Zfq (l:List Stn) (t:Int):Option (List Stn):=if(Zay l&&inB t 0 40)=true then some (l.map (pstS t))else none
theorem Zyh {l:List Stn} {t:Int} (h:Zay l=false):Zfq l t=none:=by simp[Zfq,h]
theorem Zxf {l:List Stn} {t:Int} (h:inB t 0 40=false):Zfq l t=none:=by simp[Zfq,h]
theorem Zrb {l:List Stn} {t:Int} (h:Zay l=true) (h':inB t 0 40=true):Zfq l t=some (l.map (pstS t)):=by simp[Zfq,h,h']
theorem Zabu {t:Int} {s:Stn} (h:s.g<Zi9 t s):pstS t s=⟨s.nm,s.ph,s.g+1,s.l⟩:=by simp[pstS,h]
theorem Zy3 {t:Int} {s:Stn} (h:¬s.g<Zi9 t s) (h':s.g>Zi9 t s):pstS t s=⟨s.nm,s.ph,s.g-1,s.l⟩:=by unfold pstS;rw[if_neg h,if_pos h']
theorem Zya {t:Int} {s:Stn} (h:¬s.g<Zi9 t s) (h':¬s.g>Zi9 t s):pstS t s=⟨s.nm,s.ph,s.g,s.l⟩:=by unfold pstS;rw[if_neg h,if_neg h']
theorem Zqj {ao:Option Addr} {n c:Nat} {l:List Stn} {w:World} (t:Int) (h:RdS w ao n l) (hc:n≤c):
 Calls Tryz.prog 18 #[.slice ao n c,.int .i64 t] w (RetSB w (Zfq l t)):=by
 have hs:=h.2.1
 have HN:=Lib.hid h.1
 by_cases h1:Zay l=true
 ·by_cases h2:inB t 0 40=true
  ·have ht:=inB_iff.1 h2
   have hr:=Lib.hid (Zrb h1 h2)
   have HC:=Lib.hid h1
   go_enter Tryz.func18,Tryz.ntmps18
   go_wp2_with fail
   refine(Zba h hc).mono ?_;rintro e w1 ⟨rfl,hb1⟩
   rw[h1]
   clear h1
   go_wp2_with fail
   refine(Zgd _ _).mono ?_;rintro e w' ⟨rfl,rfl⟩
   rw[h2]
   clear h2
   have hz1:=hb1.size
   go_wp2_with (at_make;refine Zags _ rfl (.tmp 19) (.tmp 19) rfl .i64 .i64 n rfl rfl (by omega) ?_;intro w2 hown0 hb2)
   have hown:=Zj1 hown0 hz1
   have hbb:=hb1.trans (hb2.mono hz1)
   generalize w1.heap.size=g at hown
   clear hown0 hb1 hb2
   go_wp2_with fail
   go_loopw [23] (fun i wr=>∃k:Nat,k≤n∧i= .int .i64 k∧wr.ownsRow w.heap.size 37 4 (.slice (some ⟨g,0,none⟩) n n) n (Zbe ((l.map (pstS t)).take k++(List.replicate n zstn).drop k))∧Below w.heap.size w wr) (fun i _=>n-(intOf i).toNat)
   case atStart=>exact⟨0,Nat.zero_le _,rfl,by simpa using hown,hbb⟩
   case round=>
    clear hown hbb
    obtain⟨k,hk,rfl,hown,hb⟩:=hrel
    have hz:=hb.size
    by_cases hlt:k<n
    ·obtain⟨bk,off,rfl,hl,hc0,hc1,hc2,hc3⟩:=(h.below hb).at hlt
     clear h
     have hst:=Zej HC.out hl
     obtain⟨hg,hll⟩:=Ze9 hst
     obtain⟨hq0,hq1⟩:=Zwq (s:=l[k]) ht hll
     have HQ:=Lib.hid (show Zor l[k].nm l[k].ph l[k].g l[k].l t=Zi9 t l[k]from Ztq hst (inB_iff.2 ht))
     clear hst
     have hlm:k<(l.map (pstS t)).length:=by rw[List.length_map];exact hl
     have HNX:=Lib.hid (Zi2 hlm (show(List.replicate n zstn).length=(l.map (pstS t)).length by rw[List.length_replicate,List.length_map];exact HN.out))
     have HGT:=Lib.hid (show(l.map (pstS t))[k]=pstS t l[k]by simp)
     have hgl:=(hown.lt g rfl).2
     have hgl0:=(hown.lt g rfl).1
     have hBx:=Box.new wr #[.string l[k].nm,.string l[k].ph,.int .i64 l[k].g,.int .i64 l[k].l] 37
     have hB0:Below wr.heap.size wr (wr.alloc (.cells #[.string l[k].nm,.string l[k].ph,.int .i64 l[k].g,.int .i64 l[k].l] 37)):=(Below.refl _ _).alloc (Nat.le_refl _) _
     have hlt0:=hBx.lt
     have hb0:=hb.trans (hB0.mono hz)
     have hown1:=Zam hown hB0 fun j hj=>(hown.lt j hj).2
     go_wp2_with fail
     refine(Z0h _ _ _ _ _ _).mono ?_;rintro e w3 ⟨rfl,hb3⟩
     rw[HQ.out]
     have hBy:=hBx.below hb3 hlt0
     have hb4:=hb0.trans (hb3.mono hb0.size)
     have hown2:=Zam hown1 hb3 fun j hj=>(hown1.lt j hj).2
     generalize wr.heap.size=B at*
     clear hc0 hc1 hc2 hc3 hown hown1 hb hB0 hb0 hb3 hBx hlt0
     have hne:g≠B:=by omega
     by_cases hup:l[k].g<Zi9 t l[k]
     ·have hf:=hBy.free 2
      have d2:=hBy.cell (i:=2) rfl
      have hBz:=hBy.put 2 (.int .i64 (l[k].g+1))
      have hown3:=Zp0 hown2 (p:=⟨B,2,none⟩) (by intro j hj;cases hj;exact hne) (.int .i64 (l[k].g+1))
      have hb5:=hb4.setCell (p:=⟨B,2,none⟩) hz (.int .i64 (l[k].g+1))
      have d0':=hBy.cell (i:=0) rfl
      have d1':=hBy.cell (i:=1) rfl
      have d3':=hBy.cell (i:=3) rfl
      have e0:=hBz.cell (i:=0) rfl
      have e1:=hBz.cell (i:=1) rfl
      have e2:=hBz.cell (i:=2) rfl
      have e3:=hBz.cell (i:=3) rfl
      obtain⟨⟨x0,x1,x2,x3,f0,f1,f2,f3⟩,g0,g1,g2,g3⟩:=Zer hown3 hlt
      have hp:=Zvj hown3 hlt (pstS t l[k])
      rw[←HGT.out,HNX.out,HGT.out,Zabu hup]at hp
      have hb6:=(((hb5.setCell (p:=⟨g,k*4,none⟩) hgl0 (.string l[k].nm)).setCell (p:=⟨g,k*4+1,none⟩) hgl0 (.string l[k].ph)).setCell (p:=⟨g,k*4+2,none⟩) hgl0 (.int .i64 (l[k].g+1))).setCell (p:=⟨g,k*4+3,none⟩) hgl0 (.int .i64 l[k].l)
      clear hown2 hown3 hb4 hb5 hBy hBz
      go_wp2_with fail
      go_roundw
      case rel=>exact⟨k+1,by omega,by go_num,hp,hb6⟩
      case measure=>simp[intOf];omega
     ·by_cases hdn:l[k].g>Zi9 t l[k]
      ·have hf:=hBy.free 2
       have d2:=hBy.cell (i:=2) rfl
       have hBz:=hBy.put 2 (.int .i64 (l[k].g-1))
       have hown3:=Zp0 hown2 (p:=⟨B,2,none⟩) (by intro j hj;cases hj;exact hne) (.int .i64 (l[k].g-1))
       have hb5:=hb4.setCell (p:=⟨B,2,none⟩) hz (.int .i64 (l[k].g-1))
       have d0':=hBy.cell (i:=0) rfl
       have d1':=hBy.cell (i:=1) rfl
       have d3':=hBy.cell (i:=3) rfl
       have e0:=hBz.cell (i:=0) rfl
       have e1:=hBz.cell (i:=1) rfl
       have e2:=hBz.cell (i:=2) rfl
       have e3:=hBz.cell (i:=3) rfl
       obtain⟨⟨x0,x1,x2,x3,f0,f1,f2,f3⟩,g0,g1,g2,g3⟩:=Zer hown3 hlt
       have hp:=Zvj hown3 hlt (pstS t l[k])
       rw[←HGT.out,HNX.out,HGT.out,Zy3 hup hdn]at hp
       have hb6:=(((hb5.setCell (p:=⟨g,k*4,none⟩) hgl0 (.string l[k].nm)).setCell (p:=⟨g,k*4+1,none⟩) hgl0 (.string l[k].ph)).setCell (p:=⟨g,k*4+2,none⟩) hgl0 (.int .i64 (l[k].g-1))).setCell (p:=⟨g,k*4+3,none⟩) hgl0 (.int .i64 l[k].l)
       clear hown2 hown3 hb4 hb5 hBy hBz
       go_wp2_with fail
       go_roundw
       case rel=>exact⟨k+1,by omega,by go_num,hp,hb6⟩
       case measure=>simp[intOf];omega
      ·have e0:=hBy.cell (i:=0) rfl
       have e1:=hBy.cell (i:=1) rfl
       have e2:=hBy.cell (i:=2) rfl
       have e3:=hBy.cell (i:=3) rfl
       obtain⟨⟨x0,x1,x2,x3,f0,f1,f2,f3⟩,g0,g1,g2,g3⟩:=Zer hown2 hlt
       have hp:=Zvj hown2 hlt (pstS t l[k])
       rw[←HGT.out,HNX.out,HGT.out,Zya hup hdn]at hp
       have hb6:=(((hb4.setCell (p:=⟨g,k*4,none⟩) hgl0 (.string l[k].nm)).setCell (p:=⟨g,k*4+1,none⟩) hgl0 (.string l[k].ph)).setCell (p:=⟨g,k*4+2,none⟩) hgl0 (.int .i64 l[k].g)).setCell (p:=⟨g,k*4+3,none⟩) hgl0 (.int .i64 l[k].l)
       clear hown2 hb4 hBy
       go_wp2_with fail
       go_roundw
       case rel=>exact⟨k+1,by omega,by go_num,hp,hb6⟩
       case measure=>simp[intOf];omega
    ·obtain rfl:k=n:=by omega
     have hown9:OwnVS wr w.heap.size (.slice (some ⟨g,0,none⟩) k k) (l.map (pstS t)):=by
      unfold OwnVS
      rw[List.length_map,←HN.out]
      rw[List.take_of_length_le (by rw[List.length_map,←HN.out];exact Nat.le_refl _),List.drop_of_length_le (by simp),List.append_nil]at hown
      exact hown
     clear hown
     go_wp2_with fail
     go_ret2
     exact Zb2 hown9 (by rw[List.length_map,←HN.out];exact hs) (by rw[hr.out];rfl) (by rw[hr.out];rfl) hb
  ·have h2':inB t 0 40=false:=by simpa using h2
   have hr:=Lib.hid (Zxf (l:=l) h2')
   clear h2
   go_enter Tryz.func18,Tryz.ntmps18
   go_wp2_with fail
   refine(Zba h hc).mono ?_;rintro e w1 ⟨rfl,hb1⟩
   rw[h1]
   go_wp2_with fail
   refine(Zgd _ _).mono ?_;rintro e w' ⟨rfl,rfl⟩
   go_wp2_with fail
   go_ret2
   exact Zdm hr.out hb1
 ·have h':Zay l=false:=by simpa using h1
  have hr:=Lib.hid (Zyh (t:=t) h')
  clear h1
  go_enter Tryz.func18,Tryz.ntmps18
  go_wp2_with fail
  refine(Zba h hc).mono ?_;rintro e w1 ⟨rfl,hb1⟩
  rw[h']
  go_wp2_with fail
  go_ret2
  exact Zdm hr.out hb1
end Go.Proofs.YtcjihfongfefoaaGreatDoor
