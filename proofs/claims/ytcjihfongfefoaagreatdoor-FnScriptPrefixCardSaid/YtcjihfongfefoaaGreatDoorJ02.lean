/- Ints Hv Ss St Hl Hm -/
import Derived.Test.YtcjihfongfefoaaGreatDoorJ01
import Derived.Laws.AppendOwnNone
import Derived.Lib.AppendZeros
import Derived.Maps.AppendAt
namespace Go.Proofs.YtcjihfongfefoaaGreatDoor
open Go.RowKit
set_option maxHeartbeats 25600000
theorem Zpi:(Tryz.prog.info? 3).map (fun i=>(i.zero,i.size,i.bytes))=some (some (.int .i64 0),1,8):=by kernel_rfl
theorem Zwd {l:List Int} {r:List Int} {k:Nat} (hk:k<l.length) (hr:r.length=l.length):
 ((l.take k++r.drop k).map (Value.int .i64)).set k (.int .i64 l[k])=(l.take (k+1)++r.drop (k+1)).map (Value.int .i64):=by
 apply List.ext_getElem?
 intro j
 rw[List.getElem?_set]
 simp only[List.length_map,List.length_append,List.length_take,List.length_drop,List.getElem?_map,List.getElem?_append,List.getElem?_take,List.getElem?_drop]
 have e1:min k l.length=k:=by omega
 have e2:min (k+1) l.length=k+1:=by omega
 simp only[e1,e2]
 by_cases h:k=j
 ·subst h
  rw[if_pos rfl,if_pos (by omega),if_pos (by omega),if_pos (by omega)]
  simp[hk]
 ·rw[if_neg h]
  by_cases h2:j<k
  ·rw[if_pos h2,if_pos h2,if_pos (by omega),if_pos (by omega)]
  ·rw[if_neg h2,if_neg (by omega),show k+(j-k)=j from by omega,show k+1+(j-(k+1))=j from by omega]
theorem Zajd {l:List Int} {r:List Int} {k:Nat} (hk:k≤l.length):((l.take k++r.drop k).map (Value.int .i64))[k]?=(r.map (Value.int .i64))[k]?:=by
 rw[List.getElem?_map,List.getElem?_append,List.length_take,Nat.min_eq_left hk,if_neg (by omega),List.getElem?_drop,Nat.sub_self,Nat.add_zero,List.getElem?_map]
def Zdw (w:World) (l:List Int) (e:Ending) (w':World):Prop:=
 ∃ao n c,e= .returned (.slice ao n c)∧Own w' w.heap.size ao n c l∧Below w.heap.size w w'
def OwnV (w:World) (lo:Nat) (v:Value) (l:List Int):Prop:=w.ownsRow lo 3 1 v l.length (l.map (Value.int .i64))
theorem OwnV.snoc {w:World} {lo:Nat} {v:Value} {l:List Int} {x:Int} (h:w.ownsRow lo 3 1 v (l.length+1) (l.map (Value.int .i64)++[.int .i64 x])):OwnV w lo v (l++[x]):=by
 unfold OwnV;simpa using h
theorem OwnV.own {w:World} {lo:Nat} {v:Value} {l:List Int} (h:OwnV w lo v l) (hs:l.length≤1099511627776):∃ao n c,v= .slice ao n c∧Own w lo ao n c l:=by
 rcases h.2 with ⟨hv,hl⟩|⟨g,cap,cur,hv,hr⟩
 ·refine⟨none,0,0,hv,hl.symm,by omega,?_⟩
  subst hv;unfold OwnV at h;rwa [hl]at h
 ·refine⟨_,_,_,hv,rfl,hs,?_⟩
  subst hv;exact h
theorem OwnV.made0 (w:World) {lo:Nat} (hb:lo≤w.heap.size):OwnV (w.alloc (.cells #[] 3)) lo (.slice (some ⟨w.heap.size,0,none⟩) 0 0) []:=
 World.ownsRow_lit (size:=1) w #[] 0 hb (Nat.zero_le _) rfl
def RetIntsB (w:World) (r:Option (List Int)) (e:Ending) (w':World):Prop:=
 ∃ao n c,e= .returned (.tuple #[.slice ao n c,.bool r.isSome])∧Own w' w.heap.size ao n c (r.getD [])∧Below w.heap.size w w'
theorem Zbd {w w':World} {r:Option (List Int)} (hr:r=none) (hb:Below w.heap.size w w'):RetIntsB w r (.returned (.tuple #[.slice none 0 0,.bool false])) w':=by
 subst hr
 exact⟨none,0,0,rfl,⟨rfl,by omega,World.ownsRow_nil _ _ _ _⟩,hb⟩
theorem Zc0 {w w':World} {r:Option (List Int)} {l:List Int} {v:Value} {b:Bool} (h:OwnV w' w.heap.size v l) (hs:l.length≤1099511627776) (hl:r.getD []=l) (hr:r.isSome=b) (hb:Below w.heap.size w w'):RetIntsB w r (.returned (.tuple #[v,.bool b])) w':=by
 obtain⟨ao,n,c,rfl,ho⟩:=h.own hs
 subst hl;subst hr
 exact⟨ao,n,c,rfl,ho,hb⟩
theorem RetIntsB.some {w w':World} {l:List Int} {e:Ending} (h:RetIntsB w (some l) e w'):∃ao n c,e= .returned (.tuple #[.slice ao n c,.bool true])∧Own w' w.heap.size ao n c l∧Below w.heap.size w w':=h
theorem RetIntsB.none {w w':World} {e:Ending} (h:RetIntsB w none e w'):∃ao n c,e= .returned (.tuple #[.slice ao n c,.bool false])∧Own w' w.heap.size ao n c []∧Below w.heap.size w w':=h
theorem Zht {f:Nat→Int} (k:Nat):(List.range (k+1)).map f=(List.range k).map f++[f k]:=by rw[List.range_succ,List.map_append];rfl
theorem OwnV.grown {w w':World} {lo:Nat} {v:Value} {l:List Int} (h:OwnV w lo v l) (hg:w.grownBy w' v.ownBlock) (hlo:lo≤w.heap.size):Below lo w w':=
 (Below.refl _ _).grown hg hlo fun k hk=>(h.lt k hk).1
theorem Zqp {ops:Array Oper} {rest:List Oper} {o:Oper} {a:Act} {Q:Exit→Act→World→Prop} (wr:World) (hgd:o.guard=none) (s x:Operand)
 (ho:o.op= .call {callee:=.builtin .append,args:= #[s,x],argTypes:= #[27,27]})
 (lo:Nat) (v:Value) (l:List Int) (y:Int) (hs:a.eval s=v) (hown:OwnV wr lo v l) (hx:a.eval x= .slice (some ⟨wr.heap.size,0,none⟩) 1 1)
 (hlen:l.length≤1099511627775) (hlo:lo≤wr.heap.size)
 (h:∀v' w',OwnV w' lo v' (l++[y])→wr.grownBy w' v.ownBlock→Below lo wr w'→wpList Tryz.prog ops Q rest (a.put o.dst v') w'):
 wpList Tryz.prog ops Q (o::rest) a (wr.alloc (.cells #[.int .i64 y] 3)):=by
 obtain⟨i0,hi,hz0,hz1,hz2⟩:=info_parts Zpi
 refine wpList_append_own _ hgd s x 27 ho lo 3 i0 (.int .i64 0) 1 8 Tryz.underlying27 hi hz0 hz1 hz2 rfl (by decide) v l.length (l.map (Value.int .i64)) hs (hown.alloc _)
  ⟨wr.heap.size,0,none⟩ 1 1 [.int .i64 y] hx rfl (cell_one_new _ _ _) (ints_oneCell .i64 [y]) (by unfold maxLen;omega) (by omega) (by simp;omega) ?_
 intro v' w1 h1 h2 _
 have hg:wr.grownBy w1 v.ownBlock:=by
  refine⟨h2.os,h2.tape,h2.output,Nat.le_trans (by simp) h2.size,fun k hk hne=>?_⟩
  rw[h2.block k (by simp;omega) hne]
  exact Below.heap_alloc _ _ _ hk
 exact h v' w1 (OwnV.snoc h1) hg (hown.grown hg hlo)
def Fill (w:World) (lo g m:Nat) (L Z:List Int) (k:Nat):Prop:=
 w.ownsRow lo 3 1 (.slice (some ⟨g,0,none⟩) m m) m ((L.take k++Z.drop k).map (Value.int .i64))∧L.length=m∧Z.length=m
theorem Fill.cell {w:World} {lo g m k:Nat} {L Z:List Int} (h:Fill w lo g m L Z k) (hk:k<m):w.cell? ⟨g,k,none⟩=some (.int .i64 (Z.getD k 0)):=by
 obtain⟨ho,hL,hZ⟩:=h
 rw[ho.cellAt k (by omega),Zajd (by omega)]
 exact Zju (by omega)
theorem Fill.free {w:World} {lo g m k:Nat} {L Z:List Int} (h:Fill w lo g m L Z k) (j:Nat):w.frozen? ⟨g,j,none⟩=false:=h.1.frozenAt j
theorem Fill.lo {w:World} {lo g m k:Nat} {L Z:List Int} (h:Fill w lo g m L Z k):lo≤g:=(h.1.lt g rfl).1
theorem Fill.step {w:World} {lo g m k:Nat} {L Z:List Int} (h:Fill w lo g m L Z k) (hk:k<m) {y:Int} (hy:L.getD k 0=y):Fill (w.setCell ⟨g,k,none⟩ (.int .i64 y)) lo g m L Z (k+1):=by
 obtain⟨ho,hL,hZ⟩:=h
 have h2:=(ho.stored k (.int .i64 y)).1
 have hl:k<L.length:=by omega
 have e:L.getD k 0=L[k]:=by simp[List.getD,hl]
 rw[←hy,e,Zwd hl (by omega)]at h2
 rw[←hy,e]
 exact⟨h2,hL,hZ⟩
theorem Fill.below {w w1:World} {lo g m k:Nat} {L Z:List Int} (h:Fill w lo g m L Z k) (hb:Below lo w1 w) (u:Value):Below lo w1 (w.setCell ⟨g,k,none⟩ u):=hb.setCell h.lo u
theorem Fill.done {w:World} {lo g m k:Nat} {L Z:List Int} (h:Fill w lo g m L Z k) (hk:m≤k):OwnV w lo (.slice (some ⟨g,0,none⟩) m m) L:=by
 obtain⟨ho,hL,hZ⟩:=h
 subst hL
 rw[List.take_of_length_le hk,List.drop_of_length_le (by omega),List.append_nil]at ho
 exact ho
theorem Fill.start {w:World} {lo g m:Nat} {L Z:List Int} (ho:w.ownsRow lo 3 1 (.slice (some ⟨g,0,none⟩) m m) m (Z.map (Value.int .i64))) (hL:L.length=m) (hZ:Z.length=m):Fill w lo g m L Z 0:=
 ⟨by simpa using ho,hL,hZ⟩
theorem Fill.alter {w w':World} {lo g m k:Nat} {L Z:List Int} (h:Fill w lo g m L Z k) (hb:Below w.heap.size w w'):Fill w' lo g m L Z k:=
 ⟨Zam h.1 hb fun k hk=>(h.1.lt k hk).2,h.2⟩
theorem Zf1 {ops:Array Oper} {rest:List Oper} {o:Oper} {a:Act} {Q:Exit→Act→World→Prop} (w:World) (hgd:o.guard=none) (s x:Operand)
 (hop:o.op=Op.makeSlice 27 s x) (kl kc:IntKind) (n:Nat) (hs:a.eval s= .int kl n) (hx:a.eval x= .int kc n) (hn:n≤1099511627776)
 (h:∀w',w'.ownsRow w.heap.size 3 1 (.slice (some ⟨w.heap.size,0,none⟩) n n) n ((List.replicate n (0:Int)).map (Value.int .i64))→Below w.heap.size w w'→
   wpList Tryz.prog ops Q rest (a.put o.dst (.slice (some ⟨w.heap.size,0,none⟩) n n)) w'):
 wpList Tryz.prog ops Q (o::rest) a w:=by
 obtain⟨i0,hi,hz0,hz1,hz2⟩:=info_parts Zpi
 refine wpList_make_full w hgd s x 27 hop w.heap.size 3 i0 (.int .i64 0) 1 Tryz.underlying27 hi hz0 hz1 kl kc n n n hs hx rfl rfl (by rw[hz2];omega) (by unfold maxLen;omega) (Nat.le_refl _) ?_
 intro w1 h1 h2
 refine h w1 ?_ ((Below.refl _ _).grown h2 (Nat.le_refl _) (by intro k hk;cases hk))
 have e:(madeCells (Value.int IntKind.i64 0).cells (n*1)).toList=(List.replicate n (0:Int)).map (Value.int .i64):=by
  rw[Nat.mul_one];refine(toList_madeCells_one _ _).trans ?_;simp
 rw[←e];exact h1
theorem Rd.news {w:World} {ad:Addr} {n:Nat} {l:List Int} (h:Rd w (some ad) n l):∀j u,(l.map (Value.int .i64))[j]?=some u→w.cell? (ad.add j)=some u:=by
 intro j u hu
 have hj:j<l.length:=by simpa using(List.getElem?_eq_some_iff.1 hu).1
 obtain⟨b,off,h1,h2⟩:=h.2.2 j (by rw[h.1];exact hj)
 cases h1
 rw[Addr.add_lit,h2,←Zju hj,hu]
theorem Zajt {o:Oper} {a:Act} {K:Act→World→Prop} {Q:Exit→Act→World→Prop} (wr:World) (s x:Operand)
 (ho:o.op= .call {callee:=.builtin .append,args:= #[s,x],argTypes:= #[27,27]})
 (lo:Nat) (v:Value) (l r:List Int) (ao:Option Addr) (m c:Nat) (hs:a.eval s=v) (hown:OwnV wr lo v l) (hx:a.eval x= .slice ao m c) (hr:Rd wr ao m r)
 (hc:ao=none→c=0) (hlen:l.length+m≤1099511627776) (hlo:lo≤wr.heap.size)
 (h:∀v' w',OwnV w' lo v' (l++r)→wr.grownBy w' v.ownBlock→Below lo wr w'→K (a.put o.dst v') w'):
 o.wp Tryz.prog a wr K Q:=by
 obtain⟨i0,hi,hz0,hz1,hz2⟩:=info_parts Zpi
 cases ao with
 |none=>
  obtain rfl:=hc rfl
  have h0:m=0:=by
   rcases Nat.eq_zero_or_pos m with h0|h0
   ·exact h0
   ·obtain⟨b,off,h1,_⟩:=hr.2.2 0 h0
    cases h1
  subst h0
  have hr0:r=[]:=List.eq_nil_of_length_eq_zero hr.1.symm
  subst hr0
  have hrun:=run_append_owned_none (P:=Tryz.prog) (w:=wr) lo 27 o.type 3 i0 1 Tryz.underlying27 hi v l.length (l.map (Value.int .i64)) hown
  unfold Oper.wp
  simp[execOp,ho,resolve,invoke,builtin,hs,hx,hrun,Result.andThen]
  exact h v wr (by rw[List.append_nil];exact hown) (World.grownBy.refl _ _) (Below.refl _ _)
 |some ad=>
  have hm:=hr.1
  refine wp_append_own wr s x 27 ho lo 3 i0 (.int .i64 0) 1 8 Tryz.underlying27 hi hz0 hz1 hz2 rfl (by decide) v l.length (l.map (Value.int .i64)) hs hown
   ad m c (r.map (Value.int .i64)) hx (by simp[hm]) hr.news (ints_oneCell .i64 r) (by unfold maxLen;omega) (by omega) hlo ?_
  intro v' w1 h1 h2 _
  refine h v' w1 ?_ h2 (hown.grown h2 hlo)
  unfold OwnV
  rw[List.length_append,←hm,List.map_append]
  exact h1
theorem Z01 {ops:Array Oper} {rest:List Oper} {o:Oper} {a:Act} {Q:Exit→Act→World→Prop} (wr:World) (hgd:o.guard=none) (s x:Operand)
 (ho:o.op= .call {callee:=.builtin .append,args:= #[s,x],argTypes:= #[27,27]})
 (lo:Nat) (v:Value) (l r:List Int) (ao:Option Addr) (m c:Nat) (hs:a.eval s=v) (hown:OwnV wr lo v l) (hx:a.eval x= .slice ao m c) (hr:Rd wr ao m r)
 (hc:ao=none→c=0) (hlen:l.length+m≤1099511627776) (hlo:lo≤wr.heap.size)
 (h:∀v' w',OwnV w' lo v' (l++r)→wr.grownBy w' v.ownBlock→Below lo wr w'→wpList Tryz.prog ops Q rest (a.put o.dst v') w'):
 wpList Tryz.prog ops Q (o::rest) a wr:=
 wpList_plain hgd fun _ hK=>Zajt wr s x ho lo v l r ao m c hs hown hx hr hc hlen hlo fun v' w' h2 h3 h4=>hK _ _ (h v' w' h2 h3 h4)
theorem OwnV.mono {w:World} {lo lo':Nat} {v:Value} {l:List Int} (h:OwnV w lo v l) (hl:lo'≤lo):OwnV w lo' v l:=by
 refine⟨h.1,?_⟩
 rcases h.2 with h2|⟨g,cap,cur,hv,hg,hr⟩
 ·exact .inl h2
 ·exact .inr ⟨g,cap,cur,hv,by omega,hr⟩
def inB (n a b:Int):Bool:=decide (a≤n)&&decide (n≤b)
def allB (a b:Int) (l:List Int):Bool:=l.all fun n=>inB n a b
def chB (c:Int):Bool:=inB c 1 16
theorem Zax {n a b:Int} (h:a≤n) (h':n≤b):inB n a b=true:=by simp[inB,h,h']
theorem Zmo {n a b:Int} (h:n<a):inB n a b=false:=by simp[inB];omega
theorem Zma {n a b:Int} (h:b<n):inB n a b=false:=by simp[inB];omega
theorem inB_iff {n a b:Int}:inB n a b=true↔a≤n∧n≤b:=by simp[inB]
theorem chB_iff {ch:Int}:chB ch=true↔1≤ch∧ch≤16:=inB_iff
theorem Zk1 {a b:Int} {l:List Int} {k:Nat} (hk:k<l.length) (h:allB a b (l.take k)=true) (h1:inB l[k] a b=true):allB a b (l.take (k+1))=true:=by
 unfold allB at*
 rw[List.take_succ_eq_append_getElem hk,List.all_append,h]
 simp[h1]
theorem Zn6 {a b:Int} {l:List Int} {k:Nat} (hk:k<l.length) (h1:inB l[k] a b=false):allB a b l=false:=by
 unfold allB
 rw[List.all_eq_false];exact⟨l[k],List.getElem_mem hk,by simp[h1]⟩
theorem Ztx {a b:Int} {l:List Int} {k:Nat} (hk:l.length≤k) (h:allB a b (l.take k)=true):allB a b l=true:=by
 rwa [List.take_of_length_le hk]at h
theorem Zae7 {a b:Int} {l:List Int} (h:allB a b l=true) {k:Nat} (hk:k<l.length):a≤l[k]∧l[k]≤b:=by
 unfold allB at h
 rw[List.all_eq_true]at h
 exact inB_iff.1 (h _ (List.getElem_mem hk))
theorem Zbq (n a b:Int) (w:World):Calls Tryz.prog 79 #[.int .i64 n,.int .i64 a,.int .i64 b] w fun e w'=>e= .returned (.bool (inB n a b))∧w=w':=by
 by_cases h1:a≤n<;>by_cases h2:n≤b<;>(
 go_enter Tryz.func79,Tryz.ntmps79
 go_wp2
 go_ret
 simp[h1,h2,inB])
theorem Zgu (n:Int) (w:World):Calls Tryz.prog 84 #[.int .i64 n] w fun e w'=>e= .returned (.bool (chB n))∧w=w':=by
 by_cases h1:1≤n<;>by_cases h2:n≤16<;>(
 go_enter Tryz.func84,Tryz.ntmps84
 go_wp2
 go_ret
 simp[h1,h2,chB,inB])
theorem Zrc {ao:Option Addr} {n c:Nat} {l:List Int} (a b:Int) {w:World} (h:Rd w ao n l):
 Calls Tryz.prog 179 #[.slice ao n c,.int .i64 a,.int .i64 b] w fun e w'=>e= .returned (.bool (allB a b l))∧w=w':=by
 have hs:=h.2.1
 have hn:=h.1
 subst hn
 go_enter Tryz.func179,Tryz.ntmps179
 go_wp2
 go_loop [11] (fun i=>∃k:Nat,k≤l.length∧i= .int .i64 k∧allB a b (l.take k)=true) (fun i=>l.length-(intOf i).toNat)
 case atStart=>exact⟨0,Nat.zero_le _,rfl,rfl⟩
 case round=>
  obtain⟨k,hk,rfl,hall⟩:=hrel
  have HA:=Lib.hid hall;clear hall
  by_cases hlt:k<l.length
  ·obtain⟨bk,off,rfl,hl,hc⟩:=h.at hlt
   clear h
   by_cases h1:a≤l[k]
   ·by_cases h2:l[k]≤b
    ·go_wp2
     go_round
     case rel=>exact⟨k+1,by omega,by go_num,Zk1 hl HA.out (Zax h1 h2)⟩
     case measure=>simp[intOf];omega
    ·go_wp2
     go_ret
     exact⟨Zav (Zn6 hl (Zma (by omega))).symm,rfl⟩
   ·go_wp2
    go_ret
    exact⟨Zav (Zn6 hl (Zmo (by omega))).symm,rfl⟩
  ·go_wp2
   go_ret
   exact⟨Zav (Ztx (by omega) HA.out).symm,rfl⟩
theorem Zjy (n:Int) (w:World):Calls Tryz.prog 280 #[.int .i64 n] w fun e w'=>e= .returned (.bool (chB n))∧w=w':=by
 go_enter Tryz.func280,Tryz.ntmps280
 go_wp2_with fail
 refine(Zbq _ _ _ _).mono ?_;rintro e w' ⟨rfl,rfl⟩
 go_wp2_with fail
 go_ret
 exact⟨rfl,rfl⟩
def allS (p:UInt8→Bool) (s:ByteArray):Bool:=s.data.toList.all p
def allT (p:UInt8→Bool) (s:ByteArray) (k:Nat):Bool:=(s.data.toList.take k).all p
theorem Zn0 (s:ByteArray) (k:Nat) (h:k<s.size):s.data.toList.take (k+1)=s.data.toList.take k++[s[k]]:=by
 rw[List.take_succ_eq_append_getElem (by simpa using h)];rfl
theorem Zh0 {p:UInt8→Bool} {s:ByteArray} {k:Nat} (hk:k<s.size) (h:allT p s k=true) (h1:p s[k]=true):allT p s (k+1)=true:=by
 unfold allT at*
 rw[Zn0 s k hk,List.all_append,h];simp[h1]
theorem Ze7 {p:UInt8→Bool} {s:ByteArray} {k:Nat} (hk:k<s.size) (h1:p s[k]=false):allS p s=false:=by
 unfold allS
 rw[List.all_eq_false]
 exact⟨s[k],by rw[←Array.mem_def];exact ByteArray.getElem_eq_getElem_data (h:=hk)▸Array.getElem_mem _,by simp[h1]⟩
theorem Zkq {p:UInt8→Bool} {s:ByteArray} {k:Nat} (hk:s.size≤k) (h:allT p s k=true):allS p s=true:=by
 unfold allT at h
 rwa [List.take_of_length_le (by simpa using hk)]at h
def letC (c:UInt8):Bool:=inB (c.toNat:Int) 97 122
def bitC (c:UInt8):Bool:=((c.toNat:Int)==48)||((c.toNat:Int)==49)
def Zdv (s:ByteArray):Bool:=inB (s.size:Int) 1 8&&allS letC s
def Zan (s:ByteArray):Bool:=decide (s.size≤600)&&allS bitC s
def Zcq (s:ByteArray):Bool:=decide (s.size≤6)&&allS bitC s
theorem Zdi (s:ByteArray) (w:World):Calls Tryz.prog 182 #[.string s] w fun e w'=>e= .returned (.bool (Zdv s))∧w=w':=by
 by_cases h1:(s.size:Int)<1
 ·have hr:=Lib.hid (show Zdv s=false by unfold Zdv;rw[Zmo h1];rfl)
  go_enter Tryz.func182,Tryz.ntmps182
  go_wp2
  go_ret
  exact⟨Zav hr.out.symm,rfl⟩
 by_cases h2:(8:Int)<(s.size:Int)
 ·have hr:=Lib.hid (show Zdv s=false by unfold Zdv;rw[Zma h2];rfl)
  go_enter Tryz.func182,Tryz.ntmps182
  go_wp2
  go_ret
  exact⟨Zav hr.out.symm,rfl⟩
 have hr:=Lib.hid (show Zdv s=allS letC s by unfold Zdv;rw[Zax (by omega) (by omega)];rfl)
 go_enter Tryz.func182,Tryz.ntmps182
 go_wp2
 go_loop [14] (fun i=>∃k:Nat,k≤s.size∧i= .int .i64 k∧allT letC s k=true) (fun i=>s.size-(intOf i).toNat)
 case atStart=>exact⟨0,Nat.zero_le _,rfl,rfl⟩
 case round=>
  obtain⟨k,hk,rfl,hall⟩:=hrel
  have HA:=Lib.hid hall;clear hall
  by_cases hlt:k<s.size
  ·by_cases h3:(s[k].toNat:Int)<97
   ·have HF:=Lib.hid (Ze7 hlt (show letC s[k]=false from Zmo h3))
    go_wp2
    go_ret
    exact⟨Zav (by rw[hr.out,HF.out]),rfl⟩
   ·by_cases h4:(122:Int)<(s[k].toNat:Int)
    ·have HF:=Lib.hid (Ze7 hlt (show letC s[k]=false from Zma h4))
     go_wp2
     go_ret
     exact⟨Zav (by rw[hr.out,HF.out]),rfl⟩
    ·have HT:=Lib.hid (Zh0 hlt HA.out (show letC s[k]=true from Zax (by omega) (by omega)))
     go_wp2
     go_round
     case rel=>exact⟨k+1,by omega,by go_num,HT.out⟩
     case measure=>simp[intOf];omega
  ·go_wp2
   go_ret
   exact⟨Zav (by rw[hr.out,Zkq (by omega) HA.out]),rfl⟩
theorem Zge (s:ByteArray) (w:World) (hs:s.size≤1099511627776):Calls Tryz.prog 185 #[.string s] w fun e w'=>e= .returned (.bool (Zdv s))∧w=w':=by
 have hr:=Lib.hid (show Zdv s=(inB (s.size:Int) 1 8&&allS letC s)from rfl)
 go_enter Tryz.func185,Tryz.ntmps185
 go_wp2
 go_loop [3] (fun i=>∃k:Nat,k≤s.size∧i= .int .i64 k∧allT letC s k=true) (fun i=>s.size-(intOf i).toNat)
 case atStart=>exact⟨0,Nat.zero_le _,rfl,rfl⟩
 case round=>
  obtain⟨k,hk,rfl,hall⟩:=hrel
  have HA:=Lib.hid hall;clear hall
  by_cases hlt:k<s.size
  ·by_cases h3:(s[k].toNat:Int)<97
   ·have HF:=Lib.hid (Ze7 hlt (show letC s[k]=false from Zmo h3))
    go_wp2
    go_ret
    exact⟨Zav (by rw[hr.out,HF.out];simp),rfl⟩
   ·by_cases h4:(122:Int)<(s[k].toNat:Int)
    ·have HF:=Lib.hid (Ze7 hlt (show letC s[k]=false from Zma h4))
     go_wp2
     go_ret
     exact⟨Zav (by rw[hr.out,HF.out];simp),rfl⟩
    ·have HT:=Lib.hid (Zh0 hlt HA.out (show letC s[k]=true from Zax (by omega) (by omega)))
     go_wp2
     go_round
     case rel=>exact⟨k+1,by omega,by go_num,HT.out⟩
     case measure=>simp[intOf];omega
  ·go_wp2_with (go_at_call 79;refine(Zbq _ _ _ _).mono ?_;rintro e w' ⟨rfl,rfl⟩)
   go_ret
   exact⟨Zav (by rw[hr.out,Zkq (by omega) HA.out];simp),rfl⟩
theorem Z1v {c:UInt8} (h1:((c.toNat:Int)==48)=false) (h2:((c.toNat:Int)==49)=false):bitC c=false:=by unfold bitC;rw[h1,h2];rfl
theorem Zpl {c:UInt8} (h:((c.toNat:Int)==48)=true∨((c.toNat:Int)==49)=true):bitC c=true:=by
 unfold bitC;rcases h with h|h<;>simp[h]
theorem Za2 (s:ByteArray) (w:World):Calls Tryz.prog 82 #[.string s] w fun e w'=>e= .returned (.bool (Zan s))∧w=w':=by
 by_cases h2:(600:Int)<(s.size:Int)
 ·have hr:=Lib.hid (show Zan s=false by unfold Zan;rw[decide_eq_false (by omega)];rfl)
  go_enter Tryz.func82,Tryz.ntmps82
  go_wp2
  go_ret
  exact⟨Zav hr.out.symm,rfl⟩
 have hr:=Lib.hid (show Zan s=allS bitC s by unfold Zan;rw[decide_eq_true (by omega)];rfl)
 go_enter Tryz.func82,Tryz.ntmps82
 go_wp2
 go_loop [9] (fun i=>∃k:Nat,k≤s.size∧i= .int .i64 k∧allT bitC s k=true) (fun i=>s.size-(intOf i).toNat)
 case atStart=>exact⟨0,Nat.zero_le _,rfl,rfl⟩
 case round=>
  obtain⟨k,hk,rfl,hall⟩:=hrel
  have HA:=Lib.hid hall;clear hall
  by_cases hlt:k<s.size
  ·by_cases h3:((s[k].toNat:Int)==48)=true
   ·have h3':((s[k].toNat:Int) != 48)=false:=by simp[bne,h3]
    have HT:=Lib.hid (Zh0 hlt HA.out (Zpl (.inl h3)))
    clear h3
    go_wp2
    go_round
    case rel=>exact⟨k+1,by omega,by go_num,HT.out⟩
    case measure=>simp[intOf];omega
   ·have h3a:((s[k].toNat:Int)==48)=false:=by simpa using h3
    have h3':((s[k].toNat:Int) != 48)=true:=by simp[bne,h3a]
    clear h3
    by_cases h4:((s[k].toNat:Int)==49)=true
    ·have h4':((s[k].toNat:Int) != 49)=false:=by simp[bne,h4]
     have HT:=Lib.hid (Zh0 hlt HA.out (Zpl (.inr h4)))
     clear h4
     go_wp2
     go_round
     case rel=>exact⟨k+1,by omega,by go_num,HT.out⟩
     case measure=>simp[intOf];omega
    ·have h4a:((s[k].toNat:Int)==49)=false:=by simpa using h4
     have h4':((s[k].toNat:Int) != 49)=true:=by simp[bne,h4a]
     have HF:=Lib.hid (Ze7 hlt (Z1v h3a h4a))
     clear h4
     go_wp2
     go_ret
     exact⟨Zav (by rw[hr.out,HF.out]),rfl⟩
  ·go_wp2
   go_ret
   exact⟨Zav (by rw[hr.out,Zkq (by omega) HA.out]),rfl⟩
theorem Za0 (s:ByteArray) (w:World) (hs:s.size≤1099511627776):Calls Tryz.prog 107 #[.string s] w fun e w'=>e= .returned (.bool (Zan s))∧w=w':=by
 have hr:=Lib.hid (show Zan s=(decide (s.size≤600)&&allS bitC s)from rfl)
 go_enter Tryz.func107,Tryz.ntmps107
 go_wp2
 go_loop [3] (fun i=>∃k:Nat,k≤s.size∧i= .int .i64 k∧allT bitC s k=true) (fun i=>s.size-(intOf i).toNat)
 case atStart=>exact⟨0,Nat.zero_le _,rfl,rfl⟩
 case round=>
  obtain⟨k,hk,rfl,hall⟩:=hrel
  have HA:=Lib.hid hall;clear hall
  by_cases hlt:k<s.size
  ·by_cases h3:((s[k].toNat:Int)==48)=true
   ·have h3':((s[k].toNat:Int) != 48)=false:=by simp[bne,h3]
    have HT:=Lib.hid (Zh0 hlt HA.out (Zpl (.inl h3)))
    clear h3
    go_wp2
    go_round
    case rel=>exact⟨k+1,by omega,by go_num,HT.out⟩
    case measure=>simp[intOf];omega
   ·have h3a:((s[k].toNat:Int)==48)=false:=by simpa using h3
    have h3':((s[k].toNat:Int) != 48)=true:=by simp[bne,h3a]
    clear h3
    by_cases h4:((s[k].toNat:Int)==49)=true
    ·have h4':((s[k].toNat:Int) != 49)=false:=by simp[bne,h4]
     have HT:=Lib.hid (Zh0 hlt HA.out (Zpl (.inr h4)))
     clear h4
     go_wp2
     go_round
     case rel=>exact⟨k+1,by omega,by go_num,HT.out⟩
     case measure=>simp[intOf];omega
    ·have h4a:((s[k].toNat:Int)==49)=false:=by simpa using h4
     have h4':((s[k].toNat:Int) != 49)=true:=by simp[bne,h4a]
     have HF:=Lib.hid (Ze7 hlt (Z1v h3a h4a))
     clear h4
     go_wp2
     go_ret
     exact⟨Zav (by rw[hr.out,HF.out];simp),rfl⟩
  ·by_cases h5:s.size≤600
   all_goals
    go_wp2
    go_ret
    exact⟨Zav (by rw[hr.out,Zkq (by omega) HA.out];simp;try omega),rfl⟩
theorem Zcu (s:ByteArray) (w:World):Calls Tryz.prog 117 #[.string s] w fun e w'=>e= .returned (.bool (Zcq s))∧w=w':=by
 by_cases h:(s.size:Int)≤6
 ·have hr:=Lib.hid (show Zcq s=Zan s by unfold Zcq Zan;rw[decide_eq_true (by omega),decide_eq_true (by omega)])
  go_enter Tryz.func117,Tryz.ntmps117
  go_wp2_with fail
  refine(Za2 _ _).mono ?_;rintro e w' ⟨rfl,rfl⟩
  go_wp2_with fail
  go_ret
  exact⟨Zav hr.out.symm,rfl⟩
 ·have hr:=Lib.hid (show Zcq s=false by unfold Zcq;rw[decide_eq_false (by omega)];rfl)
  go_enter Tryz.func117,Tryz.ntmps117
  go_wp2_with fail
  go_ret
  exact⟨Zav hr.out.symm,rfl⟩
theorem Zkt (s:ByteArray) (w:World) (hs:s.size≤1099511627776):Calls Tryz.prog 186 #[.string s] w fun e w'=>e= .returned (.bool (Zcq s))∧w=w':=by
 by_cases h:(s.size:Int)≤6
 ·have hr:=Lib.hid (show Zcq s=Zan s by unfold Zcq Zan;rw[decide_eq_true (by omega),decide_eq_true (by omega)])
  by_cases h1:Zan s=true
  ·go_enter Tryz.func186,Tryz.ntmps186
   go_wp2_with fail
   refine(Za0 _ _ hs).mono ?_;rintro e w' ⟨rfl,rfl⟩
   go_wp2_with fail
   go_ret
   exact⟨Zav ((show _=true by simp;try omega).trans (hr.out.trans h1).symm),rfl⟩
  ·have h1':Zan s=false:=by simpa using h1
   clear h1
   go_enter Tryz.func186,Tryz.ntmps186
   go_wp2_with fail
   refine(Za0 _ _ hs).mono ?_;rintro e w' ⟨rfl,rfl⟩
   go_wp2_with fail
   go_ret
   exact⟨Zav (hr.out.trans h1').symm,rfl⟩
 ·have hr:=Lib.hid (show Zcq s=false by unfold Zcq;rw[decide_eq_false (by omega)];rfl)
  by_cases h1:Zan s=true
  ·go_enter Tryz.func186,Tryz.ntmps186
   go_wp2_with fail
   refine(Za0 _ _ hs).mono ?_;rintro e w' ⟨rfl,rfl⟩
   go_wp2_with fail
   go_ret
   exact⟨Zav (by rw[hr.out];simp;try omega),rfl⟩
  ·have h1':Zan s=false:=by simpa using h1
   clear h1
   go_enter Tryz.func186,Tryz.ntmps186
   go_wp2_with fail
   refine(Za0 _ _ hs).mono ?_;rintro e w' ⟨rfl,rfl⟩
   go_wp2_with fail
   go_ret
   exact⟨Zav hr.out.symm,rfl⟩
def stB (nm ph:ByteArray) (g l:Int):Bool:=Zdv nm&&Zcq ph&&inB g 0 1000&&inB l 1 20
theorem Zlt (n:Int) (w:World):Calls Tryz.prog 183 #[.int .i64 n] w fun e w'=>e= .returned (.bool (inB n 1 20))∧w=w':=by
 by_cases h1:1≤n<;>by_cases h2:n≤20<;>(
 go_enter Tryz.func183,Tryz.ntmps183
 go_wp2
 go_ret
 simp[h1,h2,inB])
theorem Zgd (n:Int) (w:World):Calls Tryz.prog 58 #[.int .i64 n] w fun e w'=>e= .returned (.bool (inB n 0 40))∧w=w':=by
 by_cases h1:0≤n<;>by_cases h2:n≤40<;>(
 go_enter Tryz.func58,Tryz.ntmps58
 go_wp2
 go_ret
 simp[h1,h2,inB])
theorem Zcc (nm ph:ByteArray) (g l:Int) (w:World):Calls Tryz.prog 115 #[.agg #[.string nm,.string ph,.int .i64 g,.int .i64 l]] w fun e w'=>e= .returned (.bool (stB nm ph g l))∧Below w.heap.size w w':=by
 have hb:Below w.heap.size w (w.alloc (.cells #[.string nm,.string ph,.int .i64 g,.int .i64 l] 37)):=(Below.refl _ _).alloc (Nat.le_refl _) _
 by_cases h1:Zdv nm=true
 ·by_cases h2:Zcq ph=true
  ·by_cases h3:0≤g
   ·by_cases h4:g≤1000
    ·have hr:=Lib.hid (show stB nm ph g l=inB l 1 20 by unfold stB;rw[h1,h2,Zax h3 h4];rfl)
     go_enter Tryz.func115,Tryz.ntmps115
     go_wp2_with fail
     refine(Zdi _ _).mono ?_;rintro e w' ⟨rfl,rfl⟩
     go_wp2_with fail
     refine(Zcu _ _).mono ?_;rintro e w' ⟨rfl,rfl⟩
     go_wp2_with fail
     refine(Zlt _ _).mono ?_;rintro e w' ⟨rfl,rfl⟩
     go_wp2_with fail
     go_ret
     exact⟨Zav hr.out.symm,hb⟩
    ·have hr:=Lib.hid (show stB nm ph g l=false by unfold stB;rw[Zma (show 1000<g by omega)];simp)
     go_enter Tryz.func115,Tryz.ntmps115
     go_wp2_with fail
     refine(Zdi _ _).mono ?_;rintro e w' ⟨rfl,rfl⟩
     go_wp2_with fail
     refine(Zcu _ _).mono ?_;rintro e w' ⟨rfl,rfl⟩
     go_wp2_with fail
     go_ret
     exact⟨Zav hr.out.symm,hb⟩
   ·have hr:=Lib.hid (show stB nm ph g l=false by unfold stB;rw[Zmo (show g<0 by omega)];simp)
    go_enter Tryz.func115,Tryz.ntmps115
    go_wp2_with fail
    refine(Zdi _ _).mono ?_;rintro e w' ⟨rfl,rfl⟩
    go_wp2_with fail
    refine(Zcu _ _).mono ?_;rintro e w' ⟨rfl,rfl⟩
    go_wp2_with fail
    go_ret
    exact⟨Zav hr.out.symm,hb⟩
  ·have h2':Zcq ph=false:=by simpa using h2
   have hr:=Lib.hid (show stB nm ph g l=false by unfold stB;rw[h2'];simp)
   clear h2
   go_enter Tryz.func115,Tryz.ntmps115
   go_wp2_with fail
   refine(Zdi _ _).mono ?_;rintro e w' ⟨rfl,rfl⟩
   go_wp2_with fail
   refine(Zcu _ _).mono ?_;rintro e w' ⟨rfl,rfl⟩
   go_wp2_with fail
   go_ret
   exact⟨Zav hr.out.symm,hb⟩
 ·have h1':Zdv nm=false:=by simpa using h1
  have hr:=Lib.hid (show stB nm ph g l=false by unfold stB;rw[h1'];simp)
  clear h1
  go_enter Tryz.func115,Tryz.ntmps115
  go_wp2_with fail
  refine(Zdi _ _).mono ?_;rintro e w' ⟨rfl,rfl⟩
  go_wp2_with fail
  go_ret
  exact⟨Zav hr.out.symm,hb⟩
theorem Zre (nm ph:ByteArray) (g l:Int) (w:World) (hn:nm.size≤1099511627776) (hp:ph.size≤1099511627776):Calls Tryz.prog 122 #[.agg #[.string nm,.string ph,.int .i64 g,.int .i64 l]] w fun e w'=>e= .returned (.bool (stB nm ph g l))∧Below w.heap.size w w':=by
 have hb:Below w.heap.size w (w.alloc (.cells #[.string nm,.string ph,.int .i64 g,.int .i64 l] 37)):=(Below.refl _ _).alloc (Nat.le_refl _) _
 by_cases h1:Zdv nm=true
 ·by_cases h2:Zcq ph=true
  ·by_cases h3:inB g 0 1000=true
   ·have hr:=Lib.hid (show stB nm ph g l=inB l 1 20 by unfold stB;rw[h1,h2,h3];rfl)
    go_enter Tryz.func122,Tryz.ntmps122
    go_wp2_with fail
    refine(Zge _ _ hn).mono ?_;rintro e w' ⟨rfl,rfl⟩
    go_wp2_with fail
    refine(Zkt _ _ hp).mono ?_;rintro e w' ⟨rfl,rfl⟩
    go_wp2_with fail
    refine(Zbq _ _ _ _).mono ?_;rintro e w' ⟨rfl,rfl⟩
    go_wp2_with fail
    refine(Zbq _ _ _ _).mono ?_;rintro e w' ⟨rfl,rfl⟩
    go_wp2_with fail
    go_ret
    exact⟨Zav hr.out.symm,hb⟩
   ·have h3':inB g 0 1000=false:=by simpa using h3
    have hr:=Lib.hid (show stB nm ph g l=false by unfold stB;rw[h3'];simp)
    clear h3
    go_enter Tryz.func122,Tryz.ntmps122
    go_wp2_with fail
    refine(Zge _ _ hn).mono ?_;rintro e w' ⟨rfl,rfl⟩
    go_wp2_with fail
    refine(Zkt _ _ hp).mono ?_;rintro e w' ⟨rfl,rfl⟩
    go_wp2_with fail
    refine(Zbq _ _ _ _).mono ?_;rintro e w' ⟨rfl,rfl⟩
    go_wp2_with fail
    go_ret
    exact⟨Zav hr.out.symm,hb⟩
  ·have h2':Zcq ph=false:=by simpa using h2
   have hr:=Lib.hid (show stB nm ph g l=false by unfold stB;rw[h2'];simp)
   clear h2
   go_enter Tryz.func122,Tryz.ntmps122
   go_wp2_with fail
   refine(Zge _ _ hn).mono ?_;rintro e w' ⟨rfl,rfl⟩
   go_wp2_with fail
   refine(Zkt _ _ hp).mono ?_;rintro e w' ⟨rfl,rfl⟩
   go_wp2_with fail
   go_ret
   exact⟨Zav hr.out.symm,hb⟩
 ·have h1':Zdv nm=false:=by simpa using h1
  have hr:=Lib.hid (show stB nm ph g l=false by unfold stB;rw[h1'];simp)
  clear h1
  go_enter Tryz.func122,Tryz.ntmps122
  go_wp2_with fail
  refine(Zge _ _ hn).mono ?_;rintro e w' ⟨rfl,rfl⟩
  go_wp2_with fail
  go_ret
  exact⟨Zav hr.out.symm,hb⟩
theorem Ze9 {nm ph:ByteArray} {g l:Int} (h:stB nm ph g l=true):(0≤g∧g≤1000)∧(1≤l∧l≤20):=by
 unfold stB at h
 simp only[Bool.and_eq_true]at h
 exact⟨inB_iff.1 h.1.2,inB_iff.1 h.2⟩
def Z63 (nm ph:ByteArray) (g l:Int):Int:=if stB nm ph g l=true then g/l else -1
def Zor (nm ph:ByteArray) (g l t:Int):Int:=if(stB nm ph g l&&inB t 0 40)=true then min (t*l) 1000 else -1
theorem Zady {nm ph:ByteArray} {g l:Int} (h:stB nm ph g l=false):Z63 nm ph g l= -1:=by simp[Z63,h]
theorem Zx0 {nm ph:ByteArray} {g l:Int} (h:stB nm ph g l=true):Z63 nm ph g l=g/l:=by simp[Z63,h]
theorem Z5l {nm ph:ByteArray} {g l t:Int} (h:stB nm ph g l=false):Zor nm ph g l t= -1:=by simp[Zor,h]
theorem Z5t {nm ph:ByteArray} {g l t:Int} (h:inB t 0 40=false):Zor nm ph g l t= -1:=by simp[Zor,h]
theorem Ztq {nm ph:ByteArray} {g l t:Int} (h:stB nm ph g l=true) (h':inB t 0 40=true):Zor nm ph g l t=min (t*l) 1000:=by simp[Zor,h,h']
theorem Zxq (nm ph:ByteArray) (g l:Int) (w:World):Calls Tryz.prog 48 #[.agg #[.string nm,.string ph,.int .i64 g,.int .i64 l]] w fun e w'=>e= .returned (.int .i64 (Z63 nm ph g l))∧Below w.heap.size w w':=by
 have hb:Below w.heap.size w (w.alloc (.cells #[.string nm,.string ph,.int .i64 g,.int .i64 l] 37)):=(Below.refl _ _).alloc (Nat.le_refl _) _
 have hB:=Box.new w #[.string nm,.string ph,.int .i64 g,.int .i64 l] 37
 have hlt:=Lib.hid hB.lt
 by_cases h:stB nm ph g l=true
 ·obtain⟨hg,hl⟩:=Ze9 h
  have hr:=Lib.hid (Zx0 h)
  have hne:(l==0)=false:=by simp;omega
  go_enter Tryz.func48,Tryz.ntmps48
  go_wp2_with fail
  refine(Zcc _ _ _ _ _).mono ?_;rintro e w1 ⟨rfl,hb1⟩
  have c2:=(hB.below hb1 hlt.out).cell (i:=2) rfl
  have c3:=(hB.below hb1 hlt.out).cell (i:=3) rfl
  have hb2:=hb.trans (hb1.mono (by simp))
  clear hB
  go_wp2_with fail
  go_ret
  exact⟨Zd6 hr.out.symm,hb2⟩
 ·have h':stB nm ph g l=false:=by simpa using h
  have hr:=Lib.hid (Zady h')
  clear h
  go_enter Tryz.func48,Tryz.ntmps48
  go_wp2_with fail
  refine(Zcc _ _ _ _ _).mono ?_;rintro e w1 ⟨rfl,hb1⟩
  have hb2:=hb.trans (hb1.mono (by simp))
  go_wp2_with fail
  go_ret
  exact⟨Zd6 hr.out.symm,hb2⟩
theorem Z0h (nm ph:ByteArray) (g l t:Int) (w:World):Calls Tryz.prog 59 #[.agg #[.string nm,.string ph,.int .i64 g,.int .i64 l],.int .i64 t] w fun e w'=>e= .returned (.int .i64 (Zor nm ph g l t))∧Below w.heap.size w w':=by
 have hb:Below w.heap.size w (w.alloc (.cells #[.string nm,.string ph,.int .i64 g,.int .i64 l] 37)):=(Below.refl _ _).alloc (Nat.le_refl _) _
 have hB:=Box.new w #[.string nm,.string ph,.int .i64 g,.int .i64 l] 37
 have hlt:=Lib.hid hB.lt
 by_cases h:stB nm ph g l=true
 ·by_cases h2:inB t 0 40=true
  ·obtain⟨hg,hl⟩:=Ze9 h
   have ht:=inB_iff.1 h2
   have hr:=Lib.hid (Ztq h h2)
   have hp0:0≤t*l:=Int.mul_nonneg ht.1 (by omega)
   have hp1:t*l≤40*20:=Int.mul_le_mul ht.2 hl.2 (by omega) (by omega)
   go_enter Tryz.func59,Tryz.ntmps59
   go_wp2_with fail
   refine(Zcc _ _ _ _ _).mono ?_;rintro e w1 ⟨rfl,hb1⟩
   have c3:=(hB.below hb1 hlt.out).cell (i:=3) rfl
   have hb2:=hb.trans (hb1.mono (by simp))
   clear hB
   go_wp2_with fail
   refine(Zgd _ _).mono ?_;rintro e w' ⟨rfl,rfl⟩
   go_wp2_with fail
   go_ret
   all_goals exact⟨Zd6 (by rw[hr.out];omega),hb2⟩
  ·have h2':inB t 0 40=false:=by simpa using h2
   have hr:=Lib.hid (Z5t (nm:=nm) (ph:=ph) (g:=g) (l:=l) h2')
   clear h2
   go_enter Tryz.func59,Tryz.ntmps59
   go_wp2_with fail
   refine(Zcc _ _ _ _ _).mono ?_;rintro e w1 ⟨rfl,hb1⟩
   have hb2:=hb.trans (hb1.mono (by simp))
   go_wp2_with fail
   refine(Zgd _ _).mono ?_;rintro e w' ⟨rfl,rfl⟩
   go_wp2_with fail
   go_ret
   exact⟨Zd6 hr.out.symm,hb2⟩
 ·have h':stB nm ph g l=false:=by simpa using h
  have hr:=Lib.hid (Z5l (t:=t) h')
  clear h
  go_enter Tryz.func59,Tryz.ntmps59
  go_wp2_with fail
  refine(Zcc _ _ _ _ _).mono ?_;rintro e w1 ⟨rfl,hb1⟩
  have hb2:=hb.trans (hb1.mono (by simp))
  go_wp2_with fail
  go_ret
  exact⟨Zd6 hr.out.symm,hb2⟩
theorem Zs0 (n:Int) (w:World):Calls Tryz.prog 290 #[.int .i64 n] w fun e w'=>e= .returned (.bool (inB n 0 40))∧w=w':=by
 go_enter Tryz.func290,Tryz.ntmps290
 go_wp2_with fail
 refine(Zbq _ _ _ _).mono ?_;rintro e w' ⟨rfl,rfl⟩
 go_wp2_with fail
 go_ret
 exact⟨rfl,rfl⟩
theorem Zadp (nm ph:ByteArray) (g l t:Int) (w:World) (ht:0≤t∧t≤40) (hl:1≤l∧l≤20):Calls Tryz.prog 291 #[.agg #[.string nm,.string ph,.int .i64 g,.int .i64 l],.int .i64 t] w fun e w'=>e= .returned (.int .i64 (min (t*l) 1000))∧Below w.heap.size w w':=by
 have hb:Below w.heap.size w (w.alloc (.cells #[.string nm,.string ph,.int .i64 g,.int .i64 l] 37)):=(Below.refl _ _).alloc (Nat.le_refl _) _
 have hp0:0≤t*l:=Int.mul_nonneg ht.1 (by omega)
 have hp1:t*l≤40*20:=Int.mul_le_mul ht.2 hl.2 (by omega) (by omega)
 go_enter Tryz.func291,Tryz.ntmps291
 go_wp2
 all_goals (go_ret;exact⟨Zd6 (by omega),hb⟩)
theorem Zop (n:Int) (w:World):Calls Tryz.prog 85 #[.int .i64 n] w fun e w'=>e= .returned (.bool (inB n 0 300))∧w=w':=by
 by_cases h1:0≤n<;>by_cases h2:n≤300<;>(
 go_enter Tryz.func85,Tryz.ntmps85
 go_wp2
 go_ret
 simp[h1,h2,inB])
theorem Z2m (k n:Int) (hn:0<n):(if k.tmod n<0 then k.tmod n+n else k.tmod n)=k%n:=by
 rcases Int.lt_or_le k 0 with h|h
 ·obtain⟨j,rfl⟩:∃j:Int,k= -j:=⟨-k,by omega⟩
  have hj:0<j:=by omega
  rw[Int.neg_tmod,Int.tmod_eq_emod_of_nonneg (by omega)]
  have h1:=Int.emod_nonneg j (show n≠0 by omega)
  have h2:=Int.emod_lt_of_pos j hn
  have h3:=Int.emod_nonneg (-j) (show n≠0 by omega)
  have h4:=Int.emod_lt_of_pos (-j) hn
  have h5:=Int.mul_ediv_add_emod j n
  have h6:=Int.mul_ediv_add_emod (-j) n
  have h7:n*(j/n+(-j)/n)= -(j%n+(-j)%n):=by rw[Int.mul_add];omega
  rcases Int.lt_or_le 0 (j%n)with h8|h8
  ·rw[if_pos (by omega)]
   have hq:j/n+(-j)/n= -1:=by
    rcases Int.lt_trichotomy (j/n+(-j)/n) (-1)with h9|h9|h9
    ·have:n*(j/n+(-j)/n)≤n*(-2):=Int.mul_le_mul_of_nonneg_left (by omega) (by omega)
     omega
    ·exact h9
    ·have:n*0≤n*(j/n+(-j)/n):=Int.mul_le_mul_of_nonneg_left (by omega) (by omega)
     omega
   rw[hq]at h7
   omega
  ·rw[if_neg (by omega)]
   have hq:j/n+(-j)/n=0:=by
    rcases Int.lt_trichotomy (j/n+(-j)/n) 0 with h9|h9|h9
    ·have:n*(j/n+(-j)/n)≤n*(-1):=Int.mul_le_mul_of_nonneg_left (by omega) (by omega)
     omega
    ·exact h9
    ·have:n*1≤n*(j/n+(-j)/n):=Int.mul_le_mul_of_nonneg_left (by omega) (by omega)
     omega
   rw[hq]at h7
   omega
 ·rw[Int.tmod_eq_emod_of_nonneg h,if_neg (by have:=Int.emod_nonneg k (show n≠0 by omega);omega)]
theorem Z1m (k n:Int) (hn:0<n): -n<k.tmod n∧k.tmod n<n:=⟨Int.lt_tmod_of_pos k hn,Int.tmod_lt_of_pos k hn⟩
theorem Z8s (k n:Int) (hn:0<n):(k.tmod n+n).tmod n=k%n:=by
 have h:=Z2m k n hn
 have hb:=Z1m k n hn
 have h1:=Int.emod_nonneg k (show n≠0 by omega)
 have h2:=Int.emod_lt_of_pos k hn
 rw[Int.tmod_eq_emod_of_nonneg (by omega),Int.add_emod_right]
 by_cases h3:k.tmod n<0
 ·rw[if_pos h3]at h
  rw[←h,←Int.add_emod_right,Int.emod_eq_of_lt (by rw[h];exact h1) (by rw[h];exact h2)]
 ·rw[if_neg h3]at h
  rw[h,Int.emod_eq_of_lt h1 h2]
theorem Zwf (k n:Int) (w:World) (hn:0<n) (hm:n≤1099511627776):Calls Tryz.prog 90 #[.int .i64 k,.int .i64 n] w fun e w'=>e= .returned (.int .i64 (k%n))∧w=w':=by
 have h:=Z2m k n hn
 have hb:=Z1m k n hn
 have hne:(n==0)=false:=by simp;omega
 by_cases h3:k.tmod n<0
 ·rw[if_pos h3]at h
  have H:=Lib.hid h;clear h
  go_enter Tryz.func90,Tryz.ntmps90
  go_wp2
  go_ret
  exact⟨Zd6 H.out,rfl⟩
 ·rw[if_neg h3]at h
  have H:=Lib.hid h;clear h
  go_enter Tryz.func90,Tryz.ntmps90
  go_wp2
  go_ret
  exact⟨Zd6 H.out,rfl⟩
theorem Z7x (k n:Int) (w:World) (hn:0<n) (hm:n≤1099511627776):Calls Tryz.prog 173 #[.int .i64 k,.int .i64 n] w fun e w'=>e= .returned (.int .i64 (k%n))∧w=w':=by
 have h0:=Z8s k n hn
 have hb:=Z1m k n hn
 have hne:(n==0)=false:=by simp;omega
 rw[Int.tmod_eq_emod_of_nonneg (a:=k.tmod n+n) (by omega)]at h0
 have h:=Lib.hid h0;clear h0
 go_enter Tryz.func173,Tryz.ntmps173
 go_wp2
 go_ret
 exact⟨Zd6 h.out,rfl⟩
end Go.Proofs.YtcjihfongfefoaaGreatDoor
