/- Cl Cv Cx Cy -/
import Derived.Test.YtcjihfongfefoaaGreatDoorJ02
import Derived.Laws.OwnMore
namespace Go.Proofs.YtcjihfongfefoaaGreatDoor
open Go.RowKit
set_option maxHeartbeats 25600000
set_option maxRecDepth 100000
structure Stn where
 nm:ByteArray
 ph:ByteArray
 g:Int
 l:Int
deriving DecidableEq
instance:Inhabited Stn:=⟨⟨ByteArray.empty,ByteArray.empty,0,0⟩⟩
def Stn.vals (s:Stn):List Value:=[.string s.nm,.string s.ph,.int .i64 s.g,.int .i64 s.l]
def Zbe (l:List Stn):List Value:=l.flatMap Stn.vals
theorem Zcb (l:List Stn):(Zbe l).length=l.length*4:=by
 induction l with
 |nil=>rfl
 |cons s l ih=>simp only[Zbe,List.flatMap_cons,List.length_append,List.length_cons]at*;rw[ih];simp[Stn.vals];omega
theorem Zb6 (l:List Stn) (i r:Nat) (hr:r<4):(Zbe l)[i*4+r]?=l[i]?.bind fun s=>s.vals[r]?:=by
 induction l generalizing i with
 |nil=>simp[Zbe]
 |cons s l ih=>
  have e:Zbe (s::l)=s.vals++Zbe l:=rfl
  have hl:s.vals.length=4:=rfl
  rw[e]
  cases i with
  |zero=>rw[List.getElem?_append_left (by omega)];simp
  |succ i=>rw[List.getElem?_append_right (by omega),hl,show(i+1)*4+r-4=i*4+r from by omega,ih];simp
theorem Zj5 {l:List Stn} {i:Nat} (hi:i<l.length):(Zbe l)[i*4]?=some (.string l[i].nm)∧(Zbe l)[i*4+1]?=some (.string l[i].ph)∧(Zbe l)[i*4+2]?=some (.int .i64 l[i].g)∧(Zbe l)[i*4+3]?=some (.int .i64 l[i].l):=by
 refine⟨?_,?_,?_,?_⟩
 ·have:=Zb6 l i 0 (by omega);simpa[hi,Stn.vals]using this
 ·have:=Zb6 l i 1 (by omega);simpa[hi,Stn.vals]using this
 ·have:=Zb6 l i 2 (by omega);simpa[hi,Stn.vals]using this
 ·have:=Zb6 l i 3 (by omega);simpa[hi,Stn.vals]using this
theorem Zti {l:List Stn} {k:Nat} (s:Stn) (hk:k<l.length):
 ((((Zbe l).set (k*4) (.string s.nm)).set (k*4+1) (.string s.ph)).set (k*4+2) (.int .i64 s.g)).set (k*4+3) (.int .i64 s.l)=Zbe (l.set k s):=by
 apply List.ext_getElem?
 intro j
 obtain⟨i,r,hr,rfl⟩:∃i r,r<4∧j=i*4+r:=⟨j/4,j%4,Nat.mod_lt _ (by omega),by omega⟩
 rw[Zb6 _ _ _ hr,List.getElem?_set,List.getElem?_set,List.getElem?_set,List.getElem?_set,Zb6 _ _ _ hr]
 simp only[List.length_set,Zcb,List.getElem?_set]
 by_cases h:k=i
 ·subst h
  rw[if_pos rfl,if_pos hk]
  rcases(by omega:r=0∨r=1∨r=2∨r=3)with rfl|rfl|rfl|rfl
  ·rw[if_neg (by omega),if_neg (by omega),if_neg (by omega),if_pos (by omega),if_pos (by omega)];rfl
  ·rw[if_neg (by omega),if_neg (by omega),if_pos (by omega),if_pos (by omega)];rfl
  ·rw[if_neg (by omega),if_pos (by omega),if_pos (by omega)];rfl
  ·rw[if_pos (by omega),if_pos (by omega)];rfl
 ·rw[if_neg h,if_neg (by omega),if_neg (by omega),if_neg (by omega),if_neg (by omega)]
theorem Zi2 {α:Type} {l r:List α} {k:Nat} (hk:k<l.length) (hr:r.length=l.length):(l.take k++r.drop k).set k l[k]=l.take (k+1)++r.drop (k+1):=by
 rw[List.set_append_right _ _ (by rw[List.length_take];omega)]
 rw[List.length_take,Nat.min_eq_left (by omega),Nat.sub_self,List.take_succ_eq_append_getElem hk,List.append_assoc,List.drop_eq_getElem_cons (by omega)]
 rfl
def RdS (w:World) (ao:Option Addr) (n:Nat) (l:List Stn):Prop:=
 n=l.length∧n≤1099511627776∧∀i (hi:i<l.length),∃b off,ao=some ⟨b,off,none⟩∧w.cell? ⟨b,off+i*4,none⟩=some (.string l[i].nm)∧w.cell? ⟨b,off+i*4+1,none⟩=some (.string l[i].ph)∧
  w.cell? ⟨b,off+i*4+2,none⟩=some (.int .i64 l[i].g)∧w.cell? ⟨b,off+i*4+3,none⟩=some (.int .i64 l[i].l)
theorem RdS.below {w w':World} {ao:Option Addr} {n:Nat} {l:List Stn} (h:RdS w ao n l) (hb:Below w.heap.size w w'):RdS w' ao n l:=by
 refine⟨h.1,h.2.1,fun i hi=>?_⟩
 obtain⟨b,off,h1,h2,h3,h4,h5⟩:=h.2.2 i hi
 exact⟨b,off,h1,by rw[hb.cell (Zaa h2)];exact h2,by rw[hb.cell (Zaa h3)];exact h3,by rw[hb.cell (Zaa h4)];exact h4,by rw[hb.cell (Zaa h5)];exact h5⟩
theorem RdS.qw {w w':World} {ao:Option Addr} {n:Nat} {l:List Stn} (h:RdS w ao n l) (hq:Qw w w'):RdS w' ao n l:=h.below (hq.below _)
theorem RdS.nil (w:World):RdS w none 0 []:=⟨rfl,by omega,fun i hi=>absurd hi (by simp)⟩
theorem RdS.at {w:World} {ao:Option Addr} {n:Nat} {l:List Stn} (h:RdS w ao n l) {i:Nat} (hi:i<n):
 ∃b off,ao=some ⟨b,off,none⟩∧∃hl:i<l.length,w.cell? ⟨b,off+i*4,none⟩=some (.string (l[i]'hl).nm)∧w.cell? ⟨b,off+i*4+1,none⟩=some (.string (l[i]'hl).ph)∧
  w.cell? ⟨b,off+i*4+2,none⟩=some (.int .i64 (l[i]'hl).g)∧w.cell? ⟨b,off+i*4+3,none⟩=some (.int .i64 (l[i]'hl).l):=by
 have hl:i<l.length:=by rw[←h.1];exact hi
 obtain⟨b,off,h1,h2⟩:=h.2.2 i hl
 exact⟨b,off,h1,hl,h2⟩
theorem RdS.lt {w:World} {ao:Option Addr} {n:Nat} {l:List Stn} (h:RdS w ao n l):∀b,ao=some b→0<n→b.block<w.heap.size:=by
 intro b hb hn
 obtain⟨k,off,h1,_,h2,_⟩:=h.at hn
 rw[hb]at h1
 cases h1
 exact Zaa h2
def OwnS (w:World) (lo:Nat) (ao:Option Addr) (n c:Nat) (l:List Stn):Prop:=
 n=l.length∧n≤1099511627776∧w.ownsRow lo 37 4 (.slice ao n c) n (Zbe l)
theorem OwnS.rd {w:World} {lo:Nat} {ao:Option Addr} {n c:Nat} {l:List Stn} (h:OwnS w lo ao n c l):RdS w ao n l:=by
 obtain⟨hn,hs,hown⟩:=h
 refine⟨hn,hs,fun i hi=>?_⟩
 rcases hown.2 with ⟨h1,h2⟩|⟨g,cap,cur,hv,hr⟩
 ·omega
 ·cases hv
  obtain⟨c0,c1,c2,c3⟩:=Zj5 hi
  refine⟨g,0,rfl,?_,?_,?_,?_⟩
  ·rw[Nat.zero_add,hown.cellAt _ (by omega)];exact c0
  ·rw[Nat.zero_add,hown.cellAt _ (by omega)];exact c1
  ·rw[Nat.zero_add,hown.cellAt _ (by omega)];exact c2
  ·rw[Nat.zero_add,hown.cellAt _ (by omega)];exact c3
theorem OwnS.below {w w':World} {lo:Nat} {ao:Option Addr} {n c:Nat} {l:List Stn} (h:OwnS w lo ao n c l) (hb:Below w.heap.size w w'):OwnS w' lo ao n c l:=
 ⟨h.1,h.2.1,Zam h.2.2 hb fun k hk=>(h.2.2.lt k hk).2⟩
theorem OwnS.lt {w:World} {lo:Nat} {ao:Option Addr} {n c:Nat} {l:List Stn} (h:OwnS w lo ao n c l):∀b,ao=some b→lo≤b.block∧b.block<w.heap.size:=by
 intro b hb
 exact h.2.2.lt b.block (by rw[Zhr,hb];rfl)
theorem Zke:(Tryz.prog.info? 37).map (fun i=>(i.zero,i.size,i.bytes))=some (some (.agg #[.string ByteArray.empty,.string ByteArray.empty,.int .i64 0,.int .i64 0]),4,48):=by kernel_rfl
def zstn:Stn:=⟨ByteArray.empty,ByteArray.empty,0,0⟩
theorem Zu4 (n:Nat):(madeCells (Value.agg #[.string ByteArray.empty,.string ByteArray.empty,.int .i64 0,.int .i64 0]).cells (n*4)).toList=Zbe (List.replicate n zstn):=by
 apply List.ext_getElem?
 intro j
 obtain⟨i,r,hr,rfl⟩:∃i r,r<4∧j=i*4+r:=⟨j/4,j%4,Nat.mod_lt _ (by omega),by omega⟩
 rw[Zb6 _ _ _ hr]
 have e4:(Value.agg #[.string ByteArray.empty,.string ByteArray.empty,.int .i64 0,.int .i64 0]).cells= #[.string ByteArray.empty,.string ByteArray.empty,.int .i64 0,.int .i64 0]:=rfl
 rw[e4]
 by_cases h:i<n
 ·have h2:i*4+r<n*4:=by omega
  have h3:(i*4+r)%4=r:=by omega
  simp only[madeCells,Array.toList_map,List.getElem?_map,Array.toList_range,List.getElem?_range h2,Option.map_some,List.getElem?_replicate,if_pos h,Option.bind_some]
  rcases(by omega:r=0∨r=1∨r=2∨r=3)with rfl|rfl|rfl|rfl<;>simp[h3,zstn,Stn.vals]
 ·have h2:¬i*4+r<n*4:=by omega
  simp[madeCells,h,h2]
theorem Zer {w:World} {lo g n c:Nat} {M:List Stn} (h:w.ownsRow lo 37 4 (.slice (some ⟨g,0,none⟩) n c) n (Zbe M)) {k:Nat} (hk:k<n):
 (∃a b x y,w.cell? ⟨g,k*4,none⟩=some (.string a)∧w.cell? ⟨g,k*4+1,none⟩=some (.string b)∧w.cell? ⟨g,k*4+2,none⟩=some (.int .i64 x)∧w.cell? ⟨g,k*4+3,none⟩=some (.int .i64 y))∧
 w.frozen? ⟨g,k*4,none⟩=false∧w.frozen? ⟨g,k*4+1,none⟩=false∧w.frozen? ⟨g,k*4+2,none⟩=false∧w.frozen? ⟨g,k*4+3,none⟩=false:=by
 have hl:k<M.length:=by have:=h.1;rw[Zcb]at this;omega
 obtain⟨d0,d1,d2,d3⟩:=Zj5 hl
 refine⟨⟨M[k].nm,M[k].ph,M[k].g,M[k].l,?_,?_,?_,?_⟩,h.frozenAt _,h.frozenAt _,h.frozenAt _,h.frozenAt _⟩
 ·rw[h.cellAt _ (by omega)];exact d0
 ·rw[h.cellAt _ (by omega)];exact d1
 ·rw[h.cellAt _ (by omega)];exact d2
 ·rw[h.cellAt _ (by omega)];exact d3
theorem Zvj {w:World} {lo g n c:Nat} {M:List Stn} (h:w.ownsRow lo 37 4 (.slice (some ⟨g,0,none⟩) n c) n (Zbe M)) {k:Nat} (hk:k<n) (s:Stn):
 ((((w.setCell ⟨g,k*4,none⟩ (.string s.nm)).setCell ⟨g,k*4+1,none⟩ (.string s.ph)).setCell ⟨g,k*4+2,none⟩ (.int .i64 s.g)).setCell ⟨g,k*4+3,none⟩ (.int .i64 s.l)).ownsRow lo 37 4 (.slice (some ⟨g,0,none⟩) n c) n (Zbe (M.set k s)):=by
 have hl:k<M.length:=by have:=h.1;rw[Zcb]at this;omega
 rw[←Zti s hl]
 exact((((h.stored (k*4) (.string s.nm)).1.stored (k*4+1) (.string s.ph)).1.stored (k*4+2) (.int .i64 s.g)).1.stored (k*4+3) (.int .i64 s.l)).1
def Zru (s t:ByteArray):Bool:=decide (t.size≤s.size)&&((s.extract 0 t.size).toList==t.toList)
def Zen (p q:ByteArray):Bool:=(p.extract 0 (min p.size q.size)).toList==(q.extract 0 (min p.size q.size)).toList
theorem Zfb (p:ByteArray):p.extract 0 p.size=p:=by
 apply ByteArray.ext;simp
theorem Zkp (p q:ByteArray):Zen p q=(Zru p q||Zru q p):=by
 unfold Zen Zru
 rcases Nat.lt_trichotomy p.size q.size with h|h|h
 ·rw[Nat.min_eq_left (by omega),Zfb,decide_eq_false (by omega),decide_eq_true (by omega)]
  simp only[Bool.false_and,Bool.false_or,Bool.true_and]
  exact Bool.beq_comm ..
 ·rw[h,Nat.min_self,Zfb,←h,Zfb,decide_eq_true (Nat.le_refl _)]
  simp only[Bool.true_and]
  rw[Bool.beq_comm (a:=q.toList),Bool.or_self]
 ·rw[Nat.min_eq_right (by omega),Zfb,decide_eq_true (by omega),decide_eq_false (by omega)]
  simp
theorem Zli (s t:ByteArray) (w:World):Calls Tryz.prog 168 #[.string s,.string t] w fun e w'=>e= .returned (.bool (Zru s t))∧w=w':=by
 by_cases h:t.size≤s.size
 ·have hr:=Lib.hid (show Zru s t=((s.extract 0 t.size).toList==t.toList)by unfold Zru;rw[decide_eq_true h];rfl)
  go_enter Tryz.func168,Tryz.ntmps168
  go_wp2
  go_ret
  exact⟨Zav hr.out.symm,rfl⟩
 ·have hr:=Lib.hid (show Zru s t=false by unfold Zru;rw[decide_eq_false h];rfl)
  go_enter Tryz.func168,Tryz.ntmps168
  go_wp2
  go_ret
  exact⟨Zav hr.out.symm,rfl⟩
theorem Zj7 (s t:ByteArray) (w:World) (hs:s.size≤1099511627776) (ht:t.size≤1099511627776):Calls Tryz.prog 123 #[.string s,.string t] w fun e w'=>e= .returned (.bool (Zen s t))∧Qw w w':=by
 by_cases h:t.size<s.size
 ·have hr:=Lib.hid (show Zen s t=((s.extract 0 t.size).toList==t.toList)by unfold Zen;rw[Nat.min_eq_right (by omega),Zfb t])
  go_enter Tryz.func123,Tryz.ntmps123
  go_wp2
  go_quiet (fail)
  go_wp2
  go_ret
  exact⟨Zav hr.out.symm,Qw.drewN _ _⟩
 ·have hr:=Lib.hid (show Zen s t=(s.toList==(t.extract 0 s.size).toList)by unfold Zen;rw[Nat.min_eq_left (by omega),Zfb s])
  go_enter Tryz.func123,Tryz.ntmps123
  go_wp2
  go_quiet (fail)
  go_wp2
  go_ret
  exact⟨Zav hr.out.symm,Qw.drewN _ _⟩
theorem Zfg (s t:ByteArray) (w:World) (h1:Zcq s=true) (h2:Zcq t=true):Calls Tryz.prog 116 #[.string s,.string t] w fun e w'=>e= .returned (.bool (Zen s t))∧w=w':=by
 by_cases h:Zru s t=true
 ·have hr:=Lib.hid (show Zen s t=true by rw[Zkp,h];rfl)
  go_enter Tryz.func116,Tryz.ntmps116
  go_wp2_with fail
  refine(Zcu _ _).mono ?_;rintro e w' ⟨rfl,rfl⟩
  go_wp2_with fail
  refine(Zcu _ _).mono ?_;rintro e w' ⟨rfl,rfl⟩
  go_wp2_with fail
  refine(Zli _ _ _).mono ?_;rintro e w' ⟨rfl,rfl⟩
  go_wp2_with fail
  go_ret
  exact⟨Zav hr.out.symm,rfl⟩
 ·have h':Zru s t=false:=by simpa using h
  have hr:=Lib.hid (show Zen s t=Zru t s by rw[Zkp,h'];rfl)
  clear h
  go_enter Tryz.func116,Tryz.ntmps116
  go_wp2_with fail
  refine(Zcu _ _).mono ?_;rintro e w' ⟨rfl,rfl⟩
  go_wp2_with fail
  refine(Zcu _ _).mono ?_;rintro e w' ⟨rfl,rfl⟩
  go_wp2_with fail
  refine(Zli _ _ _).mono ?_;rintro e w' ⟨rfl,rfl⟩
  go_wp2_with fail
  refine(Zli _ _ _).mono ?_;rintro e w' ⟨rfl,rfl⟩
  go_wp2_with fail
  go_ret
  exact⟨Zav hr.out.symm,rfl⟩
def idxS (l:List Stn) (nm:ByteArray):Int:=match l.findIdx? (fun s=>s.nm.toList==nm.toList)with|some i=>(i:Int)|none=> -1
theorem Z0k {l:List Stn} {nm:ByteArray} {k:Nat} (hk:k<l.length) (h:∀j (_:j<k),(l[j].nm.toList==nm.toList)=false) (h1:(l[k].nm.toList==nm.toList)=true):idxS l nm=k:=by
 unfold idxS
 have:l.findIdx? (fun s=>s.nm.toList==nm.toList)=some k:=by
  rw[List.findIdx?_eq_some_iff_getElem]
  exact⟨hk,h1,fun j hj=>by simpa using h j hj⟩
 rw[this]
theorem Z9x {l:List Stn} {nm:ByteArray} (h:∀j (_:j<l.length),(l[j].nm.toList==nm.toList)=false):idxS l nm= -1:=by
 unfold idxS
 have:l.findIdx? (fun s=>s.nm.toList==nm.toList)=none:=by
  rw[List.findIdx?_eq_none_iff]
  intro x hx
  obtain⟨j,hj,rfl⟩:=List.getElem_of_mem hx
  exact h j hj
 rw[this]
theorem Zbu {ao:Option Addr} {n c:Nat} {l:List Stn} {w:World} (nm:ByteArray) (h:RdS w ao n l):
 Calls Tryz.prog 56 #[.slice ao n c,.string nm] w fun e w'=>e= .returned (.int .i64 (idxS l nm))∧Below w.heap.size w w':=by
 have hs:=h.2.1
 have HN:=Lib.hid h.1
 go_enter Tryz.func56,Tryz.ntmps56
 go_wp2
 go_loopw [9] (fun i wr=>∃k:Nat,k≤n∧i= .int .i64 k∧(∀j (_:j<k) (hj:j<l.length),(l[j].nm.toList==nm.toList)=false)∧Below w.heap.size w wr) (fun i _=>n-(intOf i).toNat)
 case atStart=>exact⟨0,Nat.zero_le _,rfl,fun j hj=>absurd hj (by omega),Below.refl _ _⟩
 case round=>
  obtain⟨k,hk,rfl,hno,hb⟩:=hrel
  have HO:=Lib.hid hno;clear hno
  by_cases hlt:k<n
  ·obtain⟨bk,off,rfl,hl,hc0,hc1,hc2,hc3⟩:=(h.below hb).at hlt
   have hb2:Below w.heap.size w (wr.alloc (.cells #[.string l[k].nm,.string l[k].ph,.int .i64 l[k].g,.int .i64 l[k].l] 37)):=hb.alloc hb.size _
   clear h
   by_cases h3:(l[k].nm.toList==nm.toList)=true
   ·have hr:=Lib.hid (Z0k hl (fun j hj=>HO.out j hj (by omega)) h3)
    go_wp2_with fail
    go_ret
    exact⟨Zd6 hr.out.symm,hb2⟩
   ·have h3':(l[k].nm.toList==nm.toList)=false:=by simpa using h3
    clear h3
    go_wp2_with fail
    go_roundw
    case rel=>
     refine⟨k+1,by omega,by go_num,fun j hj hj2=>?_,?_⟩
     ·rcases Nat.lt_succ_iff_lt_or_eq.1 hj with hj|rfl
      ·exact HO.out j hj hj2
      ·exact h3'
     ·exact hb2
    case measure=>simp[intOf];omega
  ·have hr:=Lib.hid (Z9x (l:=l) (nm:=nm) fun j hj=>HO.out j (by have:=HN.out;omega) hj)
   go_wp2
   go_ret
   exact⟨Zd6 hr.out.symm,hb⟩
def Zdt (l:List Stn) (i k:Nat):Bool:=!((l.getD k zstn).nm.toList==(l.getD i zstn).nm.toList)&&!Zen (l.getD k zstn).ph (l.getD i zstn).ph
def apT (l:List Stn) (i k:Nat):Bool:=(List.range k).all (Zdt l i)
def Zhf (l:List Stn) (i:Nat):Bool:=stB (l.getD i zstn).nm (l.getD i zstn).ph (l.getD i zstn).g (l.getD i zstn).l&&apT l i i
def okT (l:List Stn) (i:Nat):Bool:=(List.range i).all (Zhf l)
def Zay (l:List Stn):Bool:=decide (l.length≤8)&&okT l l.length
theorem Zng (p q:ByteArray):Zen p q=Zen q p:=by rw[Zkp,Zkp,Bool.or_comm]
theorem Zk6 (f:Nat→Bool) (k:Nat):(List.range (k+1)).all f=((List.range k).all f&&f k):=by rw[List.range_succ,List.all_append];simp
theorem Zjb {f:Nat→Bool} {k n:Nat} (h:k<n) (h1:f k=false):(List.range n).all f=false:=by
 rw[List.all_eq_false];exact⟨k,List.mem_range.2 h,by simp[h1]⟩
theorem Z1y {l:List Stn} {i k:Nat} (h:apT l i k=true) (h1:Zdt l i k=true):apT l i (k+1)=true:=by unfold apT at*;rw[Zk6,h,h1];rfl
theorem Z3p {l:List Stn} {i:Nat} (h:okT l i=true) (h1:Zhf l i=true):okT l (i+1)=true:=by unfold okT at*;rw[Zk6,h,h1];rfl
theorem Zhx {l:List Stn} {i:Nat} (hi:i<l.length) (h:Zhf l i=false):Zay l=false:=by unfold Zay okT;rw[Zjb hi h,Bool.and_false]
theorem Z51 {l:List Stn} (h:8<l.length):Zay l=false:=by unfold Zay;rw[decide_eq_false (by omega)];rfl
theorem Z65 {l:List Stn} {k:Nat} (h:okT l k=true) (hk:k=l.length) (h8:l.length≤8):Zay l=true:=by subst hk;unfold Zay;rw[decide_eq_true h8,h];rfl
theorem Zs2 {l:List Stn} {i:Nat} (h1:stB (l.getD i zstn).nm (l.getD i zstn).ph (l.getD i zstn).g (l.getD i zstn).l=false):Zhf l i=false:=by unfold Zhf;rw[h1];rfl
theorem Zha {l:List Stn} {i k:Nat} (hk:k<i) (h1:Zdt l i k=false):Zhf l i=false:=by unfold Zhf apT;rw[Zjb hk h1,Bool.and_false]
theorem Ztz {l:List Stn} {i:Nat} (h1:stB (l.getD i zstn).nm (l.getD i zstn).ph (l.getD i zstn).g (l.getD i zstn).l=true) (h2:apT l i i=true):Zhf l i=true:=by unfold Zhf;rw[h1,h2];rfl
theorem Zcv {l:List Stn} {i:Nat} (h:i<l.length):l.getD i zstn=l[i]:=by simp[List.getD,h]
theorem Zai2 {l:List Stn} {nm:ByteArray} {k:Nat} (h:idxS l nm=k):∀j (_:j<k) (hj:j<l.length),(l[j].nm.toList==nm.toList)=false:=by
 intro j hj hl
 unfold idxS at h
 cases hf:l.findIdx? (fun s=>s.nm.toList==nm.toList)with
 |none=>rw[hf]at h;simp at h
 |some i=>
  rw[hf]at h
  have hi:i=k:=by have e:(i:Int)=k:=h;omega
  subst hi
  obtain⟨_,_,h2⟩:=List.findIdx?_eq_some_iff_getElem.1 hf
  simpa using h2 j hj
theorem Zajh {l:List Stn} {k:Nat} (hk:k<l.length) (h:idxS l l[k].nm≠k):∃j,j<k∧∃hj:j<l.length,(l[j].nm.toList==l[k].nm.toList)=true:=by
 unfold idxS at h
 cases hf:l.findIdx? (fun s=>s.nm.toList==l[k].nm.toList)with
 |none=>
  rw[List.findIdx?_eq_none_iff]at hf
  have:=hf l[k] (List.getElem_mem hk)
  simp at this
 |some i=>
  rw[hf]at h
  obtain⟨hi,h1,h2⟩:=List.findIdx?_eq_some_iff_getElem.1 hf
  refine⟨i,?_,hi,h1⟩
  rcases Nat.lt_trichotomy i k with h3|h3|h3
  ·exact h3
  ·subst h3;exact absurd rfl h
  ·have:=h2 k h3;simp at this
theorem Zg9 {nm ph:ByteArray} {g l:Int} (h:stB nm ph g l=true):Zcq ph=true:=by
 unfold stB at h;simp only[Bool.and_eq_true]at h;exact h.1.1.2
theorem Zafj {l:List Stn} {i j:Nat} (h:okT l i=true) (hj:j<i) (hl:j<l.length):Zcq l[j].ph=true:=by
 unfold okT at h
 rw[List.all_eq_true]at h
 have:=h j (List.mem_range.2 hj)
 unfold Zhf at this
 rw[Bool.and_eq_true,Zcv hl]at this
 exact Zg9 this.1
theorem Zba {ao:Option Addr} {n c:Nat} {l:List Stn} {w:World} (h:RdS w ao n l) (hc:n≤c):
 Calls Tryz.prog 46 #[.slice ao n c] w fun e w'=>e= .returned (.bool (Zay l))∧Below w.heap.size w w':=by
 have hs:=h.2.1
 have hn:=h.1
 by_cases h8:(8:Int)<(n:Int)
 ·have hr:=Lib.hid (Z51 (l:=l) (by omega))
  clear hn
  go_enter Tryz.func46,Tryz.ntmps46
  go_wp2
  go_ret
  exact⟨Zav hr.out.symm,Below.refl _ _⟩
 ·have HN:=Lib.hid hn;clear hn
  go_enter Tryz.func46,Tryz.ntmps46
  go_wp2
  go_loopw [12] (fun i wr=>∃k:Nat,k≤n∧i= .int .i64 k∧okT l k=true∧Below w.heap.size w wr) (fun i _=>n-(intOf i).toNat)
  case atStart=>exact⟨0,Nat.zero_le _,rfl,rfl,Below.refl _ _⟩
  case round=>
   obtain⟨k,hk,rfl,hok,hb⟩:=hrel
   have HO:=Lib.hid hok;clear hok
   obtain⟨wo,rfl⟩:∃wo:World,wo=wr:=⟨_,rfl⟩
   by_cases hlt:k<n
   ·have h2:=h.below hb
    obtain⟨bk,off,rfl,hl,hc0,hc1,hc2,hc3⟩:=h2.at hlt
    have hG:=Zcv hl
    have hz:=hb.size
    have hB0:Below wo.heap.size wo (wo.alloc (.cells #[.string l[k].nm,.string l[k].ph,.int .i64 l[k].g,.int .i64 l[k].l] 37)):=(Below.refl _ _).alloc (Nat.le_refl _) _
    have hBx:=Box.new wo #[.string l[k].nm,.string l[k].ph,.int .i64 l[k].g,.int .i64 l[k].l] 37
    have hb1:=hb.trans (hB0.mono hz)
    have h3:=h2.below hB0
    clear h h2
    by_cases hv:stB l[k].nm l[k].ph l[k].g l[k].l=true
    ·have HP:=Lib.hid (Zg9 hv)
     by_cases hx:idxS l l[k].nm=k
     ·have HI:=Lib.hid (Zai2 hx)
      go_wp2_with fail
      refine(Zcc _ _ _ _ _).mono ?_;rintro e w2 ⟨rfl,hb2⟩
      rw[hv]
      have hB2:=hBx.below hb2 (by simp)
      have h4:=h3.below hb2
      have hb3:=hb1.trans (hb2.mono (by simp;omega))
      have hz2:wo.heap.size<w2.heap.size:=hB2.lt
      have x0:=hB2.cell (i:=0) rfl
      have x1:=hB2.cell (i:=1) rfl
      clear hb1 hb2 hBx h3 hc0 hc1 hc2 hc3 hB0 hb
      go_wp2_with fail
      refine(Zbu _ h4).mono ?_;rintro e w3 ⟨rfl,hb4⟩
      rw[hx]
      have hB3:=hB2.below hb4 hz2
      have h5:=h4.below hb4
      have hb5:=hb3.trans (hb4.mono (by omega))
      have hz3:wo.heap.size<w3.heap.size:=hB3.lt
      clear x0 x1 hB2 h4 hb3 hb4
      have x1:=hB3.cell (i:=1) rfl
      go_wp2_with fail
      go_loopw [32] (fun i wr=>∃j:Nat,j≤k∧i= .int .i64 j∧apT l k j=true∧Below w3.heap.size w3 wr) (fun i _=>k-(intOf i).toNat)
      case atStart=>exact⟨0,Nat.zero_le _,rfl,rfl,Below.refl _ _⟩
      case round=>
       clear x1
       obtain⟨j,hj,rfl,hap,hbq⟩:=hrel
       have HA:=Lib.hid hap;clear hap
       have hB4:=hB3.below hbq hz3
       have hb6:=hb5.trans (hbq.mono (by have:=hb5.size;omega))
       clear hb5
       by_cases hltj:j<k
       ·have h6:=h5.below hbq
        obtain⟨bk2,off2,heq,hl2,hd0,hd1,hd2,hd3⟩:=h6.at (show j<n by omega)
        obtain⟨rfl,rfl⟩:bk=bk2∧off=off2:=by simpa using heq
        clear h5 h6 heq
        have x1:=hB4.cell (i:=1) rfl
        have hz4:=hB4.lt
        have HP2:=Lib.hid (Zafj HO.out hltj hl2)
        have hG2:=Zcv hl2
        have hb7:Below w.heap.size w (wr.alloc (.cells #[.string l[j].nm,.string l[j].ph,.int .i64 l[j].g,.int .i64 l[j].l] 37)):=hb6.alloc hb6.size _
        have hb8:Below w3.heap.size w3 (wr.alloc (.cells #[.string l[j].nm,.string l[j].ph,.int .i64 l[j].g,.int .i64 l[j].l] 37)):=hbq.alloc hbq.size _
        by_cases hcf:Zen l[k].ph l[j].ph=true
        ·have hr:=Lib.hid (Zhx hl (Zha hltj (by unfold Zdt;rw[hG,hG2,Zng,hcf];simp)))
         clear hG hG2
         go_wp2_with fail
         refine(Zfg _ _ _ HP.out HP2.out).mono ?_;rintro e w4 ⟨rfl,rfl⟩
         rw[hcf]
         clear x1 hd0 hd1 hd2 hd3 hcf
         go_wp2_with fail
         go_ret
         exact⟨Zav hr.out.symm,hb7⟩
        ·have hcf':Zen l[k].ph l[j].ph=false:=by simpa using hcf
         have HT:=Lib.hid (Z1y HA.out (show Zdt l k j=true by unfold Zdt;rw[hG,hG2,Zng,hcf',HI.out j hltj hl2];rfl))
         clear hG hG2 hcf
         go_wp2_with fail
         refine(Zfg _ _ _ HP.out HP2.out).mono ?_;rintro e w4 ⟨rfl,rfl⟩
         rw[hcf']
         clear x1 hd0 hd1 hd2 hd3 hcf'
         go_wp2_with fail
         go_roundw
         case rel=>exact⟨j+1,by omega,by go_num,HT.out,hb8⟩
         case measure=>simp[intOf];omega
       ·have HT:=Lib.hid (Z3p HO.out (Ztz (by rw[hG];exact hv) ((show k=j by omega)▸HA.out)))
        clear hG
        go_wp2
        go_roundw
        case rel=>exact⟨k+1,by omega,by go_num,HT.out,hb6⟩
        case measure=>simp[intOf];omega
     ·obtain⟨j,hj,hl2,hn2⟩:=Zajh hl hx
      have hG2:=Zcv hl2
      have hr:=Lib.hid (Zhx hl (Zha hj (by unfold Zdt;rw[hG,hG2,hn2];rfl)))
      have hx':(idxS l l[k].nm != (k:Int))=true:=by simpa using hx
      clear hG hG2 hx hn2
      go_wp2_with fail
      refine(Zcc _ _ _ _ _).mono ?_;rintro e w2 ⟨rfl,hb2⟩
      rw[hv]
      have hB2:=hBx.below hb2 (by simp)
      have h4:=h3.below hb2
      have hb3:=hb1.trans (hb2.mono (by simp;omega))
      have hz2:wo.heap.size<w2.heap.size:=hB2.lt
      have x0:=hB2.cell (i:=0) rfl
      clear hb1 hb2 hBx h3 hc0 hc1 hc2 hc3 hB0 hb
      go_wp2_with fail
      refine(Zbu _ h4).mono ?_;rintro e w3 ⟨rfl,hb4⟩
      have hb5:=hb3.trans (hb4.mono (by omega))
      clear x0 hB2 h4 hb3 hb4
      go_wp2_with fail
      go_ret
      exact⟨Zav hr.out.symm,hb5⟩
    ·have hv':stB l[k].nm l[k].ph l[k].g l[k].l=false:=by simpa using hv
     have hr:=Lib.hid (Zhx hl (Zs2 (by rw[hG];exact hv')))
     clear hv hG
     go_wp2_with fail
     refine(Zcc _ _ _ _ _).mono ?_;rintro e w2 ⟨rfl,hb2⟩
     rw[hv']
     have hb3:=hb1.trans (hb2.mono (by simp;omega))
     clear hb1 hb2 hBx hc0 hc1 hc2 hc3 hv'
     go_wp2_with fail
     go_ret
     exact⟨Zav hr.out.symm,hb3⟩
   ·have hr:=Lib.hid (Z65 (l:=l) HO.out (by have:=HN.out;omega) (by have:=HN.out;omega))
    go_wp2
    go_ret
    exact⟨Zav hr.out.symm,hb⟩
theorem Zxp {P:Program} {f:FuncId} {args:Array Value} {w:World} {n:Nat} {v:Value}
 (h:Calls P f args (w.drewN n) fun e w'=>e= .returned v∧Qw (w.drewN n) w'):Calls P f args (w.drewN n) fun e w''=>e= .returned v∧∃m,w''=w.drewN m:=
 h.mono fun _ _ ⟨he,m,hm⟩=>⟨he,n+m,by rw[hm,World.drewN_drewN]⟩
theorem Za8 {ao:Option Addr} {n c:Nat} {l:List Stn} {w:World} (h:RdS w ao n l) (hm2:∀i (h:i<l.length),(l[i]'h).nm.size≤1099511627776∧(l[i]'h).ph.size≤1099511627776):
 Calls Tryz.prog 50 #[.slice ao n c] w fun e w'=>e= .returned (.bool (Zay l))∧Below w.heap.size w w':=by
 have hs:=h.2.1
 have HN:=Lib.hid h.1
 have HM:=Lib.hid hm2;clear hm2
 go_enter Tryz.func50,Tryz.ntmps50
 go_wp2
 go_loopw [3] (fun i wr=>∃k:Nat,k≤n∧i= .int .i64 k∧okT l k=true∧Below w.heap.size w wr) (fun i _=>n-(intOf i).toNat)
 case atStart=>exact⟨0,Nat.zero_le _,rfl,rfl,Below.refl _ _⟩
 case round=>
  obtain⟨k,hk,rfl,hok,hb⟩:=hrel
  have HO:=Lib.hid hok;clear hok
  obtain⟨wo,rfl⟩:∃wo:World,wo=wr:=⟨_,rfl⟩
  by_cases hlt:k<n
  ·have h2:=h.below hb
   obtain⟨bk,off,rfl,hl,hc0,hc1,hc2,hc3⟩:=h2.at hlt
   have hG:=Zcv hl
   have hz:=hb.size
   have hsk:=HM.out k hl
   clear h
   by_cases hv:stB l[k].nm l[k].ph l[k].g l[k].l=true
   ·go_wp2_with fail
    refine(Zre _ _ _ _ _ hsk.1 hsk.2).mono ?_;rintro e w2 ⟨rfl,hb2⟩
    rw[hv]
    have h3:=h2.below hb2
    have hb3:=hb.trans (hb2.mono hz)
    clear hc0 hc1 hc2 hc3 h2 hb hb2
    go_wp2_with fail
    go_loopw [4] (fun i wr=>∃j:Nat,j≤k∧i= .int .i64 j∧apT l k j=true∧Qw w2 wr) (fun i _=>k-(intOf i).toNat)
    case atStart=>exact⟨0,Nat.zero_le _,rfl,rfl,Qw.refl _⟩
    case round=>
     obtain⟨j,hj,rfl,hap,hq⟩:=hrel
     have HA:=Lib.hid hap;clear hap
     have h4:=h3.qw hq
     have hb4:=hb3.trans ((hq.below w2.heap.size).mono hb3.size)
     clear h3
     by_cases hltj:j<k
     ·obtain⟨bk2,off2,heq,hl2,hd0,hd1,hd2,hd3⟩:=h4.at (show j<n by omega)
      obtain⟨rfl,rfl⟩:bk=bk2∧off=off2:=by simpa using heq
      obtain⟨bk2,off2,heq,_,hc0,hc1,hc2,hc3⟩:=h4.at hlt
      obtain⟨rfl,rfl⟩:bk=bk2∧off=off2:=by simpa using heq
      clear h4 heq
      have hG2:=Zcv hl2
      have hsj:=HM.out j hl2
      by_cases hnm:(l[j].nm.toList==l[k].nm.toList)=true
      ·have hr:=Lib.hid (Zhx hl (Zha hltj (by unfold Zdt;rw[hG,hG2,hnm];rfl)))
       clear hG hG2
       go_wp2_with fail
       go_quiet (fail)
       go_wp2_with fail
       go_ret
       exact⟨Zav hr.out.symm,below_drewN hb4 _⟩
      ·have hnm':(l[j].nm.toList==l[k].nm.toList)=false:=by simpa using hnm
       by_cases hcf:Zen l[j].ph l[k].ph=true
       ·have hr:=Lib.hid (Zhx hl (Zha hltj (by unfold Zdt;rw[hG,hG2,hcf];simp)))
        clear hG hG2 hnm
        go_wp2_with fail
        go_quiet ((first|(go_at_call 123;exact Zxp (Zj7 _ _ _ hsj.2 hsk.2))))
        rw[hcf]
        go_wp2_with fail
        go_ret
        exact⟨Zav hr.out.symm,below_drewN hb4 _⟩
       ·have hcf':Zen l[j].ph l[k].ph=false:=by simpa using hcf
        have HT:=Lib.hid (Z1y HA.out (show Zdt l k j=true by unfold Zdt;rw[hG,hG2,hcf',hnm'];rfl))
        clear hG hG2 hcf hnm
        go_wp2_with fail
        go_quiet ((first|(go_at_call 123;exact Zxp (Zj7 _ _ _ hsj.2 hsk.2))))
        rw[hcf']
        go_wp2_with fail
        go_roundw
        case rel=>exact⟨j+1,by omega,by go_num,HT.out,hq.trans (Qw.drewN _ _)⟩
        case measure=>simp[intOf];omega
     ·have hA2:apT l k k=true:=by
       have h9:=HA.out
       rw[show j=k by omega]at h9
       exact h9
      have HT:=Lib.hid (Z3p HO.out (Ztz (by rw[hG];exact hv) hA2))
      clear hA2 hG
      go_wp2
      go_roundw
      case rel=>exact⟨k+1,by omega,by go_num,HT.out,hb4⟩
      case measure=>simp[intOf];omega
   ·have hv':stB l[k].nm l[k].ph l[k].g l[k].l=false:=by simpa using hv
    have hr:=Lib.hid (Zhx hl (Zs2 (by rw[hG];exact hv')))
    clear hv hG
    go_wp2_with fail
    refine(Zre _ _ _ _ _ hsk.1 hsk.2).mono ?_;rintro e w2 ⟨rfl,hb2⟩
    rw[hv']
    have hb3:=hb.trans (hb2.mono hz)
    clear hb hb2 hc0 hc1 hc2 hc3 hv' h2
    go_wp2_with fail
    go_ret
    exact⟨Zav hr.out.symm,hb3⟩
  ·have hkl:k=l.length:=by have:=HN.out;omega
   have hr0:Zay l=decide ((n:Int)≤8):=by
    unfold Zay
    rw[←hkl,HO.out,Bool.and_true,hkl,←HN.out]
    exact decide_eq_decide.2 (by omega)
   have hr:=Lib.hid hr0
   clear hkl hr0
   go_wp2
   go_ret
   exact⟨Zav hr.out.symm,hb⟩
end Go.Proofs.YtcjihfongfefoaaGreatDoor
