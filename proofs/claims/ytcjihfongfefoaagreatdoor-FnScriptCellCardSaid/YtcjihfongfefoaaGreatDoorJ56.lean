/- Dm Pb -/
import Derived.Test.YtcjihfongfefoaaGreatDoorJ22
import Derived.Test.YtcjihfongfefoaaGreatDoorJ39
import Derived.Test.YtcjihfongfefoaaGreatDoorJ50
namespace Go.Proofs.YtcjihfongfefoaaGreatDoor
open Go.RowKit
set_option maxHeartbeats 25600000
set_option maxRecDepth 100000
def OfP (w:World) (g p:Nat) (l:List ByteArray) (e:Ending) (w':World):Prop:=
 ∃v:ByteArray,e= .returned (.string v)∧v∈l∧Rdr w' g (p+1)∧w.grownBy w' (some g)
theorem of_c {w:World} {g p n c:Nat} {ao:Option Addr} {l:List ByteArray} (h:Rdr w g p) (hp:p≤1073741824) (hR:RdT w ao n l) (hne:∀a,ao=some a→0<n→a.block≠g) (hn:0<n):
 Calls Tryz.prog 73 #[.pointer (some ⟨g,0,none⟩),.slice ao n c] w (OfP w g p l):=by
 have hs:=hR.2.1
 go_enter Tryz.func73,Tryz.ntmps73
 go_wp2_with fail
 refine(Zbm _ h hp).mono ?_;rintro e w1 ⟨v,rfl,h0,h1,hr1,hg1⟩
 obtain⟨k,rfl⟩:=Int.eq_ofNat_of_zero_le h0
 have hk:k<n:=by omega
 obtain⟨b,off,rfl,hl,hc⟩:=(hR.gr hg1 hne).at hk
 clear h1
 go_wp2_with fail
 go_ret
 exact⟨_,rfl,List.getElem_mem hl,hr1,hg1⟩
theorem rdT_lit' (w:World) (l:List ByteArray) (t:TypeId) (b n:Nat) (hb:b=w.heap.size) (hn:n=l.length) (hs:l.length≤1099511627776):RdT (w.alloc (.cells (l.map Value.string).toArray t)) (some ⟨b,0,none⟩) n l:=by
 subst hb hn
 refine⟨rfl,hs,fun i hi=>⟨w.heap.size,0,rfl,?_⟩⟩
 rw[Nat.zero_add]
 exact(Box.new w _ t).cell (by simp[hi])
theorem Zaao {w:World} {g p n b c:Nat} {t:TypeId} (l:List ByteArray) (h:Rdr w g p) (hp:p≤1073741824) (hb:b=w.heap.size) (hn:n=l.length) (hs:l.length≤1099511627776) (hn0:0<n):
 Calls Tryz.prog 73 #[.pointer (some ⟨g,0,none⟩),.slice (some ⟨b,0,none⟩) n c] (w.alloc (.cells (l.map Value.string).toArray t)) (OfP (w.alloc (.cells (l.map Value.string).toArray t)) g p l):=by
 refine of_c (h.alloc _) hp (rdT_lit' w l t b n hb hn hs) ?_ hn0
 intro a ha
 cases ha
 have:=h.lt
 intro _
 show b≠g
 omega
def TinyS (l:List Stn):Prop:=∀s∈l,s.nm.size≤1000∧s.ph.size≤1000
theorem TinyS.big {l:List Stn} (h:TinyS l):∀i (hi:i<l.length),(l[i]'hi).nm.size≤1099511627776∧(l[i]'hi).ph.size≤1099511627776:=by
 intro i hi
 have:=h _ (List.getElem_mem hi)
 omega
theorem TinyS.nil:TinyS []:=fun s hs=>by cases hs
theorem TinyS.set {l:List Stn} (h:TinyS l) (k:Nat) {s:Stn} (hs:s.nm.size≤1000∧s.ph.size≤1000):TinyS (l.set k s):=by
 intro x hx
 rcases List.mem_or_eq_of_mem_set hx with hx|rfl
 ·exact h x hx
 ·exact hs
theorem Z05 {u:List ByteArray} {d:Int} {p:ByteArray} (h:Zf3 u d=some p):p.size≤6:=by
 unfold Zf3 at h
 split at h
 ·rename_i hd
  have hd':=inB_iff.1 hd
  have hm:=List.mem_of_mem_head? h
  unfold Zg8 at hm
  rw[List.mem_filter,List.mem_map]at hm
  obtain⟨⟨n,_,rfl⟩,_⟩:=hm
  rw[Zdn];omega
 ·cases h
theorem Z7r {l l':List Stn} {nm:ByteArray} {d loss:Int} (h:admR l nm d loss=some l'):∃p,l'=l++[⟨nm,p,1,loss⟩]∧p.size≤6:=by
 unfold admR at h
 split at h
 ·cases ha:Zf3 (l.map Stn.ph) d with
  |none=>rw[ha]at h;cases h
  |some p=>rw[ha]at h;simp at h;exact⟨p,h.symm,Z05 ha⟩
 ·cases h
theorem TinyS.snoc {l:List Stn} (h:TinyS l) {s:Stn} (hs:s.nm.size≤1000∧s.ph.size≤1000):TinyS (l++[s]):=by
 intro x hx
 rcases List.mem_append.1 hx with hx|hx
 ·exact h x hx
 ·rw[List.mem_singleton]at hx;subst hx;exact hs
theorem OwnS.gr {w w':World} {g lo n c:Nat} {ao:Option Addr} {l:List Stn} (h:OwnS w lo ao n c l) (hg:w.grownBy w' (some g)) (hlt:g<lo):OwnS w' lo ao n c l:=⟨h.1,h.2.1,Zc8 h.2.2 hg hlt⟩
theorem cellB_nil':Zay []=true:=by decide
def Z94 (w:World) (g p:Nat) (e:Ending) (w':World):Prop:=
 ∃ao n c,∃l:List Stn,∃q,e= .returned (.slice ao n c)∧OwnS w' w.heap.size ao n c l∧l.length≤4∧TinyS l∧p≤q∧q≤p+20∧Rdr w' g q∧w.grownBy w' (some g)∧Zay l=true
theorem Zrq {l:List ByteArray} {v:ByteArray} {m:Nat} (h:l.all (fun s=>decide (s.size≤m))=true) (hv:v∈l):v.size≤m:=by
 rw[List.all_eq_true]at h;exact of_decide_eq_true (h v hv)
theorem RetSB.some {w w':World} {l:List Stn} {e:Ending} (h:RetSB w (some l) e w'):∃ao n c,e= .returned (.tuple #[.slice ao n c,.bool true])∧OwnS w' w.heap.size ao n c l∧Below w.heap.size w w':=h
theorem RetSB.none {w w':World} {e:Ending} (h:RetSB w none e w'):∃ao n c,e= .returned (.tuple #[.slice ao n c,.bool false])∧OwnS w' w.heap.size ao n c []∧Below w.heap.size w w':=h
theorem OwnS.base {w:World} {lo n c:Nat} {ao:Option Addr} {l:List Stn} (h:OwnS w lo ao n c l) (hn:0<n):∃b,ao=some ⟨b,0,none⟩∧lo≤b:=by
 rcases h.2.2.2 with ⟨h1,h2⟩|⟨g,cap,cur,hv,hg,_⟩
 ·have:=h.1;omega
 ·cases hv;exact⟨g,rfl,hg⟩
theorem OwnS.setG {w:World} {lo b n c k:Nat} {l:List Stn} (h:OwnS w lo (some ⟨b,0,none⟩) n c l) (hk:k<l.length) (x:Int):OwnS (w.setCell ⟨b,k*4+2,none⟩ (.int .i64 x)) lo (some ⟨b,0,none⟩) n c (l.set k ⟨l[k].nm,l[k].ph,x,l[k].l⟩):=by
 refine⟨by rw[List.length_set];exact h.1,h.2.1,?_⟩
 rw[←Zp6 hk]
 exact(h.2.2.stored (k*4+2) (.int .i64 x)).1
theorem Zaf7 {w:World} {g p:Nat} (h:Rdr w g p) (hp:p≤1073740000):Calls Tryz.prog 114 #[.pointer (some ⟨g,0,none⟩)] w (Z94 w g p):=by
 have hgl:=h.lt
 have ho0:OwnVS (w.alloc (.cells #[] 37)) w.heap.size (.slice (some ⟨w.heap.size,0,none⟩) 0 0) []:=OwnVS.made0 w (Nat.le_refl _)
 have hr0:=h.alloc (.cells #[] 37)
 have hg0:=Zad ((Below.refl _ _).alloc (Nat.le_refl w.heap.size) (.cells #[] 37)) (some g)
 clear h
 go_enter Tryz.func114,Tryz.ntmps114
 go_wp2_with fail
 refine(Zbm _ hr0 (by omega)).mono ?_;rintro e w3 ⟨m,rfl,m0,m1,hr4,hg4⟩
 have hgD:=hg0.trans hg4
 have ho1:OwnS w3 w.heap.size (some ⟨w.heap.size,0,none⟩) 0 0 []:=⟨rfl,by omega,Zc8 ho0 hg4 hgl⟩
 clear hg4 hr0 ho0 hg0
 go_wp2_with fail
 go_loopw [3,4] (fun v i wr=>∃(k:Nat) (ao:Option Addr) (n c:Nat) (l:List Stn),i= .int .i64 (k:Nat)∧v= .slice ao n c∧l.length+k≤4∧TinyS l∧OwnS wr w.heap.size ao n c l∧(∃q,Rdr wr g q∧p≤q∧q+4*k≤p+17)∧w.grownBy wr (some g)∧Hid (Zay l=true)) (fun _ i _=>(intOf i).toNat)
 case atStart=>
  obtain⟨k,hk⟩:=Int.eq_ofNat_of_zero_le m0
  exact⟨k,_,_,_,[],by rw[hk],rfl,by simp;omega,TinyS.nil,ho1,⟨_,hr4,by omega,by omega⟩,hgD,Lib.hid cellB_nil'⟩
 case round=>
  clear ho1 hr4 hgD m0 m1
  obtain⟨k,ao,n,c,l,rfl,rfl,hlk,ht,ho,⟨q,hr,hq0,hq1⟩,hg,HCB⟩:=hrel
  have HT:=Lib.hid ht;clear ht
  have hz:=hg.size
  by_cases hk0:0<k
  ·go_wp2_with fail
   refine(Zaao [⟨#[97]⟩,⟨#[98]⟩,⟨#[97,98]⟩,⟨#[99]⟩,⟨#[108,111,110,103]⟩,⟨#[120]⟩,⟨#[121]⟩] hr (by omega) rfl rfl (by decide) (by decide)).mono ?_;rintro e w4 ⟨nm,rfl,hnm,hr5,hg5⟩
   have hns:nm.size≤4:=Zrq (by decide) hnm
   have ho2:=(ho.below ((Below.refl _ _).alloc (Nat.le_refl wr.heap.size) _)).gr hg5 hgl
   have hgE:=(Zaj hg ((Below.refl _ _).alloc (Nat.le_refl wr.heap.size) _)).trans hg5
   clear hnm ho hg hg5 hr
   go_wp2_with fail
   refine(Zbm _ hr5 (by omega)).mono ?_;rintro e w5 ⟨u,rfl,u0,u1,hr6,hg6⟩
   have u2:u≤3:=by omega
   have ho3:=ho2.gr hg6 hgl
   have hgF:=hgE.trans hg6
   clear u1 ho2 hgE hg6 hr5
   go_wp2_with fail
   refine(Zbm _ hr6 (by omega)).mono ?_;rintro e w6 ⟨v,rfl,v0,v1,hr7,hg7⟩
   have v2:v≤5:=by omega
   have ho4:=ho3.gr hg7 hgl
   have hgG:=hgF.trans hg7
   have hzG:=hgG.size
   clear v1 ho3 hgF hg7 hr6
   cases hA:admR l nm (1+u) (1+v)with
   |none=>
    have HA:=Lib.hid hA;clear hA
    go_wp2_with fail
    refine(Zgp nm (1+u) (1+v) ho4.rd ho4.cap'.2 (by omega) HT.out.big).mono ?_;rintro e w7 hret
    rw[HA.out]at hret;obtain⟨a2,n2,c2,rfl,_,hb7⟩:=hret.none
    have ho5:=ho4.below hb7
    have hr8:=hr7.below hb7
    have hgH:=Zaj hgG hb7
    clear ho4 hb7 hr7 hgG
    go_wp2_with fail
    go_roundw
    case rel=>exact⟨k-1,ao,n,c,l,by go_num,rfl,by omega,HT.out,ho5,⟨_,hr8,by omega,by omega⟩,hgH,HCB⟩
    case measure=>simp[intOf];omega
   |some l'=>
    obtain⟨ph,hl',hph⟩:=Z7r hA
    have HCB':=Lib.hid (Zvz hA)
    have HA:=Lib.hid hA;clear hA
    have hll:l'.length=l.length+1:=by rw[hl'];simp
    have HT':=Lib.hid (show TinyS l' by rw[hl'];exact HT.out.snoc (by show nm.size≤1000∧ph.size≤1000;omega))
    clear hl'
    go_wp2_with fail
    refine(Zgp nm (1+u) (1+v) ho4.rd ho4.cap'.2 (by omega) HT.out.big).mono ?_;rintro e w7 hret
    rw[HA.out]at hret;obtain⟨a2,n2,c2,rfl,ho5',hb7⟩:=hret.some
    have hr8:=hr7.below hb7
    have hgH:=Zaj hgG hb7
    have ho5:=ho5'.mono hzG
    have HN:=Lib.hid ho5.1
    have hn0:0<n2:=by have:=HN.out;omega
    obtain⟨b,rfl,hbb⟩:=ho5.base hn0
    obtain⟨k2,hk2⟩:∃k2:Nat,(n2:Int)-1=(k2:Int):=⟨n2-1,by omega⟩
    have hk2n:k2<n2:=by omega
    have hk2l:k2<l'.length:=by have:=HN.out;omega
    have hn4:n2≤5:=by have:=HN.out;omega
    have HLL:=Lib.hid hll
    clear ho4 hb7 hr7 hgG ho5' hll
    go_wp2_with fail
    refine(Zbm _ hr8 (by omega)).mono ?_;rintro e w8 ⟨x,rfl,x0,x1,hr9,hg9⟩
    have HX1:=Lib.hid (show x≤1000 by omega)
    have ho6:=ho5.gr hg9 hgl
    have hgI:=hgH.trans hg9
    obtain⟨⟨y0,y1,y2,y3,f0,f1,f2,f3⟩,g0,g1,g2,g3⟩:=Zer ho6.2.2 hk2n
    have ho7:=ho6.setG hk2l x
    have hr10:=hr9.farGt (Za1 (w:=w8) b (k2*4+2) (.int .i64 x)) (show g<b by omega)
    have hgJ:=Zc5 hgI hbb (k2*4+2) (.int .i64 x)
    clear ho5 hg9 hgH ho6 hgI hr8 hr9
    go_wp2_with fail
    go_roundw
    case rel=>
     refine⟨k-1,_,_,_,_,by go_num,rfl,?_,?_,ho7,⟨_,hr10,by omega,by omega⟩,hgJ,Lib.hid (Z5i HCB'.out hk2l ⟨x0,HX1.out⟩)⟩
     ·rw[List.length_set,HLL.out];omega
     ·exact HT'.out.set k2 (show l'[k2].nm.size≤1000∧l'[k2].ph.size≤1000 from HT'.out _ (List.getElem_mem hk2l))
    case measure=>simp[intOf];omega
  ·obtain rfl:k=0:=by omega
   go_wp2_with fail
   go_ret
   exact⟨ao,n,c,l,q,rfl,ho,by omega,HT.out,hq0,by omega,hr,hg,HCB.out⟩
theorem Z0z {l:List Stn} {k:Nat} (hk:k<l.length) (y:ByteArray):(Zbe l).set (k*4) (.string y)=Zbe (l.set k ⟨y,l[k].ph,l[k].g,l[k].l⟩):=by
 apply List.ext_getElem?
 intro j
 obtain⟨i,r,hr,rfl⟩:∃i r,r<4∧j=i*4+r:=⟨j/4,j%4,Nat.mod_lt _ (by omega),by omega⟩
 rw[Zb6 _ _ _ hr,List.getElem?_set,Zb6 _ _ _ hr]
 simp only[Zcb,List.getElem?_set]
 by_cases h:k=i
 ·subst h
  rw[if_pos rfl,if_pos hk]
  rcases(by omega:r=0∨r=1∨r=2∨r=3)with rfl|rfl|rfl|rfl
  ·rw[if_pos (by omega),if_pos (by omega)];rfl
  ·rw[if_neg (by omega)];simp[hk,Stn.vals]
  ·rw[if_neg (by omega)];simp[hk,Stn.vals]
  ·rw[if_neg (by omega)];simp[hk,Stn.vals]
 ·rw[if_neg h,if_neg (by omega)]
theorem Zzo {l:List Stn} {k:Nat} (hk:k<l.length) (y:ByteArray):(Zbe l).set (k*4+1) (.string y)=Zbe (l.set k ⟨l[k].nm,y,l[k].g,l[k].l⟩):=by
 apply List.ext_getElem?
 intro j
 obtain⟨i,r,hr,rfl⟩:∃i r,r<4∧j=i*4+r:=⟨j/4,j%4,Nat.mod_lt _ (by omega),by omega⟩
 rw[Zb6 _ _ _ hr,List.getElem?_set,Zb6 _ _ _ hr]
 simp only[Zcb,List.getElem?_set]
 by_cases h:k=i
 ·subst h
  rw[if_pos rfl,if_pos hk]
  rcases(by omega:r=0∨r=1∨r=2∨r=3)with rfl|rfl|rfl|rfl
  ·rw[if_neg (by omega)];simp[hk,Stn.vals]
  ·rw[if_pos (by omega),if_pos (by omega)];rfl
  ·rw[if_neg (by omega)];simp[hk,Stn.vals]
  ·rw[if_neg (by omega)];simp[hk,Stn.vals]
 ·rw[if_neg h,if_neg (by omega)]
theorem Z0e {l:List Stn} {k:Nat} (hk:k<l.length) (y:Int):(Zbe l).set (k*4+3) (.int .i64 y)=Zbe (l.set k ⟨l[k].nm,l[k].ph,l[k].g,y⟩):=by
 apply List.ext_getElem?
 intro j
 obtain⟨i,r,hr,rfl⟩:∃i r,r<4∧j=i*4+r:=⟨j/4,j%4,Nat.mod_lt _ (by omega),by omega⟩
 rw[Zb6 _ _ _ hr,List.getElem?_set,Zb6 _ _ _ hr]
 simp only[Zcb,List.getElem?_set]
 by_cases h:k=i
 ·subst h
  rw[if_pos rfl,if_pos hk]
  rcases(by omega:r=0∨r=1∨r=2∨r=3)with rfl|rfl|rfl|rfl
  ·rw[if_neg (by omega)];simp[hk,Stn.vals]
  ·rw[if_neg (by omega)];simp[hk,Stn.vals]
  ·rw[if_neg (by omega)];simp[hk,Stn.vals]
  ·rw[if_pos (by omega),if_pos (by omega)];rfl
 ·rw[if_neg h,if_neg (by omega)]
theorem OwnS.setN {w:World} {lo b n c k:Nat} {l:List Stn} (h:OwnS w lo (some ⟨b,0,none⟩) n c l) (hk:k<l.length) (x:ByteArray):OwnS (w.setCell ⟨b,k*4,none⟩ (.string x)) lo (some ⟨b,0,none⟩) n c (l.set k ⟨x,l[k].ph,l[k].g,l[k].l⟩):=by
 refine⟨by rw[List.length_set];exact h.1,h.2.1,?_⟩
 rw[←Z0z hk]
 exact(h.2.2.stored (k*4) (.string x)).1
theorem OwnS.setP {w:World} {lo b n c k:Nat} {l:List Stn} (h:OwnS w lo (some ⟨b,0,none⟩) n c l) (hk:k<l.length) (x:ByteArray):OwnS (w.setCell ⟨b,k*4+1,none⟩ (.string x)) lo (some ⟨b,0,none⟩) n c (l.set k ⟨l[k].nm,x,l[k].g,l[k].l⟩):=by
 refine⟨by rw[List.length_set];exact h.1,h.2.1,?_⟩
 rw[←Zzo hk]
 exact(h.2.2.stored (k*4+1) (.string x)).1
theorem OwnS.setL {w:World} {lo b n c k:Nat} {l:List Stn} (h:OwnS w lo (some ⟨b,0,none⟩) n c l) (hk:k<l.length) (x:Int):OwnS (w.setCell ⟨b,k*4+3,none⟩ (.int .i64 x)) lo (some ⟨b,0,none⟩) n c (l.set k ⟨l[k].nm,l[k].ph,l[k].g,x⟩):=by
 refine⟨by rw[List.length_set];exact h.1,h.2.1,?_⟩
 rw[←Z0e hk]
 exact(h.2.2.stored (k*4+3) (.int .i64 x)).1
def BadCP (w:World) (g p lo:Nat) (e:Ending) (w':World):Prop:=
 ∃a2 n2 c2,∃l2:List Stn,∃q,e= .returned (.slice a2 n2 c2)∧OwnS w' lo a2 n2 c2 l2∧l2.length≤4∧TinyS l2∧p≤q∧q≤p+3∧Rdr w' g q∧Below g w w'
theorem Zajq {w:World} {g p lo n c:Nat} {ao:Option Addr} {l:List Stn} (h:Rdr w g p) (hp:p≤1073740000) (ho:OwnS w lo ao n c l) (hlo:g<lo) (hl:l.length≤4) (ht:TinyS l):
 Calls Tryz.prog 113 #[.pointer (some ⟨g,0,none⟩),.slice ao n c] w (BadCP w g p lo):=by
 have hgl:=h.lt
 have HN:=Lib.hid ho.1
 have hn4:n≤4:=by have:=HN.out;omega
 have HT:=Lib.hid ht;clear ht
 by_cases hn0:0<n
 ·have hne:((n:Int)==0)=false:=by simp;omega
  obtain⟨b,rfl,hbb⟩:=ho.base hn0
  go_enter Tryz.func113,Tryz.ntmps113
  go_wp2_with fail
  refine(Zbm _ h (by omega)).mono ?_;rintro e w1 ⟨k',rfl,k0,k1,hr1,hg1⟩
  obtain⟨k,rfl⟩:=Int.eq_ofNat_of_zero_le k0
  have hkn:k<n:=by omega
  have hkl:k<l.length:=by have:=HN.out;omega
  have HTK:=Lib.hid (show l[k].nm.size≤1000∧l[k].ph.size≤1000 from HT.out _ (List.getElem_mem hkl))
  have ho1:=ho.gr hg1 hlo
  clear h ho k1 k0
  go_wp2_with fail
  refine(Zbm _ hr1 (by omega)).mono ?_;rintro e w2 ⟨u,rfl,u0,u1,hr2,hg2⟩
  have ho2:=ho1.gr hg2 hlo
  have hgB:=hg1.trans hg2
  have hzB:=hgB.size
  clear ho1 hr1 hg1 hg2
  by_cases hu0:(u==0)=true
  ·go_wp2_with fail
   refine(Zaao [⟨#[]⟩,⟨#[65]⟩,⟨#[97]⟩,⟨#[97,98,99,100,101,102,103,104,105]⟩] hr2 (by omega) rfl rfl (by decide) (by decide)).mono ?_;rintro e w3 ⟨x,rfl,hx,hr3,hg3⟩
   have hxs:x.size≤1000:=Zrq (by decide) hx
   have ho3:=(ho2.below ((Below.refl _ _).alloc (Nat.le_refl w2.heap.size) _)).gr hg3 hlo
   have hgC:=(Zaj hgB ((Below.refl _ _).alloc (Nat.le_refl w2.heap.size) _)).trans hg3
   obtain⟨⟨y0,y1,y2,y3,f0,f1,f2,f3⟩,g0,g1,g2,g3⟩:=Zer ho3.2.2 hkn
   have ho4:=ho3.setN hkl x
   have hr4:=hr3.farGt (Za1 (w:=w3) b (k*4) (.string x)) (show g<b by omega)
   have hb4:=(Zah hgC (Nat.le_refl g) (by omega)).setCell (p:=⟨b,k*4,none⟩) (show g≤b by omega) (.string x)
   clear hx ho2 hr2 hgB hg3 ho3 hgC hr3
   go_wp2_with fail
   go_ret
   exact⟨_,_,_,_,_,rfl,ho4,by rw[List.length_set];exact hl,HT.out.set k ⟨hxs,HTK.out.2⟩,by omega,by omega,hr4,hb4⟩
  ·have hu0':(u==0)=false:=by simpa using hu0
   clear hu0
   by_cases hu1:(u==1)=true
   ·go_wp2_with fail
    refine(Zaao [⟨#[]⟩,⟨#[48]⟩,⟨#[50]⟩,⟨#[48,48,48,48,48,48,48]⟩] hr2 (by omega) rfl rfl (by decide) (by decide)).mono ?_;rintro e w3 ⟨x,rfl,hx,hr3,hg3⟩
    have hxs:x.size≤1000:=Zrq (by decide) hx
    have ho3:=(ho2.below ((Below.refl _ _).alloc (Nat.le_refl w2.heap.size) _)).gr hg3 hlo
    have hgC:=(Zaj hgB ((Below.refl _ _).alloc (Nat.le_refl w2.heap.size) _)).trans hg3
    obtain⟨⟨y0,y1,y2,y3,f0,f1,f2,f3⟩,g0,g1,g2,g3⟩:=Zer ho3.2.2 hkn
    have ho4:=ho3.setP hkl x
    have hr4:=hr3.farGt (Za1 (w:=w3) b (k*4+1) (.string x)) (show g<b by omega)
    have hb4:=(Zah hgC (Nat.le_refl g) (by omega)).setCell (p:=⟨b,k*4+1,none⟩) (show g≤b by omega) (.string x)
    clear hx ho2 hr2 hgB hg3 ho3 hgC hr3
    go_wp2_with fail
    go_ret
    exact⟨_,_,_,_,_,rfl,ho4,by rw[List.length_set];exact hl,HT.out.set k ⟨HTK.out.1,hxs⟩,by omega,by omega,hr4,hb4⟩
   ·have hu1':(u==1)=false:=by simpa using hu1
    clear hu1
    by_cases hu2:(u==2)=true
    ·go_wp2_with fail
     refine(Ze6 [-1,1000,1001] hr2 (by omega) rfl rfl (by decide) (by decide)).mono ?_;rintro e w3 ⟨x,rfl,hx,hr3,hg3⟩
     have ho3:=(ho2.below ((Below.refl _ _).alloc (Nat.le_refl w2.heap.size) _)).gr hg3 hlo
     have hgC:=(Zaj hgB ((Below.refl _ _).alloc (Nat.le_refl w2.heap.size) _)).trans hg3
     obtain⟨⟨y0,y1,y2,y3,f0,f1,f2,f3⟩,g0,g1,g2,g3⟩:=Zer ho3.2.2 hkn
     have ho4:=ho3.setG hkl x
     have hr4:=hr3.farGt (Za1 (w:=w3) b (k*4+2) (.int .i64 x)) (show g<b by omega)
     have hb4:=(Zah hgC (Nat.le_refl g) (by omega)).setCell (p:=⟨b,k*4+2,none⟩) (show g≤b by omega) (.int .i64 x)
     clear hx ho2 hr2 hgB hg3 ho3 hgC hr3
     go_wp2_with fail
     go_ret
     exact⟨_,_,_,_,_,rfl,ho4,by rw[List.length_set];exact hl,HT.out.set k HTK.out,by omega,by omega,hr4,hb4⟩
    ·have hu2':(u==2)=false:=by simpa using hu2
     clear hu2
     by_cases hu3:(u==3)=true
     ·go_wp2_with fail
      refine(Ze6 [0,20,21, -1] hr2 (by omega) rfl rfl (by decide) (by decide)).mono ?_;rintro e w3 ⟨x,rfl,hx,hr3,hg3⟩
      have ho3:=(ho2.below ((Below.refl _ _).alloc (Nat.le_refl w2.heap.size) _)).gr hg3 hlo
      have hgC:=(Zaj hgB ((Below.refl _ _).alloc (Nat.le_refl w2.heap.size) _)).trans hg3
      obtain⟨⟨y0,y1,y2,y3,f0,f1,f2,f3⟩,g0,g1,g2,g3⟩:=Zer ho3.2.2 hkn
      have ho4:=ho3.setL hkl x
      have hr4:=hr3.farGt (Za1 (w:=w3) b (k*4+3) (.int .i64 x)) (show g<b by omega)
      have hb4:=(Zah hgC (Nat.le_refl g) (by omega)).setCell (p:=⟨b,k*4+3,none⟩) (show g≤b by omega) (.int .i64 x)
      clear hx ho2 hr2 hgB hg3 ho3 hgC hr3
      go_wp2_with fail
      go_ret
      exact⟨_,_,_,_,_,rfl,ho4,by rw[List.length_set];exact hl,HT.out.set k HTK.out,by omega,by omega,hr4,hb4⟩
     ·have hu3':(u==3)=false:=by simpa using hu3
      clear hu3
      go_wp2_with fail
      go_ret
      exact⟨_,_,_,_,_,rfl,ho2,hl,HT.out,by omega,by omega,hr2,Zah hgB (Nat.le_refl g) (by omega)⟩
 ·obtain rfl:n=0:=by omega
  go_enter Tryz.func113,Tryz.ntmps113
  go_wp2_with fail
  go_ret
  exact⟨_,_,_,_,_,rfl,ho,hl,HT.out,by omega,by omega,h,Below.refl _ _⟩
def OpenCP (w:World) (g p:Nat) (e:Ending) (w':World):Prop:=
 ∃ao n c,∃l:List Stn,∃q,e= .returned (.slice ao n c)∧OwnS w' w.heap.size ao n c l∧l.length≤4∧TinyS l∧p≤q∧q≤p+23∧Rdr w' g q∧Below g w w'
theorem Zae3 {w:World} {g p:Nat} (h:Rdr w g p) (hp:p≤1073730000):Calls Tryz.prog 43 #[.pointer (some ⟨g,0,none⟩)] w (OpenCP w g p):=by
 have hgl:=h.lt
 go_enter Tryz.func43,Tryz.ntmps43
 go_wp2_with fail
 refine(Zaf7 h (by omega)).mono ?_;rintro e w1 ⟨ao,n,c,l,q,rfl,ho,hl,ht,hq0,hq1,hr1,hg1,_⟩
 have hb1:=Zah hg1 (Nat.le_refl g) (by omega)
 clear h hg1
 go_wp2_with fail
 refine(Zajq hr1 (by omega) ho hgl hl ht).mono ?_;rintro e w2 ⟨a2,n2,c2,l2,q2,rfl,ho2,hl2,ht2,hq2,hq3,hr2,hb2⟩
 go_wp2_with fail
 go_ret
 exact⟨a2,n2,c2,l2,q2,rfl,ho2,hl2,ht2,by omega,by omega,hr2,hb1.trans hb2⟩
def RetSD (w:World) (e:Ending) (w':World):Prop:=
 ∃a n c,∃l:List Stn,∃b m d,∃ds:List ByteArray,e= .returned (.tuple #[.slice a n c,.slice b m d])∧OwnS w' w.heap.size a n c l∧l.length≤4∧TinyS l∧RdT w' b m ds∧m≤d∧(b=none→d=0)∧ds.length≤5∧(∀s∈ds,s.size≤8)∧(∀x,b=some x→w.heap.size≤x.block)∧Below w.heap.size w w'
theorem Zsw {l:List ByteArray} {s:ByteArray} {m:Nat} (h:∀s∈l,s.size≤m) (hs:s.size≤m):∀t∈l++[s],t.size≤m:=by
 intro t ht
 rcases List.mem_append.1 ht with h1|h1
 ·exact h t h1
 ·rw[List.mem_singleton.1 h1];exact hs
theorem Zacj {l:List ByteArray} {s:ByteArray} {m k:Nat} (h:∀s∈l,s.size≤m) (hs:s.size≤m):∀t∈l.set k s,t.size≤m:=by
 intro t ht
 rcases List.mem_or_eq_of_mem_set ht with h1|h1
 ·exact h t h1
 ·rw[h1];exact hs
theorem OwnF.base {α:Type} {f:α→Value} {t:TypeId} {w:World} {lo n c:Nat} {ao:Option Addr} {l:List α} (h:OwnF f t w lo ao n c l) (hn:0<n):∃b,ao=some ⟨b,0,none⟩∧lo≤b:=by
 rcases h.2.2.2 with ⟨h1,h2⟩|⟨g,cap,cur,hv,hg,_⟩
 ·have:=h.1;omega
 ·cases hv;exact⟨g,rfl,hg⟩
theorem Z69 {w:World} {ao:Option Addr} {n c:Nat} (h:Zzb w ao n c):Calls Tryz.prog 9 #[.slice ao n c] w (RetSD w):=by
 obtain⟨lb,hR,hcap,hby⟩:=h
 go_enter Tryz.func9,Tryz.ntmps9
 go_wp2_with fail
 refine(Zkd hR hcap hby).mono ?_;rintro e w1 ⟨rfl,hr1,hb1⟩
 have hz1:=hb1.size
 clear hR hby
 go_wp2_with fail
 refine(Zae3 hr1 (by omega)).mono ?_;rintro e w2 ⟨a1,n1,c1,l1,q1,rfl,ho1,h4,ht,hq0,hq1,hr2,hb2⟩
 have hgl:=hr1.lt
 have hbb:=hb1.trans hb2
 have hz2:=hbb.size
 have hl2:=hr2.lt
 have HN:=Lib.hid ho1.1
 have hn4:n1≤4:=by have:=HN.out;omega
 clear hr1 hb1 hb2
 have hr3:=hr2.alloc (.cells #[] 9)
 have hw3:Below w2.heap.size w2 (w2.alloc (.cells #[] 9)):=(Below.refl _ _).alloc (Nat.le_refl _) _
 have hg3:w2.grownBy (w2.alloc (.cells #[] 9)) (some w.heap.size):=Zad hw3 _
 have hz3:=hw3.size
 have ho3:Zjo (w2.alloc (.cells #[] 9)) w2.heap.size (.slice (some ⟨w2.heap.size,0,none⟩) 0 0) []:=OwnVF.made0 _ _ w2 (Nat.le_refl _)
 clear hw3 hr2
 go_wp2_with fail
 go_loopw [6,7] (fun v i wr=>∃(k:Nat) (ds:List ByteArray) (q:Nat),k≤n1∧i= .int .i64 k∧Hid (ds.length=k)∧Hid (∀s∈ds,s.size≤8)∧Zjo wr w2.heap.size v ds∧q1≤q∧q≤q1+21*k∧Rdr wr w.heap.size q∧w2.grownBy wr (some w.heap.size)) (fun _ i _=>n1-(intOf i).toNat)
 case atStart=>exact⟨0,[],q1,Nat.zero_le _,rfl,Lib.hid rfl,Lib.hid (fun s hs=>by cases hs),ho3,by omega,by omega,hr3,hg3⟩
 case round=>
  clear ho3 hr3 hg3
  obtain⟨k,ds,q,hk,rfl,HL,HD,ho,hq2,hq3,hr,hg⟩:=hrel
  have hz:=hg.size
  by_cases hlt:k<n1
  ·go_wp2_with fail
   refine(Zns 8 hr (by omega) (by omega)).mono ?_;rintro e w4 ⟨v,q4,rfl,hv,hq4,hq5,hr4,hg4⟩
   have ho4:Zjo w4 w2.heap.size _ ds:=Zc8 ho hg4 (by omega)
   have hgD:=hg.trans hg4
   have hzD:=hgD.size
   have HL2:=Lib.hid (show(ds++[v]).length=k+1 by rw[List.length_append,HL.out];rfl)
   have HD2:=Lib.hid (Zsw HD.out hv)
   clear ho hr hg hg4
   go_wp2_with (at_builtin;refine Zd5 24 9 16 ByteArray.empty Tryz.underlying24 Zd2 rfl (by decide) (fun _=>rfl) w4 rfl _ _ rfl w2.heap.size _ _ _ rfl (by exact ho4) rfl (by have:=HL.out;omega) hzD ?_;intro v' w5 ho5 _ hb5)
   have hr5:=hr4.farGt2 hb5 (by omega)
   have hg5:=Zd0 hgD hb5
   go_roundw
   case rel=>exact⟨k+1,ds++[v],q4,by omega,by go_num,HL2,HD2,ho5,by omega,by omega,hr5,hg5⟩
   case measure=>simp[intOf];omega
  ·obtain rfl:k=n1:=by omega
   have hd5:ds.length≤4:=by have:=HL.out;omega
   have hos:=ho1.gr hg hgl
   have hbk:=hbb.trans (Zah hg (Nat.le_refl _) hbb.size)
   have hob:=fun k hk=>(ho1.2.2.lt k hk).2
   have HL3:=Lib.hid HL.out
   clear hbb ho1
   go_wp2_with fail
   refine(Zbm _ hr (by omega)).mono ?_;rintro e w4 ⟨u,rfl,u0,u1,hr4,hg4⟩
   have ho4:Zjo w4 w2.heap.size _ ds:=Zc8 ho hg4 (by omega)
   have hos4:=(hos.gr hg4 hgl).mono hz1
   have hb4:=hbk.trans (Zah hg4 (Nat.le_refl _) hbk.size)
   have hzD:=hg4.size
   clear ho hr hg hg4 hbk hos u1
   by_cases hu0:(u==0)=true
   ·go_wp2_with (at_builtin;refine Zd5 24 9 16 ByteArray.empty Tryz.underlying24 Zd2 rfl (by decide) (fun _=>rfl) w4 rfl _ _ rfl w2.heap.size _ _ _ rfl (by exact ho4) rfl (by omega) (by omega) ?_;intro v' w5 ho5 _ hb5)
    have hos5:OwnS w5 w.heap.size a1 k c1 l1:=⟨hos4.1,hos4.2.1,Zam hos4.2.2 hb5 hob⟩
    obtain⟨a3,n3,c3,hv,ho8⟩:=ho5.own (by simp;omega)
    subst hv
    go_ret2
    exact⟨a1,k,c1,l1,a3,n3,c3,_,rfl,hos5,h4,ht,ho8.rd,ho8.cap,ho8.zero,by simp;omega,Zsw HD.out (by decide),fun x hx=>by have:=(ho8.lt x hx).1;omega,hb4.trans (hb5.mono (by omega))⟩
   ·have hu0':(u==0)=false:=by simpa using hu0
    clear hu0
    by_cases hu1:(u==1)=true
    ·obtain⟨a2,n2,c2,hv,ho2⟩:=ho4.own (by omega)
     subst hv
     by_cases hn0:0<n2
     ·obtain⟨b2,rfl,hbb2⟩:=ho2.base hn0
      have hrow:=RowF.of ho2.v
      have HN2:=Lib.hid ho2.1
      have hcap2:=ho2.cap
      have hn24:n2≤4:=by have:=HN2.out;omega
      have hl0:0<ds.length:=by have:=HN2.out;omega
      have hc0:=hrow.cell hl0
      have hf0:=hrow.free hl0
      have hrow2:=hrow.set (i:=0) (⟨#[50]⟩:ByteArray)
      have hb5:=hb4.setCell (p:=⟨b2,0,none⟩) (show w.heap.size≤b2 by omega) (.string ⟨#[50]⟩)
      have hos5:OwnS (w4.setCell ⟨b2,0,none⟩ (.string ⟨#[50]⟩)) w.heap.size a1 k c1 l1:=⟨hos4.1,hos4.2.1,Zam hos4.2.2 ((Below.refl _ _).setCell hbb2 _) hob⟩
      have hrd2:=hrow2.rd (n:=n2) (by rw[List.length_set];exact HN2.out) (by omega)
      have HX:=Lib.hid (Zacj (k:=0) HD.out (show(⟨#[50]⟩:ByteArray).size≤8 by decide))
      clear hrow hrow2 ho2 ho4 hos4 hb4
      generalize ds[0]=d0 at*
      go_wp2_with fail
      go_ret2
      exact⟨a1,k,c1,l1,_,n2,c2,_,rfl,hos5,h4,ht,hrd2,hcap2,fun hx=>(by cases hx),by rw[List.length_set];omega,HX.out,fun x hx=>by cases hx;show _≤b2;omega,hb5⟩
     ·obtain rfl:n2=0:=by omega
      have hnn:¬(0:Int)<((0:Nat):Int):=by omega
      go_wp2_with fail
      go_ret2
      exact⟨a1,k,c1,l1,a2,0,c2,ds,rfl,hos4,h4,ht,ho2.rd,ho2.cap,ho2.zero,by omega,HD.out,fun x hx=>by have:=(ho2.lt x hx).1;omega,hb4⟩
    ·have hu1':(u==1)=false:=by simpa using hu1
     clear hu1
     obtain⟨a2,n2,c2,hv,ho2⟩:=ho4.own (by omega)
     subst hv
     go_wp2_with fail
     go_ret2
     exact⟨a1,k,c1,l1,a2,n2,c2,ds,rfl,hos4,h4,ht,ho2.rd,ho2.cap,ho2.zero,by omega,HD.out,fun x hx=>by have:=(ho2.lt x hx).1;omega,hb4⟩
end Go.Proofs.YtcjihfongfefoaaGreatDoor
