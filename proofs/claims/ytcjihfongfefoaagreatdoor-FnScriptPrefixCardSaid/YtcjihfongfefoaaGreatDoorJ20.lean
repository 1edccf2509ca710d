/- Dh Ed -/
import Derived.Test.YtcjihfongfefoaaGreatDoorJ11
import Derived.Test.YtcjihfongfefoaaGreatDoorJ14
import Derived.Deep.RegionLaw
namespace Go.Proofs.YtcjihfongfefoaaGreatDoor
open Go.RowKit
set_option maxHeartbeats 25600000
set_option maxRecDepth 100000
def Zaeq (w:World) (g p:Nat) (e:Ending) (w':World):Prop:=
 ∃s t x:Int,∃q,e= .returned (.agg #[.int .i64 s,.int .i64 t,.int .i64 x])∧regB s t x=true∧p≤q∧q≤p+4∧Rdr w' g q∧w.grownBy w' (some g)
theorem Zaj {w w1 w2:World} {g:Nat} (h:w.grownBy w1 (some g)) (hb:Below w1.heap.size w1 w2):w.grownBy w2 (some g):=h.trans (Zad hb _)
theorem Zpp {w:World} {g p:Nat} (h:Rdr w g p) (hp:p≤1073741000):Calls Tryz.prog 156 #[.pointer (some ⟨g,0,none⟩)] w (Zaeq w g p):=by
 have hbz:Below w.heap.size w (w.alloc (.cells #[.int .i64 0,.int .i64 0,.int .i64 0] 46)):=(Below.refl _ _).alloc (Nat.le_refl _) _
 have hRg:=Box.new w #[.int .i64 0,.int .i64 0,.int .i64 0] 46
 have hgl:=h.lt
 have h1:=(h.below hbz).alloc (.cells #[.int .i64 3,.int .i64 4,.int .i64 5,.int .i64 2,.int .i64 6,.int .i64 7,.int .i64 8] 3)
 have hRg1:=hRg.alloc (.cells #[.int .i64 3,.int .i64 4,.int .i64 5,.int .i64 2,.int .i64 6,.int .i64 7,.int .i64 8] 3)
 have hgb:w.heap.size≠g:=by omega
 go_enter Tryz.func156,Tryz.ntmps156
 go_wp2_with fail
 refine(num_c h1 (by omega) (rd_lit' _ [3,4,5,2,6,7,8] _ _ _ (by simp) rfl (by decide)) (by intro a ha;cases ha;simp;omega) (by decide)).mono ?_;rintro e w1 ⟨s,rfl,hs,hr1,hg1⟩
 have hs2:2≤s∧s≤8:=by simp at hs;omega
 have hRg2:=hRg1.gr hg1 hgb
 have hgA:w.grownBy w1 (some g):=(Zad (hbz.alloc (by simp) _) _).trans hg1
 clear hs hg1 h1 hbz h hRg hRg1
 go_wp2_with fail
 refine(Zdd _ _ (by omega)).mono ?_;rintro e w' ⟨rfl,rfl⟩
 have hpw:(4:Int)≤2^s.toNat∧(2:Int)^s.toNat≤256:=by rcases Zkm hs2 with rfl|rfl|rfl|rfl|rfl|rfl|rfl<;>decide
 have HP:=Lib.hid (show(2:Int)^s.toNat=2^s.toNat from rfl)
 obtain⟨P,hP⟩:∃P:Int,P=2^s.toNat:=⟨_,rfl⟩
 have HPP:=Lib.hid hP
 rw[←hP]at hpw ⊢
 clear hP HP
 go_wp2_with fail
 refine(Zbm _ hr1 (by omega)).mono ?_;rintro e w2 ⟨v,rfl,v0,v1,hr2,hg2⟩
 have hRg3:=hRg2.gr hg2 hgb
 have hgB:=hgA.trans hg2
 clear hRg2 hgA hg2 hr1
 go_wp2_with fail
 refine(Zbm _ hr2 (by omega)).mono ?_;rintro e w3 ⟨u,rfl,u0,u1,hr3,hg3⟩
 have hRg4:=hRg3.gr hg3 hgb
 have hgC:=hgB.trans hg3
 clear hRg3 hgB hg3 hr2
 have HT:=Lib.hid (Zdd s)
 by_cases hu:(u==0)=true
 ·obtain⟨k,hk⟩:=Int.eq_ofNat_of_zero_le (show 0≤s-2 by omega)
  have hkl:k<[(3:Int),3,3,5,3,3,29].length:=by simp;omega
  obtain⟨t,ht,htb⟩:∃t:Int,(w3.alloc (.cells #[.int .i64 3,.int .i64 3,.int .i64 3,.int .i64 5,.int .i64 3,.int .i64 3,.int .i64 29] 3)).cell? ⟨w3.heap.size,k,none⟩=some (.int .i64 t)∧1≤t∧t<P:=by
   have hB:=Box.new w3 #[.int .i64 3,.int .i64 3,.int .i64 3,.int .i64 5,.int .i64 3,.int .i64 3,.int .i64 29] 3
   have hPP:=HPP.out
   rcases Zkm hs2 with rfl|rfl|rfl|rfl|rfl|rfl|rfl
   ·obtain rfl:k=0:=by omega
    exact⟨3,hB.cell rfl,by omega,by rw[hPP];decide⟩
   ·obtain rfl:k=1:=by omega
    exact⟨3,hB.cell rfl,by omega,by rw[hPP];decide⟩
   ·obtain rfl:k=2:=by omega
    exact⟨3,hB.cell rfl,by omega,by rw[hPP];decide⟩
   ·obtain rfl:k=3:=by omega
    exact⟨5,hB.cell rfl,by omega,by rw[hPP];decide⟩
   ·obtain rfl:k=4:=by omega
    exact⟨3,hB.cell rfl,by omega,by rw[hPP];decide⟩
   ·obtain rfl:k=5:=by omega
    exact⟨3,hB.cell rfl,by omega,by rw[hPP];decide⟩
   ·obtain rfl:k=6:=by omega
    exact⟨29,hB.cell rfl,by omega,by rw[hPP];decide⟩
  have hbl:Below w3.heap.size w3 (w3.alloc (.cells #[.int .i64 3,.int .i64 3,.int .i64 3,.int .i64 5,.int .i64 3,.int .i64 3,.int .i64 29] 3)):=(Below.refl _ _).alloc (Nat.le_refl _) _
  have hr4:=hr3.below hbl
  have hRg5:=hRg4.below hbl hRg4.lt
  have hgD:=Zaj hgC hbl
  have hk7:(k:Int)<7:=by simp at hkl;omega
  have hk7':k<7:=by omega
  have H1:s-2=(k:Int):=hk
  clear hr3 hRg4 hgC hbl hkl hk
  go_wp2_with fail
  refine(HT.out _ (by omega)).mono ?_;rintro e w' ⟨rfl,rfl⟩
  rw[←HPP.out]
  clear H1
  go_wp2_with fail
  refine(Zbm _ hr4 (by omega)).mono ?_;rintro e w4 ⟨x,rfl,x0,x1,hr5,hg5⟩
  have hRg6:=hRg5.gr hg5 hgb
  have hgE:=hgD.trans hg5
  have c0:=hRg6.cell (i:=0) rfl
  have c1:=hRg6.cell (i:=1) rfl
  have c2:=hRg6.cell (i:=2) rfl
  have f0:=hRg6.free 0
  have f1:=hRg6.free 1
  have f2:=hRg6.free 2
  have hz:=hRg6.lt
  have hRgF:=((hRg6.set2 0 (.int .i64 s)).set2 1 (.int .i64 t)).set2 2 (.int .i64 x)
  have b0:=hRgF.cell (i:=0) (by simp;rfl)
  have b1:=hRgF.cell (i:=1) (by simp;rfl)
  have b2:=hRgF.cell (i:=2) (by simp;rfl)
  have hrF:=(((hr5.farGt (Za1 w.heap.size 0 (.int .i64 s)) hgl).farGt (Za1 w.heap.size 1 (.int .i64 t)) hgl).farGt (Za1 w.heap.size 2 (.int .i64 x)) hgl)
  have hgF:=Zc5 (Zc5 (Zc5 hgE (Nat.le_refl _) 0 (.int .i64 s)) (Nat.le_refl _) 1 (.int .i64 t)) (Nat.le_refl _) 2 (.int .i64 x)
  have HRB:=Lib.hid (show regB s t x=true by
   have hPP:=HPP.out
   unfold regB tapB
   rw[Zax hs2.1 hs2.2,←hPP,Zax htb.1 (by omega),Zax x0 (by omega)];rfl)
  clear hRg6 hRgF hgE hg5 hr5 hr4 hRg5 hgD
  go_wp2_with fail
  refine bodyPost_ret (v:=.agg #[.int .i64 s,.int .i64 t,.int .i64 x]) (by simp[results,Tryz.results156,go_sem,b0,b1,b2]) rfl ?_
  exact⟨s,t,x,p+1+1+1+1,rfl,HRB.out,by omega,by omega,hrF,hgF⟩
 ·have hu':(u==0)=false:=by simpa using hu
  have hgD:=hgC
  have hRg5:=hRg4
  have hr4:=hr3
  have htb:1≤1+v∧1+v<P:=by omega
  clear hgC hRg4 hr3 hu
  go_wp2_with fail
  refine(HT.out _ (by omega)).mono ?_;rintro e w' ⟨rfl,rfl⟩
  rw[←HPP.out]
  go_wp2_with fail
  refine(Zbm _ hr4 (by omega)).mono ?_;rintro e w4 ⟨x,rfl,x0,x1,hr5,hg5⟩
  have hRg6:=hRg5.gr hg5 hgb
  have hgE:=hgD.trans hg5
  have c0:=hRg6.cell (i:=0) rfl
  have c1:=hRg6.cell (i:=1) rfl
  have c2:=hRg6.cell (i:=2) rfl
  have f0:=hRg6.free 0
  have f1:=hRg6.free 1
  have f2:=hRg6.free 2
  have hz:=hRg6.lt
  have hRgF:=((hRg6.set2 0 (.int .i64 s)).set2 1 (.int .i64 (1+v))).set2 2 (.int .i64 x)
  have b0:=hRgF.cell (i:=0) (by simp;rfl)
  have b1:=hRgF.cell (i:=1) (by simp;rfl)
  have b2:=hRgF.cell (i:=2) (by simp;rfl)
  have hrF:=(((hr5.farGt (Za1 w.heap.size 0 (.int .i64 s)) hgl).farGt (Za1 w.heap.size 1 (.int .i64 (1+v))) hgl).farGt (Za1 w.heap.size 2 (.int .i64 x)) hgl)
  have hgF:=Zc5 (Zc5 (Zc5 hgE (Nat.le_refl _) 0 (.int .i64 s)) (Nat.le_refl _) 1 (.int .i64 (1+v))) (Nat.le_refl _) 2 (.int .i64 x)
  have HRB:=Lib.hid (show regB s (1+v) x=true by
   have hPP:=HPP.out
   unfold regB tapB
   rw[Zax hs2.1 hs2.2,←hPP,Zax htb.1 (by omega),Zax x0 (by omega)];rfl)
  clear hRg6 hRgF hgE hg5 hr5 hr4 hRg5 hgD
  go_wp2_with fail
  refine bodyPost_ret (v:=.agg #[.int .i64 s,.int .i64 (1+v),.int .i64 x]) (by simp[results,Tryz.results156,go_sem,b0,b1,b2]) rfl ?_
  exact⟨s,(1+v),x,p+1+1+1+1,rfl,HRB.out,by omega,by omega,hrF,hgF⟩
theorem Ze6 {w:World} {g p n b c:Nat} {t:TypeId} (l:List Int) (h:Rdr w g p) (hp:p≤1073741824) (hb:b=w.heap.size) (hn:n=l.length) (hs:l.length≤1099511627776) (hn0:0<n):
 Calls Tryz.prog 71 #[.pointer (some ⟨g,0,none⟩),.slice (some ⟨b,0,none⟩) n c] (w.alloc (.cells (l.map (Value.int .i64)).toArray t)) (NumP (w.alloc (.cells (l.map (Value.int .i64)).toArray t)) g p l):=by
 refine num_c (h.alloc _) hp (rd_lit' w l t b n hb hn hs) ?_ hn0
 intro a ha
 cases ha
 have:=h.lt
 intro _
 show b≠g
 omega
def PickS (w:World) (g p:Nat) (l:List ByteArray) (e:Ending) (w':World):Prop:=
 ∃v:ByteArray,e= .returned (.string v)∧v∈l∧Rdr w' g (p+1)∧w.grownBy w' (some g)
def Zaa4 (w:World) (g p k m:Nat) (e:Ending) (w':World):Prop:=
 ∃v:ByteArray,∃q,e= .returned (.string v)∧v.size≤m∧p≤q∧q≤p+k∧Rdr w' g q∧w.grownBy w' (some g)
theorem ofS_c {w:World} {g p n c:Nat} {ao:Option Addr} {l:List ByteArray} (h:Rdr w g p) (hp:p≤1073741824) (hR:RdT w ao n l) (hne:∀a,ao=some a→0<n→a.block≠g) (hn:0<n):
 Calls Tryz.prog 73 #[.pointer (some ⟨g,0,none⟩),.slice ao n c] w (PickS w g p l):=by
 have hs:=hR.2.1
 go_enter Tryz.func73,Tryz.ntmps73
 go_wp2_with fail
 refine(Zbm _ h hp).mono ?_;rintro e w1 ⟨v,rfl,h0,h1,hr1,hg1⟩
 obtain⟨k,rfl⟩:=Int.eq_ofNat_of_zero_le h0
 have hk:k<n:=by omega
 obtain⟨b,off,rfl,hl,hc⟩:=(hR.gr hg1 hne).at hk
 clear h1
 go_wp2_with fail
 go_ret
 exact⟨_,rfl,List.getElem_mem hl,hr1,hg1⟩
theorem Zake (w:World) (l:List ByteArray) (t:TypeId) (b n:Nat) (hb:b=w.heap.size) (hn:n=l.length) (hs:l.length≤1099511627776):RdT (w.alloc (.cells (l.map Value.string).toArray t)) (some ⟨b,0,none⟩) n l:=by
 subst hb hn
 refine⟨rfl,hs,fun i hi=>⟨w.heap.size,0,rfl,?_⟩⟩
 rw[Nat.zero_add]
 exact(Box.new w _ t).cell (by simp[hi])
theorem Zg7 {w:World} {g p n b c:Nat} {t:TypeId} (l:List ByteArray) (h:Rdr w g p) (hp:p≤1073741824) (hb:b=w.heap.size) (hn:n=l.length) (hs:l.length≤1099511627776) (hn0:0<n):
 Calls Tryz.prog 73 #[.pointer (some ⟨g,0,none⟩),.slice (some ⟨b,0,none⟩) n c] (w.alloc (.cells (l.map Value.string).toArray t)) (PickS (w.alloc (.cells (l.map Value.string).toArray t)) g p l):=by
 refine ofS_c (h.alloc _) hp (Zake w l t b n hb hn hs) ?_ hn0
 intro a ha
 cases ha
 have:=h.lt
 intro _
 show b≠g
 omega
theorem Zj0 {ops:Array Oper} {rest:List Oper} {o:Oper} {a:Act} {Q:Exit→Act→World→Prop} (w:World) (hgd:o.guard=none) (s x:Operand)
 (hop:o.op=Op.makeSlice 22 s x) (kl kc:IntKind) (n:Nat) (C:Int) (hC:C=n) (hs:a.eval s= .int kl 0) (hx:a.eval x= .int kc C) (hn:n≤1099511627776)
 (h:∀w',Zg1 w' w.heap.size (.slice (some ⟨w.heap.size,0,none⟩) 0 n) []→Below w.heap.size w w'→
   wpList Tryz.prog ops Q rest (a.put o.dst (.slice (some ⟨w.heap.size,0,none⟩) 0 n)) w'):
 wpList Tryz.prog ops Q (o::rest) a w:=by
 obtain⟨i0,hi,hz0,hz1,hz2⟩:=info_parts Zct
 refine wpList_make_own w hgd s x 22 hop w.heap.size 5 i0 _ 1 Tryz.underlying22 hi hz0 hz1 kl kc C n hs hx hC (by rw[hz2];omega) (by unfold maxLen;omega) (Nat.le_refl _) ?_
 intro w1 h1 h2
 exact h w1 h1 ((Below.refl _ _).grown h2 (Nat.le_refl _) (by intro k hk;cases hk))
theorem Zns {w:World} {g p:Nat} (most:Nat) (h:Rdr w g p) (hp:p≤1073740000) (hm:most≤20):Calls Tryz.prog 44 #[.pointer (some ⟨g,0,none⟩),.int .i64 most] w (Zaa4 w g p 21 most):=by
 have hgl:=h.lt
 go_enter Tryz.func44,Tryz.ntmps44
 go_wp2_with (at_make;refine Zj0 w rfl _ _ rfl .i64 .i64 most _ rfl rfl rfl (by omega) ?_;intro w1 ho0 hb0)
 have hr0:=h.below hb0
 have hg0:=Zad hb0 (some g)
 clear h hb0
 go_wp2_with fail
 refine(Zbm _ hr0 (by omega)).mono ?_;rintro e w3 ⟨m,rfl,m0,m1,hr4,hg4⟩
 have hgD:=hg0.trans hg4
 have ho1:Zg1 w3 w.heap.size _ []:=Zc8 ho0 hg4 hgl
 clear hg4 hr0 ho0 hg0
 go_wp2_with fail
 go_loopw [5,6] (fun v i wr=>∃(k:Nat) (l:List Int),i= .int .i64 (k:Nat)∧l.length+k≤most∧Zg1 wr w.heap.size v l∧Rdr wr g (p+1+l.length)∧w.grownBy wr (some g)) (fun _ i _=>(intOf i).toNat)
 case atStart=>
  obtain⟨k,hk⟩:=Int.eq_ofNat_of_zero_le m0
  exact⟨k,[],by rw[hk],by simp;omega,ho1,hr4,hgD⟩
 case round=>
  clear ho1 hr4 hgD m0 m1
  obtain⟨k,l,rfl,hlk,ho,hr,hg⟩:=hrel
  have hz:=hg.size
  by_cases hk0:0<k
  ·go_wp2_with fail
   refine(Zbm _ hr (by omega)).mono ?_;rintro e w4 ⟨v2,rfl,v20,v21,hr5,hg5⟩
   have ho2:Zg1 w4 w.heap.size _ l:=Zc8 ho hg5 hgl
   have hgE:=hg.trans hg5
   have hzE:=hgE.size
   clear ho hg hg5 hr
   obtain rfl|rfl:v2=0∨v2=1:=by omega
   ·clear v20 v21
    go_wp2_with (at_builtin;refine Zd5 22 5 1 (0:Int) Tryz.underlying22 Zct rfl (by decide) (fun _=>rfl) w4 rfl _ _ rfl w.heap.size _ l 48 rfl (by exact ho2) rfl (by omega) hzE ?_;intro v' w5 ho3 _ hb5)
    have hr6:=hr5.farGt2 hb5 hgl
    have hgF:=Zd0 hgE hb5
    clear ho2 hr5 hgE hb5
    go_roundw
    case rel=>exact⟨k-1,l++[48],by go_num,by simp;omega,ho3,by simpa[Nat.add_assoc]using hr6,hgF⟩
    case measure=>simp[intOf];omega
   ·clear v20 v21
    go_wp2_with (at_builtin;refine Zd5 22 5 1 (0:Int) Tryz.underlying22 Zct rfl (by decide) (fun _=>rfl) w4 rfl _ _ rfl w.heap.size _ l 49 rfl (by exact ho2) rfl (by omega) hzE ?_;intro v' w5 ho3 _ hb5)
    have hr6:=hr5.farGt2 hb5 hgl
    have hgF:=Zd0 hgE hb5
    clear ho2 hr5 hgE hb5
    go_roundw
    case rel=>exact⟨k-1,l++[49],by go_num,by simp;omega,ho3,by simpa[Nat.add_assoc]using hr6,hgF⟩
    case measure=>simp[intOf];omega
  ·obtain rfl:k=0:=by omega
   obtain⟨a2,n2,c2,hv,ho2⟩:=OwnVF.own ho (by omega)
   subst hv
   have hrd:=ho2.rd
   clear ho ho2
   go_wp2_with (with_reducible refine Zca 22 5 9 Tryz.underlying22 Tryz.underlying5 Tryz.underlying9 _ rfl (.tmp 24) rfl rfl hrd ?_)
   go_ret
   exact⟨text l,_,rfl,by rw[Zaq];omega,by omega,by omega,hr,hg⟩
end Go.Proofs.YtcjihfongfefoaaGreatDoor
