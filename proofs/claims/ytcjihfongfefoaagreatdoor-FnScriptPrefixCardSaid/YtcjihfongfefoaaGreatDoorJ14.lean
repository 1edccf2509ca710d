/- D -/
import Derived.Test.YtcjihfongfefoaaGreatDoorJ03
import Derived.Test.YtcjihfongfefoaaGreatDoorJ05
namespace Go.Proofs.YtcjihfongfefoaaGreatDoor
open Go.RowKit
set_option maxHeartbeats 25600000
set_option maxRecDepth 100000
def Rdr (w:World) (g p:Nat):Prop:=
 ∃bo nb cb lb,Box w g #[.slice bo nb cb,.int .i64 (p:Int)] 127∧RdB w bo nb lb∧(∀a,bo=some a→0<nb→a.block<g)∧(∀x∈lb,0≤x∧x<256)∧nb≤2000
theorem Zad {w w':World} (h:Below w.heap.size w w') (row:Option Nat):w.grownBy w' row:=⟨h.os,h.tape,h.output,h.size,fun k hk _=>h.block k hk⟩
theorem Za1 {w:World} (g i:Nat) (u:Value):w.grownBy (w.setCell ⟨g,i,none⟩ u) (some g):=
 ⟨rfl,rfl,rfl,by simp[World.setCell],fun k hk hne=>Below.heap_setCell _ _ _ _ (by rintro rfl;exact hne rfl)⟩
theorem Zah {w w':World} {g B:Nat} (h:w.grownBy w' (some g)) (hg:B≤g) (hB:B≤w.heap.size):Below B w w':=
 ⟨h.os,h.tape,h.output,h.size,fun k hk=>h.block k (by omega) (fun e=>by injection e;omega)⟩
theorem RdF.gr {α:Type} {f:α→Value} {w w':World} {ao:Option Addr} {n g:Nat} {l:List α} (h:RdF f w ao n l) (hg:w.grownBy w' (some g)) (hne:∀a,ao=some a→0<n→a.block≠g):RdF f w' ao n l:=by
 refine⟨h.1,h.2.1,fun i hi=>?_⟩
 obtain⟨b,off,h1,h2⟩:=h.2.2 i hi
 refine⟨b,off,h1,?_⟩
 have h6:some b≠some g:=fun e=>hne _ h1 (by have:=h.1;omega) (by injection e)
 rw[World.cell?_of_block (w:=w) (hg.block b (Zaa h2) h6)]
 exact h2
theorem Rd.gr {w w':World} {ao:Option Addr} {n g:Nat} {l:List Int} (h:Rd w ao n l) (hg:w.grownBy w' (some g)) (hne:∀a,ao=some a→0<n→a.block≠g):Rd w' ao n l:=by
 refine⟨h.1,h.2.1,fun i hi=>?_⟩
 obtain⟨b,off,h1,h2⟩:=h.2.2 i hi
 refine⟨b,off,h1,?_⟩
 have h6:some b≠some g:=fun e=>hne _ h1 (by omega) (by injection e)
 rw[World.cell?_of_block (w:=w) (hg.block b (Zaa h2) h6)]
 exact h2
theorem Zc8 {w w':World} {g lo size n:Nat} {t:TypeId} {v:Value} {xs:List Value} (h:w.ownsRow lo t size v n xs) (hg:w.grownBy w' (some g)) (hlt:g<lo):w'.ownsRow lo t size v n xs:=
 h.kept hg (by
  cases hv:v.ownBlock with
  |none=>exact .inl rfl
  |some k=>right;intro e;have:=(h.lt k hv).1;injection e;omega)
theorem Own.gr {w w':World} {g lo n c:Nat} {ao:Option Addr} {l:List Int} (h:Own w lo ao n c l) (hg:w.grownBy w' (some g)) (hlt:g<lo):Own w' lo ao n c l:=⟨h.1,h.2.1,Zc8 h.2.2 hg hlt⟩
theorem Box.gr {w w':World} {b g:Nat} {cs:Array Value} {t:TypeId} (h:Box w b cs t) (hg:w.grownBy w' (some g)) (hne:b≠g):Box w' b cs t:=by
 unfold Box;rw[hg.block b h.lt (fun e=>hne (by injection e))];exact h
theorem Box.set2 {w:World} {b:Nat} {cs:Array Value} {t:TypeId} (h:Box w b cs t) (i:Nat) (u:Value):Box (w.setCell ⟨b,i,none⟩ u) b (cs.setIfInBounds i u) t:=by
 unfold Box at*
 simp[World.setCell,Array.getElem?_modify,h]
theorem Rdr.lt {w:World} {g p:Nat} (h:Rdr w g p):g<w.heap.size:=by obtain⟨bo,nb,cb,lb,h1,_⟩:=h;exact h1.lt
theorem Rdr.below {w w':World} {g p:Nat} (h:Rdr w g p) (hb:Below w.heap.size w w'):Rdr w' g p:=by
 obtain⟨bo,nb,cb,lb,h1,h2,h3⟩:=h
 exact⟨bo,nb,cb,lb,h1.below hb h1.lt,h2.below hb,h3⟩
theorem Rdr.alloc {w:World} {g p:Nat} (h:Rdr w g p) (o:Obj):Rdr (w.alloc o) g p:=h.below ((Below.refl _ _).alloc (Nat.le_refl _) _)
theorem Rdr.farGt {w w':World} {g p k:Nat} (h:Rdr w g p) (hg:w.grownBy w' (some k)) (hk:g<k):Rdr w' g p:=by
 obtain⟨bo,nb,cb,lb,h1,h2,h3,h4⟩:=h
 exact⟨bo,nb,cb,lb,h1.gr hg (by omega),h2.gr hg (fun a ha h0=>by have:=h3 a ha h0;omega),h3,h4⟩
theorem Zc5 {w w1:World} {g b:Nat} (h:w.grownBy w1 (some g)) (hb:w.heap.size≤b) (i:Nat) (u:Value):w.grownBy (w1.setCell ⟨b,i,none⟩ u) (some g):=
 ⟨h.os,h.tape,h.output,by simpa[World.setCell]using h.size,fun k hk hne=>(Below.heap_setCell _ _ _ _ (show k≠b by omega)).trans (h.block k hk hne)⟩
theorem Rdr.farGt2 {w w':World} {g p lo:Nat} (h:Rdr w g p) (hb:Below lo w w') (hk:g<lo):Rdr w' g p:=by
 obtain⟨bo,nb,cb,lb,h1,h2,h3,h4⟩:=h
 refine⟨bo,nb,cb,lb,h1.below hb hk,?_,h3,h4⟩
 refine⟨h2.1,h2.2.1,fun i hi=>?_⟩
 obtain⟨b,off,e1,e2⟩:=h2.2.2 i hi
 exact⟨b,off,e1,by rw[hb.cell (show b<lo by have:=h3 _ e1 (by have:=h2.1;omega);simp at this;omega)];exact e2⟩
theorem Zd0 {w w1 w2:World} {g:Nat} (h:w.grownBy w1 (some g)) (hb:Below w.heap.size w1 w2):w.grownBy w2 (some g):=
 ⟨hb.os.trans h.os,hb.tape.trans h.tape,hb.output.trans h.output,Nat.le_trans h.size hb.size,fun k hk hne=>(hb.block k hk).trans (h.block k hk hne)⟩
theorem Rdr.step {w:World} {g p:Nat} (h:Rdr w g p):Rdr (w.setCell ⟨g,1,none⟩ (.int .i64 ((p:Int)+1))) g (p+1):=by
 obtain⟨bo,nb,cb,lb,h1,h2,h3,h4⟩:=h
 exact⟨bo,nb,cb,lb,by have:=h1.set2 1 (.int .i64 ((p:Int)+1));simpa using this,h2.gr (Za1 _ _ _) (fun a ha h0=>Nat.ne_of_lt (h3 a ha h0)),h3,h4⟩
def PickP (w:World) (g p:Nat) (n:Int) (e:Ending) (w':World):Prop:=
 ∃v:Int,e= .returned (.int .i64 v)∧0≤v∧(v=0∨v<n)∧Rdr w' g (p+1)∧w.grownBy w' (some g)
theorem Zagv (a b:Nat) (ha:a<4611686018427387904) (hb:b<4611686018427387904):∃y:Nat,bits .xor .i64 (a:Int) (b:Int)=(y:Int)∧y<4611686018427387904:=by
 have h:a ^^^ b<2^62:=Nat.xor_lt_two_pow (by omega) (by omega)
 exact⟨a ^^^ b,Zlc a b ha hb,by omega⟩
theorem Zbm {w:World} {g p:Nat} (n:Int) (h:Rdr w g p) (hp:p≤1073741824):
 Calls Tryz.prog 45 #[.pointer (some ⟨g,0,none⟩),.int .i64 n] w (PickP w g p n):=by
 have hst:=h.step
 have hg1:=Za1 (w:=w) g 1 (.int .i64 ((p:Int)+1))
 obtain⟨bo,nb,cb,lb,hB,hR,hne,hby,hnb⟩:=h
 have d0:=hB.cell (i:=0) rfl
 have d1:=hB.cell (i:=1) rfl
 have f1:=hB.free 1
 have hB1:=hB.set2 1 (.int .i64 ((p:Int)+1))
 have e0:=hB1.cell (i:=0) (by simp;rfl)
 have e1:=hB1.cell (i:=1) (by simp;rfl)
 have hR1:=hR.gr hg1 (fun a ha h0=>Nat.ne_of_lt (hne a ha h0))
 clear hB hR hne hB1
 by_cases hn:n<1
 ·go_enter Tryz.func45,Tryz.ntmps45
  go_wp2_with fail
  go_ret
  exact⟨0,rfl,by omega,.inl rfl,hst,hg1⟩
 ·by_cases h0:nb=0
  ·have h0':((nb:Int)==0)=true:=by simp;omega
   subst h0
   go_enter Tryz.func45,Tryz.ntmps45
   go_wp2_with fail
   go_ret
   exact⟨0,rfl,by omega,.inl rfl,hst,hg1⟩
  ·have h0':((nb:Int)==0)=false:=by simp;omega
   have hn0:(n==0)=false:=by simp;omega
   by_cases hk:p<nb
   ·obtain⟨b,off,rfl,hl,hc⟩:=hR1.at hk
    obtain⟨x0,x1⟩:=hby _ (List.getElem_mem hl)
    have v0:=Int.emod_nonneg lb[p] (show n≠0 by omega)
    have v1:=Int.emod_lt_of_pos lb[p] (show 0<n by omega)
    have hnn:0<n:=by omega
    have hcv:lb[p].tmod n=lb[p]%n:=Int.tmod_eq_emod_of_nonneg x0
    go_enter Tryz.func45,Tryz.ntmps45
    go_wp2_with fail
    go_ret
    exact⟨_,rfl,v0,.inr v1,hst,hg1⟩
   ·have hi1:p%nb<nb:=Nat.mod_lt _ (by omega)
    have hi2:(p*7+3)%nb<nb:=Nat.mod_lt _ (by omega)
    obtain⟨i1,hi1e⟩:∃i,i=p%nb:=⟨_,rfl⟩
    obtain⟨i2,hi2e⟩:∃i,i=(p*7+3)%nb:=⟨_,rfl⟩
    rw[←hi1e]at hi1
    rw[←hi2e]at hi2
    obtain⟨b,off,rfl,hl1,hc1⟩:=hR1.at hi1
    obtain⟨b',off',heq,hl2,hc2⟩:=hR1.at hi2
    obtain⟨rfl,rfl⟩:b=b'∧off=off':=by simpa using heq
    obtain⟨x0,x1⟩:=hby _ (List.getElem_mem hl1)
    obtain⟨y0,y1⟩:=hby _ (List.getElem_mem hl2)
    generalize lb[i1]=x at*
    generalize lb[i2]=y at*
    have hq:p/nb≤p:=Nat.div_le_self _ _
    have t1:(p:Int).tmod (nb:Int)=(i1:Int):=by rw[hi1e];rfl
    have t2:((p:Int)*7+3).tmod (nb:Int)=(i2:Int):=by rw[hi2e];rfl
    have t3:(p:Int).tdiv (nb:Int)=((p/nb:Nat):Int):=rfl
    generalize p/nb=q at hq t3
    clear hi1e hi2e heq hR1 hby
    obtain⟨X,hX⟩:=Int.eq_ofNat_of_zero_le (show 0≤x*131+y*1117+(p:Int)*29+(q:Int)*53 by omega)
    obtain⟨Y,hY,hYl⟩:=Zagv X (X/64) (by omega) (by omega)
    have w1:IntKind.i64.wrap (x*131)=x*131:=IntWalk.i64_in _ (by omega)
    have w2:IntKind.i64.wrap ((p:Int)*7)=(p:Int)*7:=IntWalk.i64_in _ (by omega)
    have w3:IntKind.i64.wrap ((p:Int)*7+3)=(p:Int)*7+3:=IntWalk.i64_in _ (by omega)
    have w4:IntKind.i64.wrap (y*1117)=y*1117:=IntWalk.i64_in _ (by omega)
    have w5:IntKind.i64.wrap (x*131+y*1117)=x*131+y*1117:=IntWalk.i64_in _ (by omega)
    have w6:IntKind.i64.wrap ((p:Int)*29)=(p:Int)*29:=IntWalk.i64_in _ (by omega)
    have w7:IntKind.i64.wrap (x*131+y*1117+(p:Int)*29)=x*131+y*1117+(p:Int)*29:=IntWalk.i64_in _ (by omega)
    have w8:IntKind.i64.wrap (q:Int)=(q:Int):=IntWalk.i64_in _ (by omega)
    have w9:IntKind.i64.wrap ((q:Int)*53)=(q:Int)*53:=IntWalk.i64_in _ (by omega)
    have w10:IntKind.i64.wrap (x*131+y*1117+(p:Int)*29+(q:Int)*53)=(X:Int):=by rw[IntWalk.i64_in _ (by omega),hX]
    have b1:(0:Int)≤(i1:Int):=by omega
    have b2:(0:Int)≤(i2:Int):=by omega
    have v0:=Int.emod_nonneg (Y:Int) (show n≠0 by omega)
    have v1:=Int.emod_lt_of_pos (Y:Int) (show 0<n by omega)
    have HV:=Lib.hid (show(Y:Int).tmod n=(Y:Int)%n from Int.tmod_eq_emod_of_nonneg (by omega))
    have HX:=Lib.hid hX;clear hX
    have HY:=Lib.hid (show bits .xor .i64 (X:Int) ((X:Int)/64)=(Y:Int)from hY);clear hY
    have hXb:(X:Int)≤4611686018427387903:=by have:=HX.out;omega
    have hnn:0<n:=by omega
    go_enter Tryz.func45,Tryz.ntmps45
    go_wp2_with fail
    go_quiet (fail)
    clear w1 w2 w3 w4 w5 w6 w7 w8 w9 w10 t1 t2 t3
    have hY:=HY.out
    have hV:=HV.out
    go_wp2_with fail
    go_ret
    refine⟨_,rfl,v0,.inr v1,?_,?_⟩
    ·exact hst.below (below_drewN (Below.refl _ _) _)
    ·exact⟨hg1.os,hg1.tape,hg1.output,hg1.size,hg1.block⟩
theorem rd_lit (w:World) (l:List Int) (t:TypeId) (hs:l.length≤1099511627776):Rd (w.alloc (.cells (l.map (Value.int .i64)).toArray t)) (some ⟨w.heap.size,0,none⟩) l.length l:=by
 refine⟨rfl,hs,fun i hi=>⟨w.heap.size,0,rfl,?_⟩⟩
 rw[Nat.zero_add]
 exact(Box.new w _ t).cell (by simp[List.getD,hi])
theorem rd_lit' (w:World) (l:List Int) (t:TypeId) (b n:Nat) (hb:b=w.heap.size) (hn:n=l.length) (hs:l.length≤1099511627776):Rd (w.alloc (.cells (l.map (Value.int .i64)).toArray t)) (some ⟨b,0,none⟩) n l:=by
 subst hb hn;exact rd_lit w l t hs
def NumP (w:World) (g p:Nat) (l:List Int) (e:Ending) (w':World):Prop:=
 ∃v:Int,e= .returned (.int .i64 v)∧v∈l∧Rdr w' g (p+1)∧w.grownBy w' (some g)
theorem num_c {w:World} {g p n c:Nat} {ao:Option Addr} {l:List Int} (h:Rdr w g p) (hp:p≤1073741824) (hR:Rd w ao n l) (hne:∀a,ao=some a→0<n→a.block≠g) (hn:0<n):
 Calls Tryz.prog 71 #[.pointer (some ⟨g,0,none⟩),.slice ao n c] w (NumP w g p l):=by
 have hs:=hR.2.1
 go_enter Tryz.func71,Tryz.ntmps71
 go_wp2_with fail
 refine(Zbm _ h hp).mono ?_;rintro e w1 ⟨v,rfl,h0,h1,hr1,hg1⟩
 obtain⟨k,rfl⟩:=Int.eq_ofNat_of_zero_le h0
 have hk:k<n:=by omega
 obtain⟨b,off,rfl,hl,hc⟩:=(hR.gr hg1 hne).at hk
 clear h1
 go_wp2_with fail
 go_ret
 exact⟨_,rfl,List.getElem_mem hl,hr1,hg1⟩
theorem Zkd {w:World} {n c:Nat} {ao:Option Addr} {l:List Int} (h:RdB w ao n l) (hc:n≤c) (hby:∀x∈l,0≤x∧x<256):
 Calls Tryz.prog 42 #[.slice ao n c] w fun e w'=>e= .returned (.pointer (some ⟨w.heap.size,0,none⟩))∧Rdr w' w.heap.size 0∧Below w.heap.size w w':=by
 have hs:=h.2.1
 by_cases hn:(2000:Int)<(n:Int)
 ·have hc2:(2000:Int)≤(c:Int):=by omega
  have hT:=h.take (show 2000≤n by omega)
  have hb:Below w.heap.size w (w.alloc (.cells #[.slice ao 2000 c,.int .i64 0] 127)):=(Below.refl _ _).alloc (Nat.le_refl _) _
  go_enter Tryz.func42,Tryz.ntmps42
  go_wp2_with fail
  go_ret
  exact⟨rfl,⟨ao,2000,c,l.take 2000,Box.new w _ _,hT.below hb,fun a ha h0=>h.lt a ha (by omega),fun x hx=>hby x (List.mem_of_mem_take hx),by omega⟩,hb⟩
 ·have hb:Below w.heap.size w (w.alloc (.cells #[.slice ao n c,.int .i64 0] 127)):=(Below.refl _ _).alloc (Nat.le_refl _) _
  go_enter Tryz.func42,Tryz.ntmps42
  go_wp2_with fail
  go_ret
  exact⟨rfl,⟨ao,n,c,l,Box.new w _ _,h.below hb,fun a ha h0=>h.lt a ha h0,hby,by omega⟩,hb⟩
end Go.Proofs.YtcjihfongfefoaaGreatDoor
