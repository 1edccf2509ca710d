/- Od -/
import Derived.Test.YtcjihfongfefoaaGreatDoorJ21
import Derived.Test.YtcjihfongfefoaaGreatDoorShlf
namespace Go.Proofs.YtcjihfongfefoaaGreatDoor
open Go.RowKit
set_option maxHeartbeats 25600000
theorem Ztp {l:List Int} (h:∀x∈l,0≤x∧x<256):Zab (text l)=l:=by
 unfold Zab text
 show((l.map fun n=>UInt8.ofNat n.toNat).toArray.toList).map (fun b=>(b.toNat:Int))=l
 rw[List.map_map]
 conv=>rhs;rw[←List.map_id l]
 apply List.map_congr_left
 intro x hx
 have:=h x hx
 show((UInt8.ofNat x.toNat).toNat:Int)=x
 have e:(UInt8.ofNat x.toNat).toNat=x.toNat:=by simp;omega
 omega
theorem Z5e (s:ByteArray):∀x∈Zab s,0≤x∧x<256:=by
 intro x hx
 unfold Zab at hx
 obtain⟨b,_,rfl⟩:=List.mem_map.1 hx
 have:=b.toNat_lt
 omega
theorem Z8a {a b:ByteArray} (h:Zab a=Zab b):a=b:=by rw[←Zc6 a,h,Zc6]
def cg (s:ByteArray) (i:Nat):Int:=(Zab s).getD i 0
theorem Zq4 {s:ByteArray} (h:allS bitC s=true) {i:Nat} (hi:i<s.size):Za7 (cg s i):=Zih (Zdc h) (by rw[Zac];exact hi)
theorem Zach {s:ByteArray} (h:∀i,i<s.size→Za7 (cg s i)):allS bitC s=true:=by
 rw[←Zc6 s]
 apply Zjf
 intro x hx
 obtain⟨i,hi,rfl⟩:=List.getElem_of_mem hx
 have:=h i (by rw[←Zac];exact hi)
 unfold cg at this
 rw[List.getD_eq_getElem?_getD,List.getElem?_eq_getElem hi,Option.getD_some]at this
 exact this
def Fl (s y:ByteArray) (F:Nat→Bool):Prop:=y.size=s.size∧∀i,i<s.size→cg y i=if F i=true then 97-cg s i else cg s i
theorem Fl.bit {s y:ByteArray} {F:Nat→Bool} (h:Fl s y F) (hs:allS bitC s=true):allS bitC y=true:=by
 refine Zach fun i hi=>?_
 rw[h.1]at hi
 have hb:=Zq4 hs hi
 rw[h.2 i hi]
 split
 ·rcases hb with e|e<;>rw[e]
  ·exact .inr rfl
  ·exact .inl rfl
 ·exact hb
theorem Fl.none (s:ByteArray):Fl s s fun _=>false:=⟨rfl,fun i _=>by simp⟩
theorem Zahi (b:ByteArray) (S T X:Nat) {i:Nat} (hi:i<b.size):cg (scrT b S T X) i=if cg b i=(runL S T X b.size).getD i 0 then 48 else 49:=by
 unfold cg scrT sumT
 have e1:Zab (text (sumL b (text (runL S T X b.size))))=sumL b (text (runL S T X b.size)):=Zcf (Zpj _ _)
 have e2:Zab (text (runL S T X b.size))=runL S T X b.size:=Zcf (Zki _ _ _ _)
 have hl:i<(sumL b (text (runL S T X b.size))).length:=by rw[Zis];exact hi
 rw[e1,List.getD_eq_getElem?_getD,List.getElem?_eq_getElem hl,Option.getD_some,Zu5 hl,e2]
theorem Fl.scr {W y:ByteArray} {F:Nat→Bool} {S T X:Nat} (hW:allS bitC W=true) (h:Fl (scrT W S T X) y F):Fl W (scrT y S T X) F:=by
 have hz:y.size=W.size:=by rw[h.1,Ziy]
 refine⟨by rw[Ziy,hz],fun i hi=>?_⟩
 have hr:Za7 ((runL S T X W.size).getD i 0):=Zih (Zki _ _ _ _) (by rw[Zdf];exact hi)
 have hb:=Zq4 hW hi
 rw[Zahi y S T X (by rw[hz];exact hi),h.2 i (by rw[Ziy];exact hi),Zahi W S T X hi,hz]
 rcases hb with e|e<;>rcases hr with f|f<;>rw[e,f]<;>by_cases hF:F i=true<;>simp[hF]
theorem Zr5 {R C j:Nat} (hR:0<R) (h:j<C*R):j/C<R∧j%C<C∧deiI C R j<C*R∧deiI C R j%R=j/C∧deiI C R j/R=j%C:=by
 have hC:0<C:=by rcases Nat.eq_zero_or_pos C with h0|h0
                 ·rw[h0,Nat.zero_mul]at h;omega
                 ·exact h0
 have h1:j/C<R:=Nat.div_lt_of_lt_mul h
 have h2:j%C<C:=Nat.mod_lt _ hC
 have h3:deiI C R j<R*C:=Zn7 hC (by rw[Nat.mul_comm];exact h)
 refine⟨h1,h2,by rw[Nat.mul_comm];exact h3,?_,?_⟩
 ·unfold deiI;rw[Nat.mul_comm,Nat.mul_add_mod];exact Nat.mod_eq_of_lt h1
 ·unfold deiI;rw[Nat.mul_comm,Nat.mul_add_div hR,Nat.div_eq_of_lt h1,Nat.add_zero]
theorem Zpf {R C j:Nat} (hR:0<R) (h:j<C*R):deiI R C (deiI C R j)=j:=by
 obtain⟨_,_,_,h4,h5⟩:=Zr5 hR h
 unfold deiI at h4 h5 ⊢
 rw[h4,h5,Nat.mul_comm];exact Nat.div_add_mod j C
theorem Zai7 {R C i k:Nat} (hi:i<C*R) (hk:k<C*R) (h:deiI R C i=deiI R C k):i=k:=by
 have hC:0<C:=by rcases Nat.eq_zero_or_pos C with h0|h0
                 ·rw[h0,Nat.zero_mul]at hi;omega
                 ·exact h0
 have e1:=Zpf (R:=C) (C:=R) hC (j:=i) (by rw[Nat.mul_comm];exact hi)
 have e2:=Zpf (R:=C) (C:=R) hC (j:=k) (by rw[Nat.mul_comm];exact hk)
 rw[←e1,←e2,h]
theorem Z2p (s:ByteArray) {R C:Nat} (hR:0<R) (hs:C*R=s.size):∀k,k≤s.size→∀i,i<k→(deiF s R C k).getD (deiI R C i) 0=cg s i
 |0,_,i,hi=>absurd hi (by omega)
 |k+1,hk,i,hi=>by
  have hlt:deiI R C i<(deiF s R C k).length:=by rw[Zkv,←hs];exact Zn7 hR (by omega)
  rw[deiF,List.getD_eq_getElem?_getD,List.getElem?_set]
  by_cases e:deiI R C k=deiI R C i
  ·have:=Zai7 (by omega) (by omega) e
   subst this
   rw[if_pos rfl,if_pos hlt];rfl
  ·rw[if_neg e,←List.getD_eq_getElem?_getD]
   have hik:i≠k:=fun h=>e (by rw[h])
   exact Z2p s hR hs k (by omega) i (by omega)
theorem Z2i (s:ByteArray) (R C:Nat):∀k,∀x∈deiF s R C k,0≤x∧x<256
 |0,x,hx=>by rw[deiF]at hx;have:=List.eq_of_mem_replicate hx;omega
 |k+1,x,hx=>by
  rw[deiF]at hx
  rcases List.mem_or_eq_of_mem_set hx with h|h
  ·exact Z2i s R C k x h
  ·rw[h,List.getD_eq_getElem?_getD]
   cases hg:(Zab s)[k]? with
   |none=>simp
   |some v=>exact Z5e s v (List.mem_of_getElem? hg)
theorem cg_dei (s:ByteArray) {R:Nat} (hR:0<R) (hs:s.size/R*R=s.size) {j:Nat} (hj:j<s.size):cg (deiT s R) j=cg s (deiI (s.size/R) R j):=by
 unfold deiT
 rw[show cg (text (deiF s R (s.size/R) s.size)) j=(deiF s R (s.size/R) s.size).getD j 0 by unfold cg;rw[Ztp (Z2i _ _ _ _)]]
 have hj2:j<s.size/R*R:=by rw[hs];exact hj
 have h3:=(Zr5 hR hj2).2.2.1
 have:=Z2p s hR hs s.size (Nat.le_refl _) (deiI (s.size/R) R j) (by rw[hs]at h3;exact h3)
 rw[Zpf hR hj2]at this
 exact this
theorem Zaa8 (s:ByteArray) (R:Nat):(deiT s R).size=s.size:=by unfold deiT;rw[Zaq,Zkv]
theorem cg_wv (B:ByteArray) (R:Nat) {i:Nat} (hi:i<B.size):cg (wvT B R) i=cg B (deiI R (B.size/R) i):=by
 unfold wvT
 rw[show cg (text (wvL B R (B.size/R))) i=(wvL B R (B.size/R)).getD i 0 by unfold cg;rw[Ztp (Zair _ _ _)]]
 have hl:i<(wvL B R (B.size/R)).length:=by rw[Zld];exact hi
 rw[List.getD_eq_getElem?_getD,List.getElem?_eq_getElem hl,Option.getD_some,Zzp hl];rfl
theorem Z9p {B:ByteArray} {R:Nat} (hR:0<R) (hs:B.size/R*R=B.size) (hB:allS bitC B=true):allS bitC (wvT B R)=true:=by
 refine Zach fun i hi=>?_
 rw[Zhu]at hi
 rw[cg_wv B R hi]
 exact Zq4 hB (by have:=Zn7 (C:=B.size/R) hR (k:=i) (by rw[hs];exact hi);rw[hs]at this;exact this)
theorem Fl.dei {B Y:ByteArray} {F:Nat→Bool} {R:Nat} (hR:0<R) (hs:B.size/R*R=B.size) (h:Fl (wvT B R) Y F):Fl B (deiT Y R) fun j=>F (deiI (B.size/R) R j):=by
 have hz:Y.size=B.size:=by rw[h.1,Zhu]
 refine⟨by rw[Zaa8,hz],fun j hj=>?_⟩
 have hj2:j<B.size/R*R:=by rw[hs];exact hj
 have h3:=(Zr5 hR hj2).2.2.1
 rw[hs]at h3
 rw[cg_dei Y hR (by rw[hz];exact hs) (by rw[hz];exact hj),hz,h.2 _ (by rw[Zhu];exact h3),cg_wv B R h3,Zpf hR hj2]
theorem Zaa9 {R m a j j':Nat} {F:Nat→Bool} (hw:∀i,F i=true→a≤i∧i<a+R) (hb:j/7=j'/7)
 (h1:F (deiI (7*m) R j)=true) (h2:F (deiI (7*m) R j')=true):j=j':=by
 have e:j/(7*m)=j'/(7*m):=by rw[←Nat.div_div_eq_div_mul,hb,Nat.div_div_eq_div_mul]
 have w1:=hw _ h1
 have w2:=hw _ h2
 unfold deiI at w1 w2
 have d1:=Nat.div_add_mod j (7*m)
 have d2:=Nat.div_add_mod j' (7*m)
 rw[e]at w1 d1
 have hq:j%(7*m)=j'%(7*m):=by
  rcases Nat.lt_trichotomy (j%(7*m)) (j'%(7*m))with h|h|h
  ·have:=Nat.mul_le_mul_right R (show j%(7*m)+1≤j'%(7*m)by omega)
   rw[Nat.add_mul,Nat.one_mul]at this
   omega
  ·exact h
  ·have:=Nat.mul_le_mul_right R (show j'%(7*m)+1≤j%(7*m)by omega)
   rw[Nat.add_mul,Nat.one_mul]at this
   omega
 omega
def synL (L:List Int):Nat→Nat
 |0=>0
 |k+1=>if L.getD k 0=49 then synL L k ^^^ (k+1)else synL L k
def fixL (L:List Int):List Int:=if 0<synL L 7 then L.set (synL L 7-1) (97-L.getD (synL L 7-1) 0)else L
def decL (L:List Int):List Int:=[(fixL L).getD 2 0,(fixL L).getD 4 0,(fixL L).getD 5 0,(fixL L).getD 6 0]
def mk (n:Fin 2):Int:=if n=0 then 48 else 49
theorem Zabw:∀a b c d:Fin 2,decL (encL (mk a) (mk b) (mk c) (mk d))=[mk a,mk b,mk c,mk d]∧
 ∀q:Fin 7,decL ((encL (mk a) (mk b) (mk c) (mk d)).set q.val (97-(encL (mk a) (mk b) (mk c) (mk d)).getD q.val 0))=[mk a,mk b,mk c,mk d]:=by decide+kernel
theorem Zoo {x:Int} (h:Za7 x):∃n:Fin 2,x=mk n:=by
 rcases h with rfl|rfl
 ·exact⟨0,rfl⟩
 ·exact⟨1,rfl⟩
theorem Zadb {a b c d:Int} (ha:Za7 a) (hb:Za7 b) (hc:Za7 c) (hd:Za7 d):decL (encL a b c d)=[a,b,c,d]:=by
 obtain⟨_,rfl⟩:=Zoo ha
 obtain⟨_,rfl⟩:=Zoo hb
 obtain⟨_,rfl⟩:=Zoo hc
 obtain⟨_,rfl⟩:=Zoo hd
 exact(Zabw _ _ _ _).1
theorem Zai6 {a b c d:Int} (ha:Za7 a) (hb:Za7 b) (hc:Za7 c) (hd:Za7 d) {q:Nat} (hq:q<7):decL ((encL a b c d).set q (97-(encL a b c d).getD q 0))=[a,b,c,d]:=by
 obtain⟨_,rfl⟩:=Zoo ha
 obtain⟨_,rfl⟩:=Zoo hb
 obtain⟨_,rfl⟩:=Zoo hc
 obtain⟨_,rfl⟩:=Zoo hd
 exact(Zabw _ _ _ _).2 ⟨q,hq⟩
theorem Zag4 (X:ByteArray):∀k,synK X k=synL (Zab X) k
 |0=>rfl
 |k+1=>by rw[synK,synL,Zag4 X k]
theorem Zabx (L:List Int):∀k,k≤7→synL L k<8
 |0,_=>by unfold synL;omega
 |k+1,h=>by
  have ih:=Zabx L k (by omega)
  unfold synL
  split
  ·exact Nat.xor_lt_two_pow (n:=3) ih (by omega)
  ·exact ih
theorem Zabh {X:ByteArray} (hz:X.size=7) (hb:allS bitC X=true):Zab (fixB X)=fixL (Zab X):=by
 have hs:=Zabx (Zab X) 7 (Nat.le_refl _)
 unfold fixB fixL
 rw[Zag4]
 split
 ·have hq:synL (Zab X) 7-1<X.size:=by omega
  rw[Zn2 hq hb,List.getD_eq_getElem?_getD,List.getElem?_eq_getElem (by rw[Zac];exact hq),Option.getD_some]
 ·rfl
theorem Z7p {X:ByteArray} (hz:X.size=7) (hb:allS bitC X=true):Zab (decB X)=decL (Zab X):=by
 have hf:=Zlz hz
 have hl:(Zab (fixB X)).length=7:=by rw[Zac,hf]
 unfold decB
 rw[Zxi (Y:=fixB X) hf (by omega) (by omega) (by omega) (by omega)]
 unfold decL
 rw[←Zabh hz hb]
 simp only[List.getD_eq_getElem?_getD,List.getElem?_eq_getElem (show 2<(Zab (fixB X)).length by omega),List.getElem?_eq_getElem (show 4<(Zab (fixB X)).length by omega),List.getElem?_eq_getElem (show 5<(Zab (fixB X)).length by omega),List.getElem?_eq_getElem (show 6<(Zab (fixB X)).length by omega),Option.getD_some]
theorem Zafh (L:List Int) {n k r:Nat} (hk:k<n) (hr:r<7):(encK L n).getD (7*k+r) 0=(encL (L.getD (k*4) 0) (L.getD (k*4+1) 0) (L.getD (k*4+2) 0) (L.getD (k*4+3) 0)).getD r 0:=by
 induction n with
 |zero=>omega
 |succ n ih=>
  rw[encK]
  have hl:=Zkc L n
  by_cases h:k<n
  ·have:7*k+r<(encK L n).length:=by omega
   rw[←ih h]
   simp[List.getD,List.getElem?_append,this]
  ·obtain rfl:k=n:=by omega
   simp only[List.getD,List.getElem?_append,hl,if_neg (show ¬7*k+r<7*k by omega),Nat.add_sub_cancel_left]
theorem cg_enc {Z:ByteArray} (hb:allS bitC Z=true) {k r:Nat} (hk:k<Z.size/4) (hr:r<7):cg (encT Z) (7*k+r)=(encL (cg Z (k*4)) (cg Z (k*4+1)) (cg Z (k*4+2)) (cg Z (k*4+3))).getD r 0:=by
 unfold encT
 have e:Zab (text (encK (Zab Z) (Z.size/4)))=encK (Zab Z) (Z.size/4):=Zcf (Zuo (Zdc hb) _ (by rw[Zac];omega))
 unfold cg
 rw[e]
 exact Zafh (Zab Z) hk hr
theorem Zafu {D:ByteArray} {k:Nat} (h:k*7+7≤D.size):Zab (D.extract (k*7) (k*7+7))=(List.range 7).map fun r=>cg D (7*k+r):=by
 have hl:(Zab D).length=D.size:=Zac D
 rw[Ze4,Nat.add_sub_cancel_left]
 apply List.ext_getElem
 ·simp;omega
 ·intro i h1 h2
  have h7:i<7:=by simpa using h2
  rw[List.getElem_take,List.getElem_drop]
  simp only[List.getElem_map,List.getElem_range]
  unfold cg
  rw[Nat.mul_comm 7 k,List.getD_eq_getElem?_getD,List.getElem?_eq_getElem (by omega),Option.getD_some]
theorem Zs8 {L:List Int} (h:L.length=7):L=(List.range 7).map fun r=>L.getD r 0:=by
 apply List.ext_getElem
 ·simp[h]
 ·intro i h1 h2
  simp only[List.getElem_map,List.getElem_range]
  rw[List.getD_eq_getElem?_getD,List.getElem?_eq_getElem h1,Option.getD_some]
theorem Z8m {Z D:ByteArray} {G:Nat→Bool} (hb:allS bitC Z=true) (hF:Fl (encT Z) D G) {k:Nat} (hk:k<Z.size/4)
 (h1:∀r r',r<7→r'<7→G (7*k+r)=true→G (7*k+r')=true→r=r'):
 Zab (decB (D.extract (k*7) (k*7+7)))=[cg Z (k*4),cg Z (k*4+1),cg Z (k*4+2),cg Z (k*4+3)]:=by
 have hz:=Zms Z
 have hsz:D.size=7*(Z.size/4):=by rw[hF.1,hz]
 have hkk:k*7+7≤D.size:=by omega
 have hDb:=hF.bit (Z1j hb)
 have hX:(D.extract (k*7) (k*7+7)).size=7:=by rw[Zbc hkk];omega
 rw[Z7p hX (Zeb _ _ hDb),Zafu hkk]
 have ba:=Zq4 hb (i:=k*4) (by omega)
 have bb:=Zq4 hb (i:=k*4+1) (by omega)
 have bc:=Zq4 hb (i:=k*4+2) (by omega)
 have bd:=Zq4 hb (i:=k*4+3) (by omega)
 have hv:∀r,r<7→cg D (7*k+r)=if G (7*k+r)=true then 97-(encL (cg Z (k*4)) (cg Z (k*4+1)) (cg Z (k*4+2)) (cg Z (k*4+3))).getD r 0 else(encL (cg Z (k*4)) (cg Z (k*4+1)) (cg Z (k*4+2)) (cg Z (k*4+3))).getD r 0:=by
  intro r hr
  rw[hF.2 _ (by rw[hz];omega),cg_enc hb hk hr]
 have hE7:(encL (cg Z (k*4)) (cg Z (k*4+1)) (cg Z (k*4+2)) (cg Z (k*4+3))).length=7:=rfl
 by_cases hq:∃q,q<7∧G (7*k+q)=true
 ·obtain⟨q,hq7,hqG⟩:=hq
  rw[←Zai6 ba bb bc bd hq7]
  congr 1
  rw[Zs8 (L:=(encL (cg Z (k*4)) (cg Z (k*4+1)) (cg Z (k*4+2)) (cg Z (k*4+3))).set q _) (by rw[List.length_set];exact hE7)]
  apply List.map_congr_left
  intro r hr
  have hr7:r<7:=List.mem_range.1 hr
  rw[hv r hr7]
  by_cases e:r=q
  ·subst e
   rw[if_pos hqG]
   simp only[List.getD_eq_getElem?_getD,List.getElem?_set,hE7,if_pos hr7]
   rfl
  ·rw[if_neg (fun h=>e (h1 r q hr7 hq7 h hqG))]
   simp only[List.getD_eq_getElem?_getD,List.getElem?_set,if_neg (fun h=>e (Eq.symm h))]
 ·rw[←Zadb ba bb bc bd]
  congr 1
  rw[Zs8 hE7]
  apply List.map_congr_left
  intro r hr
  have hr7:r<7:=List.mem_range.1 hr
  rw[hv r hr7,if_neg (fun h=>hq ⟨r,hr7,h⟩)]
theorem Z83 {L:List Int} {k:Nat} (h:k*4+4≤L.length):L.take (4*(k+1))=L.take (4*k)++[L.getD (k*4) 0,L.getD (k*4+1) 0,L.getD (k*4+2) 0,L.getD (k*4+3) 0]:=by
 have e:4*(k+1)=k*4+1+1+1+1:=by omega
 have g:∀i,(hi:i<L.length)→L.getD i 0=L[i]:=fun i hi=>by rw[List.getD_eq_getElem?_getD,List.getElem?_eq_getElem hi,Option.getD_some]
 rw[e,List.take_succ_eq_append_getElem (by omega),List.take_succ_eq_append_getElem (by omega),List.take_succ_eq_append_getElem (by omega),List.take_succ_eq_append_getElem (by omega),
  g _ (by omega),g _ (by omega),g _ (by omega),g _ (by omega),Nat.mul_comm 4 k]
 simp only[List.append_assoc,List.cons_append,List.nil_append]
theorem Z7h {Z D:ByteArray} {G:Nat→Bool} (hb:allS bitC Z=true) (hF:Fl (encT Z) D G)
 (h1:∀j j',j/7=j'/7→G j=true→G j'=true→j=j'):∀k,k≤Z.size/4→Zab (hdcT D k)=(Zab Z).take (4*k)
 |0,_=>by rw[hdcT,Nat.mul_zero,List.take_zero];rfl
 |k+1,hk=>by
  have ih:=Z7h hb hF h1 k (by omega)
  have hbl:=Z8m hb hF (k:=k) (by omega) (fun r r' hr hr' g g'=>by have:=h1 (7*k+r) (7*k+r') (by omega) g g';omega)
  rw[hdcT,Zhc,ih,hbl,Z83 (by rw[Zac];omega)]
  rfl
theorem Zacl {p:ByteArray} {n:Nat} (h:payB p=true) (hb:Zan (padT (Zas p) n)=true):Zbn (padT (Zas p) n) 0=some (p,0+23+p.size):=by
 have hz:=Zcp p
 refine Zrg (a:=0) hb (Zn1 h).1 (by rw[Z20];omega) ?_
 apply Zsj
 rw[Zea,padT,Zhs,List.drop_zero,Nat.sub_zero,List.take_append_of_le_length (by rw[Zdz];omega),List.take_of_length_le (by rw[Zdz];omega)]
theorem Z93 {p q y:ByteArray} {n s t x:Int} {F:Nat→Bool} {a:Nat} (hq:prR p n s t x=some q) (hF:Fl q y F) (hw:∀i,F i=true→a≤i∧(i:Int)<(a:Int)+n):opR y n s t x=some p:=by
 have h1:payB p=true:=by
  cases h:payB p with
  |true=>rfl
  |false=>rw[Zud h]at hq;cases hq
 have h2:inB n 1 40=true:=by
  cases h:inB n 1 40 with
  |true=>rfl
  |false=>rw[Zv9 h]at hq;cases hq
 have h3:regB s t x=true:=by
  cases h:regB s t x with
  |true=>rfl
  |false=>rw[Zv5 h]at hq;cases hq
 obtain⟨R,rfl,hR1,hR4⟩:=Zoh h2
 obtain⟨S,T,X,rfl,rfl,rfl,_⟩:=Zbx h3
 have hP:=Zo6 h1 hR1 hR4
 have hps:=Zo3 h1 h2 h3 hP
 rw[hq]at hps
 obtain⟨Z,hZ⟩:∃Z,Z=padT (Zas p) (4*R):=⟨_,rfl⟩
 have hpp:=Zacl h1 hP.bits
 have hB:=hP.out
 have hrows:=hP.rows
 have hzb:=Zb5 hP.bits
 have hzs:=hP.mod
 rw[←hZ]at hps hpp hB hrows hzb hzs
 have hBR:=Z3c hrows
 have hsz:=Zms Z
 generalize hBB:encT Z=B at*
 have hCR:B.size/R*R=B.size:=Nat.div_mul_cancel (Nat.dvd_of_mod_eq_zero hBR)
 have hWb:=Z9p (by omega) hCR (Zb5 hB)
 have hWB:Zan (wvT B R)=true:=Zd9 (by rw[Zhu];exact Zcm hB) hWb
 rw[Zm0 hWB h3]at hps
 have hqq:scrT (wvT B R) S T X=q:=Option.some.inj hps
 rw[←hqq]at hF
 have hyb:Zan y=true:=Zd9 (by rw[hF.1,Ziy,Zhu];exact Zcm hB) (hF.bit (Zv0 _ _ _ _))
 have hG:=hF.scr hWb
 have hM:Zan (scrT y S T X)=true:=Zd9 (by rw[hG.1,Zhu];exact Zcm hB) (Zv0 _ _ _ _)
 have hMz:(scrT y S T X).size=B.size:=by rw[hG.1,Zhu]
 have hH:=hG.dei (by omega) hCR
 have hKb:Zan (deiT (scrT y S T X) R)=true:=Zd9 (by rw[hH.1];exact Zcm hB) (hH.bit (Zb5 hB))
 obtain⟨m,hm⟩:∃m,B.size=7*m*R:=by
  obtain⟨m,hm⟩:=Nat.dvd_of_mod_eq_zero hrows
  exact⟨m,by rw[hm,Nat.mul_assoc,Nat.mul_assoc,Nat.mul_comm R m]⟩
 have hC:B.size/R=7*m:=by rw[hm];exact Nat.mul_div_cancel _ (by omega)
 rw[hC]at hH
 have hw2:∀i,F i=true→a≤i∧i<a+R:=fun i hi=>by have:=hw i hi;omega
 have hdec:=Z7h (Z:=Z) hzb (by rw[hBB];exact hH) (fun j j' hj g g'=>Zaa9 hw2 hj g g') (Z.size/4) (Nat.le_refl _)
 rw[List.take_of_length_le (by rw[Zac];omega)]at hdec
 have hdd:=Z8a hdec
 have hk7:(deiT (scrT y S T X) R).size/7=Z.size/4:=by rw[hH.1,hsz];omega
 unfold opR
 rw[Zm0 hyb h3,Option.bind_some,Zv6 hM h2 (by rw[hMz];exact hBR),Option.bind_some,Zvl hKb (by rw[hH.1,hsz];omega),Option.bind_some,hk7,hdd,hpp]
 rfl
theorem Zae1 (s:ByteArray) (k:Nat) (w:World) (hk:k<s.size) (hs:s.size≤1000) (hb:allS bitC s=true):Calls Tryz.prog 36 #[.string s,.int .i64 k] w fun e w'=>e= .returned (.string (Zfv s k))∧Below w.heap.size w w':=by
 have hl:k<(Zab s).length:=by rw[Zac];exact hk
 have hx:(Zab s)[k]=48∨(Zab s)[k]=49:=Zdc hb _ (List.getElem_mem hl)
 have HR:=Lib.hid (show text ((Zab s).set k (97-(Zab s)[k]))=Zfv s k by rw[←Zn2 hk hb,Zc6])
 go_enter Tryz.func36,Tryz.ntmps36
 go_wp2_with (first|(with_reducible refine Z4v 9 22 5 Tryz.underlying9 Tryz.underlying22 Tryz.underlying5 _ rfl (.tmp 6) rfl s rfl ?_;intro w2 cc hrow hb2 hsz2 hcc;have hc:=hrow.cell hl;have hf:=hrow.free hl;have hrow2:=hrow.set (i:=k) (97-(Zab s)[k]);have hb3:=hrow.belowSet hb2 k (.int .u8 (97-(Zab s)[k]));have hrd:=hrow2.rd (show s.size=_ by rw[List.length_set,Zac]) (by omega);generalize (Zab s)[k]=v at*;clear hrow hb2 hrow2)|(with_reducible refine Zca 22 5 9 Tryz.underlying22 Tryz.underlying5 Tryz.underlying9 _ rfl (.tmp 16) rfl rfl hrd ?_;rw[HR.out]))
 go_ret
 exact⟨rfl,hb3⟩
end Go.Proofs.YtcjihfongfefoaaGreatDoor
