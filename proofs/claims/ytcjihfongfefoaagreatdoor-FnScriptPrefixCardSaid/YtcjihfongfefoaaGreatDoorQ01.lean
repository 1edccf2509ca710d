/- Dx Od Oe Zn Zi Lw -/
import Derived.Test.YtcjihfongfefoaaGreatDoorJ29
import Derived.Test.YtcjihfongfefoaaGreatDoorJ40
import Derived.Deep.RegionLaw
import Derived.Deep.RegionHeld3
import Derived.IntWalk
import Derived.Laws.AppendOwnNone
import Derived.Lib.AppendZeros
import Derived.Maps.AppendAt
import Derived.Test.YtcjihfongfefoaaGreatDoorRows
import Derived.WalkKit
import Derived.WalkSpells
import Derived.WalkLawsBesides
import Derived.Lib.Hide
import Derived.BigQuiet
import Derived.Deep.QuietTactic
import Derived.StillTailTactics
import Derived.Laws.IdiomStrings
import Derived.Laws.BytesString
import Derived.Test.YtcjihfongfefoaaGreatDoorShlf
import Derived.Lib.Strings
import Derived.Deep.LoopGhost
import Derived.Laws.OwnMore
import Derived.Outline
import Derived.Laws.CopyOwn
import Derived.Lib.SplitLaws
import Derived.Lib.ItoaNum
import Derived.Lib.ItoaLen
import Derived.Lib.ItoaMem
import Derived.Lib.Join
namespace Go.Proofs.YtcjihfongfefoaaGreatDoor
open Go.RowKit
set_option maxHeartbeats 25600000
set_option maxRecDepth 100000
def Zzb (w:World) (ao:Option Addr) (n c:Nat):Prop:=∃l,RdB w ao n l∧n≤c∧∀x∈l,0≤x∧x<256
theorem Ztp {l:List Int} (h:∀x∈l,0≤x∧x<256):Zab (text l)=l:=by
 unfold Zab text
 show((l.map fun n=>UInt8.ofNat n.toNat).toArray.toList).map (fun b=>(b.toNat:Int))=l
 rw[List.map_map]
 conv=>rhs;rw[←List.map_id l]
 apply List.map_congr_left
 intro x hx
 have:=h x hx
 show((UInt8.ofNat x.toNat).toNat:Int)=x
 have e:(UInt8.ofNat x.toNat).toNat=x.toNat:=by simp;omega
 omega
def cg (s:ByteArray) (i:Nat):Int:=(Zab s).getD i 0
theorem Zq4 {s:ByteArray} (h:allS bitC s=true) {i:Nat} (hi:i<s.size):Za7 (cg s i):=Zih (Zdc h) (by rw[Zac];exact hi)
theorem Zach {s:ByteArray} (h:∀i,i<s.size→Za7 (cg s i)):allS bitC s=true:=by
 rw[←Zc6 s]
 apply Zjf
 intro x hx
 obtain⟨i,hi,rfl⟩:=List.getElem_of_mem hx
 have:=h i (by rw[←Zac];exact hi)
 unfold cg at this
 rw[List.getD_eq_getElem?_getD,List.getElem?_eq_getElem hi,Option.getD_some]at this
 exact this
theorem cg_wv (B:ByteArray) (R:Nat) {i:Nat} (hi:i<B.size):cg (wvT B R) i=cg B (deiI R (B.size/R) i):=by
 unfold wvT
 rw[show cg (text (wvL B R (B.size/R))) i=(wvL B R (B.size/R)).getD i 0 by unfold cg;rw[Ztp (Zair _ _ _)]]
 have hl:i<(wvL B R (B.size/R)).length:=by rw[Zld];exact hi
 rw[List.getD_eq_getElem?_getD,List.getElem?_eq_getElem hl,Option.getD_some,Zzp hl];rfl
theorem Z9p {B:ByteArray} {R:Nat} (hR:0<R) (hs:B.size/R*R=B.size) (hB:allS bitC B=true):allS bitC (wvT B R)=true:=by
 refine Zach fun i hi=>?_
 rw[Zhu]at hi
 rw[cg_wv B R hi]
 exact Zq4 hB (by have:=Zn7 (C:=B.size/R) hR (k:=i) (by rw[hs];exact hi);rw[hs]at this;exact this)
theorem Zl8 {p q:ByteArray} {n s t x:Int} (hq:prR p n s t x=some q):allS bitC q=true∧q.size≤600∧0<q.size∧q.size%(7*n.toNat)=0∧(1≤n∧n≤40)∧regB s t x=true∧payB p=true:=by
 have h1:payB p=true:=by
  cases h:payB p with
  |true=>rfl
  |false=>rw[Zud h]at hq;cases hq
 have h2:inB n 1 40=true:=by
  cases h:inB n 1 40 with
  |true=>rfl
  |false=>rw[Zv9 h]at hq;cases hq
 have h3:regB s t x=true:=by
  cases h:regB s t x with
  |true=>rfl
  |false=>rw[Zv5 h]at hq;cases hq
 obtain⟨R,rfl,hR1,hR4⟩:=Zoh h2
 have hP:=Zo6 h1 hR1 hR4
 have hps:=Zo3 h1 h2 h3 hP
 rw[hq]at hps
 obtain⟨S,T,X,rfl,rfl,rfl,_⟩:=Zbx h3
 have hCR:(encT (padT (Zas p) (4*R))).size/R*R=(encT (padT (Zas p) (4*R))).size:=Nat.div_mul_cancel (Nat.dvd_of_mod_eq_zero (Z3c hP.rows))
 have hWB:Zan (wvT (encT (padT (Zas p) (4*R))) R)=true:=Zd9 (by rw[Zhu];exact hP.top) (Z9p (by omega) hCR (Zb5 hP.out))
 rw[Zm0 hWB h3]at hps
 have e:=Option.some.inj hps
 have hz:q.size=(encT (padT (Zas p) (4*R))).size:=by rw[←e,Ziy,Zhu]
 exact⟨by rw[←e];exact Zv0 _ _ _ _,by rw[hz];exact hP.top,by rw[hz];exact hP.pos,by rw[hz];exact hP.rows,by omega,h3,h1⟩
theorem Zaey (p:ByteArray) (n s t x:Int):allS bitC ((prR p n s t x).getD ByteArray.empty)=true∧((prR p n s t x).getD ByteArray.empty).size≤600:=by
 cases h:prR p n s t x with
 |none=>exact⟨rfl,by show(0:Nat)≤600;omega⟩
 |some q=>have:=Zl8 h;exact⟨this.1,this.2.1⟩
theorem Zafm {w:World} {g p:Nat} (h:Rdr w g p) (hp:p≤1073730000):Calls Tryz.prog 72 #[.pointer (some ⟨g,0,none⟩)] w (Zaa4 w g p 40 620):=by
 have hgl:=h.lt
 go_enter Tryz.func72,Tryz.ntmps72
 go_wp2_with fail
 refine(Zie 8 h (by omega) (by omega)).mono ?_;rintro e w1 ⟨b,q1,rfl,hb,_,hq0,hq1,hr1,hg1⟩
 clear h
 have hds:(Zaf b).size≤b.size+1:=Zhp b
 go_wp2_with fail
 refine(Zev b _).mono ?_;rintro e w2 ⟨rfl,rfl⟩
 obtain⟨D,hD⟩:∃D,Zaf b=D:=⟨_,rfl⟩
 rw[hD]at hds ⊢
 clear hD
 have hz1:=hg1.size
 go_wp2_with fail
 refine(Zbm _ hr1 (by omega)).mono ?_;rintro e w2 ⟨u,rfl,u0,u1,hr2,hg2⟩
 have hgA:=hg1.trans hg2
 have hz2:=hgA.size
 clear hr1 hg1 hg2 u1
 by_cases h0:(u==0)=true
 ·go_wp2_with fail
  refine(Zg7 [(⟨#[114,101,103,105,115,116,101,114,32,52,32,51,32,49]⟩:ByteArray),(⟨#[114,101,103,105,115,116,101,114,32,53,32,53,32,55]⟩:ByteArray),(⟨#[114,101,103,105,115,116,101,114,32,51,32,51,32,49]⟩:ByteArray),(⟨#[114,101,103,105,115,116,101,114,32,51,32,48,32,49]⟩:ByteArray),(⟨#[98,105,116,115,32,55]⟩:ByteArray),(⟨#[98,105,116,115,32,48]⟩:ByteArray),(⟨#[112,101,114,105,111,100]⟩:ByteArray),(⟨#[106,117,109,112,32,53]⟩:ByteArray),(⟨#[106,117,109,112,32,45,53]⟩:ByteArray),(⟨#[106,117,109,112,32,120]⟩:ByteArray),(⟨#[109,97,120,105,109,97,108,32,51]⟩:ByteArray),(⟨#[109,97,120,105,109,97,108,32,57]⟩:ByteArray),(⟨#[104,111,112,115,32,52,32,53]⟩:ByteArray)] hr2 (by omega) rfl rfl (by decide) (by decide)).mono ?_;rintro e w3 ⟨x,rfl,hx,hr3,hg3⟩
  have hx20:x.size≤20:=(show ∀s∈[(⟨#[114,101,103,105,115,116,101,114,32,52,32,51,32,49]⟩:ByteArray),(⟨#[114,101,103,105,115,116,101,114,32,53,32,53,32,55]⟩:ByteArray),(⟨#[114,101,103,105,115,116,101,114,32,51,32,51,32,49]⟩:ByteArray),(⟨#[114,101,103,105,115,116,101,114,32,51,32,48,32,49]⟩:ByteArray),(⟨#[98,105,116,115,32,55]⟩:ByteArray),(⟨#[98,105,116,115,32,48]⟩:ByteArray),(⟨#[112,101,114,105,111,100]⟩:ByteArray),(⟨#[106,117,109,112,32,53]⟩:ByteArray),(⟨#[106,117,109,112,32,45,53]⟩:ByteArray),(⟨#[106,117,109,112,32,120]⟩:ByteArray),(⟨#[109,97,120,105,109,97,108,32,51]⟩:ByteArray),(⟨#[109,97,120,105,109,97,108,32,57]⟩:ByteArray),(⟨#[104,111,112,115,32,52,32,53]⟩:ByteArray)],s.size≤20 by decide) x hx
  have hgB:=(Zaj hgA ((Below.refl _ _).alloc (Nat.le_refl w2.heap.size) _)).trans hg3
  clear hx hr2 hgA hg3
  go_wp2_with fail
  go_ret
  exact⟨x,_,rfl,by omega,by omega,by omega,hr3,hgB⟩
 have h0':(u==0)=false:=by simpa using h0
 clear h0
 by_cases h1:(u==1)=true
 ·go_wp2_with fail
  refine(Zpp hr2 (by omega)).mono ?_;rintro e w3 ⟨s,t,x,q3,rfl,hv,hq2,hq3,hr3,hg3⟩
  obtain⟨S0,T0,X0,rfl,rfl,rfl,hs8,ht8,hx8⟩:=Zbx hv
  have HT:=Lib.hid ht8.2;have HX:=Lib.hid hx8
  have hgB:=hgA.trans hg3
  clear hv hr2 hgA hg3 ht8 hx8
  go_wp2_with fail
  refine(Zbm _ hr3 (by omega)).mono ?_;rintro e w4 ⟨y,rfl,y0,y1,hr4,hg4⟩
  have hgC:=hgB.trans hg4
  obtain⟨M,rfl⟩:=Int.eq_ofNat_of_zero_le y0
  have hM:M≤8:=by omega
  obtain⟨M1,kw,hM1⟩:∃M1:Nat,IntKind.i64.wrap (8+(M:Int))=(M1:Int)∧M1≤16:=⟨M+8,(by rw[IntWalk.i64_in _ (by omega)];omega),(by omega)⟩
  clear hr3 hgB hg4
  go_wp2_with fail
  refine(Zlg S0 T0 X0 M1 _ hs8 HT.out HX.out (by omega)).mono ?_;rintro e w5 ⟨rfl,hb5⟩
  have hr5:=hr4.below hb5
  have hgD:=Zaj hgC hb5
  obtain⟨Z,hZ⟩:∃Z,text (runL S0 T0 X0 M1)=Z:=⟨_,rfl⟩
  have zZ:Z.size=M1:=by rw[←hZ,Zaq,Zdf]
  rw[hZ]
  have zU:((⟨#[115,104,111,114,116,101,115,116,32]⟩:ByteArray)++Z:ByteArray).size=9+Z.size:=Zap _ _
  clear hZ hr4 hgC hb5 kw
  go_wp2_with fail
  go_ret
  exact⟨_,_,rfl,by omega,by omega,by omega,hr5,hgD⟩
 have h1':(u==1)=false:=by simpa using h1
 clear h1
 by_cases h2:(u==2)=true
 ·go_wp2_with fail
  refine(Zg7 [(⟨#[99,114,111,115,115,32,49,49,48,32,48,49,49,32,49]⟩:ByteArray),(⟨#[99,114,111,115,115,32,49,49,48,32,48,49,32,49]⟩:ByteArray),(⟨#[99,114,111,115,115,32,49,49,48,32,48,49,49,32,120]⟩:ByteArray),(⟨#[112,101,97,107,32,49,48,48,49,48,49,49,32,48,48,49,48,49,49,49]⟩:ByteArray),(⟨#[112,101,97,107,32,49,32,49,49]⟩:ByteArray),(⟨#[103,111,108,100,32,51,32,51,32,53,32,48]⟩:ByteArray),(⟨#[103,111,108,100,32,51,32,51,32,53,32,57]⟩:ByteArray),(⟨#[119,97,108,115,104,32,50,32,51]⟩:ByteArray),(⟨#[119,97,108,115,104,32,50,32,52]⟩:ByteArray),(⟨#[116,114,101,101,32,49,48]⟩:ByteArray),(⟨#[116,114,101,101,32,45]⟩:ByteArray),(⟨#[116,114,101,101,32,50]⟩:ByteArray)] hr2 (by omega) rfl rfl (by decide) (by decide)).mono ?_;rintro e w3 ⟨x,rfl,hx,hr3,hg3⟩
  have hx20:x.size≤20:=(show ∀s∈[(⟨#[99,114,111,115,115,32,49,49,48,32,48,49,49,32,49]⟩:ByteArray),(⟨#[99,114,111,115,115,32,49,49,48,32,48,49,32,49]⟩:ByteArray),(⟨#[99,114,111,115,115,32,49,49,48,32,48,49,49,32,120]⟩:ByteArray),(⟨#[112,101,97,107,32,49,48,48,49,48,49,49,32,48,48,49,48,49,49,49]⟩:ByteArray),(⟨#[112,101,97,107,32,49,32,49,49]⟩:ByteArray),(⟨#[103,111,108,100,32,51,32,51,32,53,32,48]⟩:ByteArray),(⟨#[103,111,108,100,32,51,32,51,32,53,32,57]⟩:ByteArray),(⟨#[119,97,108,115,104,32,50,32,51]⟩:ByteArray),(⟨#[119,97,108,115,104,32,50,32,52]⟩:ByteArray),(⟨#[116,114,101,101,32,49,48]⟩:ByteArray),(⟨#[116,114,101,101,32,45]⟩:ByteArray),(⟨#[116,114,101,101,32,50]⟩:ByteArray)],s.size≤20 by decide) x hx
  have hgB:=(Zaj hgA ((Below.refl _ _).alloc (Nat.le_refl w2.heap.size) _)).trans hg3
  clear hx hr2 hgA hg3
  go_wp2_with fail
  go_ret
  exact⟨x,_,rfl,by omega,by omega,by omega,hr3,hgB⟩
 have h2':(u==2)=false:=by simpa using h2
 clear h2
 by_cases h3:(u==3)=true
 ·have z1:((⟨#[115,112,114,101,97,100,32]⟩:ByteArray)++D:ByteArray).size=7+D.size:=Zap _ _
  have z2:((⟨#[115,112,114,101,97,100,32]⟩:ByteArray)++D++(⟨#[32]⟩:ByteArray):ByteArray).size=((⟨#[115,112,114,101,97,100,32]⟩:ByteArray)++D:ByteArray).size+1:=Zap _ _
  go_wp2_with fail
  refine(Zg7 [(⟨#[48,49,48,49]⟩:ByteArray),(⟨#[48,48,49,49]⟩:ByteArray),(⟨#[49,48,48,49,48,49,49]⟩:ByteArray),(⟨#[45]⟩:ByteArray)] hr2 (by omega) rfl rfl (by decide) (by decide)).mono ?_;rintro e w3 ⟨x,rfl,hx,hr3,hg3⟩
  have hx20:x.size≤20:=(show ∀s∈[(⟨#[48,49,48,49]⟩:ByteArray),(⟨#[48,48,49,49]⟩:ByteArray),(⟨#[49,48,48,49,48,49,49]⟩:ByteArray),(⟨#[45]⟩:ByteArray)],s.size≤20 by decide) x hx
  have hgB:=(Zaj hgA ((Below.refl _ _).alloc (Nat.le_refl w2.heap.size) _)).trans hg3
  clear hx hr2 hgA hg3
  have z3:((⟨#[115,112,114,101,97,100,32]⟩:ByteArray)++D++(⟨#[32]⟩:ByteArray)++x:ByteArray).size=((⟨#[115,112,114,101,97,100,32]⟩:ByteArray)++D++(⟨#[32]⟩:ByteArray):ByteArray).size+x.size:=Zap _ _
  go_wp2_with fail
  go_ret
  exact⟨_,_,rfl,by omega,by omega,by omega,hr3,hgB⟩
 have h3':(u==3)=false:=by simpa using h3
 clear h3
 by_cases h4:(u==4)=true
 ·go_wp2_with fail
  refine(Zg7 [(⟨#[100,101,115,112,114,101,97,100,32,48,49,48,49,32,50]⟩:ByteArray),(⟨#[114,101,99,101,105,118,101,32,48,49,48,49,32,48,32,51]⟩:ByteArray),(⟨#[114,101,99,101,105,118,101,32,48,48,49,49,32,49,32,50]⟩:ByteArray),(⟨#[103,97,105,110,32,50]⟩:ByteArray),(⟨#[103,97,105,110,32,120]⟩:ByteArray),(⟨#[115,105,103,110,97,108]⟩:ByteArray),(⟨#[114,101,99,101,105,118,101,32,48,49,48,49,32,48]⟩:ByteArray)] hr2 (by omega) rfl rfl (by decide) (by decide)).mono ?_;rintro e w3 ⟨x,rfl,hx,hr3,hg3⟩
  have hx20:x.size≤20:=(show ∀s∈[(⟨#[100,101,115,112,114,101,97,100,32,48,49,48,49,32,50]⟩:ByteArray),(⟨#[114,101,99,101,105,118,101,32,48,49,48,49,32,48,32,51]⟩:ByteArray),(⟨#[114,101,99,101,105,118,101,32,48,48,49,49,32,49,32,50]⟩:ByteArray),(⟨#[103,97,105,110,32,50]⟩:ByteArray),(⟨#[103,97,105,110,32,120]⟩:ByteArray),(⟨#[115,105,103,110,97,108]⟩:ByteArray),(⟨#[114,101,99,101,105,118,101,32,48,49,48,49,32,48]⟩:ByteArray)],s.size≤20 by decide) x hx
  have hgB:=(Zaj hgA ((Below.refl _ _).alloc (Nat.le_refl w2.heap.size) _)).trans hg3
  clear hx hr2 hgA hg3
  go_wp2_with fail
  go_ret
  exact⟨x,_,rfl,by omega,by omega,by omega,hr3,hgB⟩
 have h4':(u==4)=false:=by simpa using h4
 clear h4
 by_cases h5:(u==5)=true
 ·go_wp2_with fail
  refine(Zg7 [(⟨#[102,114,97,109,101,32]⟩:ByteArray),(⟨#[112,114,111,116,101,99,116,32]⟩:ByteArray),(⟨#[102,105,110,100,32]⟩:ByteArray)] hr2 (by omega) rfl rfl (by decide) (by decide)).mono ?_;rintro e w3 ⟨x,rfl,hx,hr3,hg3⟩
  have hx20:x.size≤20:=(show ∀s∈[(⟨#[102,114,97,109,101,32]⟩:ByteArray),(⟨#[112,114,111,116,101,99,116,32]⟩:ByteArray),(⟨#[102,105,110,100,32]⟩:ByteArray)],s.size≤20 by decide) x hx
  have hgB:=(Zaj hgA ((Below.refl _ _).alloc (Nat.le_refl w2.heap.size) _)).trans hg3
  clear hx hr2 hgA hg3
  have z1:(x++D).size=x.size+D.size:=Zap _ _
  go_wp2_with fail
  go_ret
  exact⟨_,_,rfl,by omega,by omega,by omega,hr3,hgB⟩
 have h5':(u==5)=false:=by simpa using h5
 clear h5
 by_cases h6:(u==6)=true
 ·go_wp2_with fail
  refine(Zie 6 hr2 (by omega) (by omega)).mono ?_;rintro e w3 ⟨y,q3,rfl,hy,_,hq2,hq3,hr3,hg3⟩
  have hgB:=hgA.trans hg3
  have hP:=Zaey y 3 3 3 1
  have HPP:=Lib.hid (fun c=>Zd4 y 3 3 3 1 c (by omega))
  unfold Zdx at HPP
  generalize (prR y 3 3 3 1).getD ByteArray.empty=Y at*
  generalize (prR y 3 3 3 1).isSome=B at*
  have HY:=Lib.hid hP.1;have hY6:=hP.2
  clear hr2 hgA hg3 hP
  go_wp2_with fail
  refine(HPP.out _).mono ?_;rintro e w4 ⟨rfl,hb4⟩
  have hr4:=hr3.below hb4
  have hgC:=Zaj hgB hb4
  clear hr3 hgB hb4
  go_wp2_with fail
  refine(Zads Y hr4 (by omega) hY6 HY.out).mono ?_;rintro e w5 ⟨v,q5,rfl,hv,_,hq4,hq5,hr5,hg5⟩
  have hgD:=hgC.trans hg5
  have z1:((⟨#[111,112,101,110,32]⟩:ByteArray)++v:ByteArray).size=5+v.size:=Zap _ _
  have z2:((⟨#[111,112,101,110,32]⟩:ByteArray)++v++(⟨#[32,51]⟩:ByteArray):ByteArray).size=((⟨#[111,112,101,110,32]⟩:ByteArray)++v:ByteArray).size+2:=Zap _ _
  clear hr4 hgC hg5
  go_wp2_with fail
  go_ret
  exact⟨_,_,rfl,by omega,by omega,by omega,hr5,hgD⟩
 have h6':(u==6)=false:=by simpa using h6
 clear h6
 by_cases h7:(u==7)=true
 ·go_wp2_with fail
  refine(Zg7 [(⟨#[97,100,109,105,116,32,97,32,50,32,51]⟩:ByteArray),(⟨#[97,100,109,105,116,32,98,32,49,32,49]⟩:ByteArray),(⟨#[97,100,109,105,116,32,99,32,51,32,50]⟩:ByteArray),(⟨#[97,100,109,105,116,32,97,32,50,32,48]⟩:ByteArray),(⟨#[114,101,108,101,97,115,101,32,97]⟩:ByteArray),(⟨#[114,101,108,101,97,115,101,32,122]⟩:ByteArray),(⟨#[112,111,119,101,114,32,52]⟩:ByteArray),(⟨#[112,111,119,101,114,32,57,57]⟩:ByteArray),(⟨#[99,101,108,108]⟩:ByteArray),(⟨#[99,101,108,108,32,97,58,48,48,58,54,58,51]⟩:ByteArray),(⟨#[99,101,108,108,32,120]⟩:ByteArray),(⟨#[99,101,108,108,32,45]⟩:ByteArray),(⟨#[115,101,110,100,32,48,49,32,49]⟩:ByteArray),(⟨#[115,101,110,100,32,48,49,49,48]⟩:ByteArray),(⟨#[115,101,110,100,32,45]⟩:ByteArray),(⟨#[104,101,97,114,32,97,32,50]⟩:ByteArray),(⟨#[104,101,97,114,32,98,32,49]⟩:ByteArray)] hr2 (by omega) rfl rfl (by decide) (by decide)).mono ?_;rintro e w3 ⟨x,rfl,hx,hr3,hg3⟩
  have hx20:x.size≤20:=(show ∀s∈[(⟨#[97,100,109,105,116,32,97,32,50,32,51]⟩:ByteArray),(⟨#[97,100,109,105,116,32,98,32,49,32,49]⟩:ByteArray),(⟨#[97,100,109,105,116,32,99,32,51,32,50]⟩:ByteArray),(⟨#[97,100,109,105,116,32,97,32,50,32,48]⟩:ByteArray),(⟨#[114,101,108,101,97,115,101,32,97]⟩:ByteArray),(⟨#[114,101,108,101,97,115,101,32,122]⟩:ByteArray),(⟨#[112,111,119,101,114,32,52]⟩:ByteArray),(⟨#[112,111,119,101,114,32,57,57]⟩:ByteArray),(⟨#[99,101,108,108]⟩:ByteArray),(⟨#[99,101,108,108,32,97,58,48,48,58,54,58,51]⟩:ByteArray),(⟨#[99,101,108,108,32,120]⟩:ByteArray),(⟨#[99,101,108,108,32,45]⟩:ByteArray),(⟨#[115,101,110,100,32,48,49,32,49]⟩:ByteArray),(⟨#[115,101,110,100,32,48,49,49,48]⟩:ByteArray),(⟨#[115,101,110,100,32,45]⟩:ByteArray),(⟨#[104,101,97,114,32,97,32,50]⟩:ByteArray),(⟨#[104,101,97,114,32,98,32,49]⟩:ByteArray)],s.size≤20 by decide) x hx
  have hgB:=(Zaj hgA ((Below.refl _ _).alloc (Nat.le_refl w2.heap.size) _)).trans hg3
  clear hx hr2 hgA hg3
  go_wp2_with fail
  go_ret
  exact⟨x,_,rfl,by omega,by omega,by omega,hr3,hgB⟩
 have h7':(u==7)=false:=by simpa using h7
 clear h7
 go_wp2_with fail
 refine(Zg7 [(⟨#[119,104,97,116]⟩:ByteArray),(⟨#[]⟩:ByteArray),(⟨#[32,99,101,108,108]⟩:ByteArray),(⟨#[99,101,108,108,32]⟩:ByteArray),(⟨#[98,105,116,115]⟩:ByteArray),(⟨#[98,105,116,115,32,49,32,50]⟩:ByteArray),(⟨#[102,111,114,103,101,116]⟩:ByteArray),(⟨#[102,114,97,109,101]⟩:ByteArray),(⟨#[112,114,111,116,101,99,116,32,48,49,32,51]⟩:ByteArray),(⟨#[112,114,111,116,101,99,116,32,48,49,32,48]⟩:ByteArray),(⟨#[114,101,103,105,115,116,101,114]⟩:ByteArray),(⟨#[112,101,114,105,111,100,32]⟩:ByteArray),(⟨#[104,101,97,114,32,97]⟩:ByteArray)] hr2 (by omega) rfl rfl (by decide) (by decide)).mono ?_;rintro e w3 ⟨x,rfl,hx,hr3,hg3⟩
 have hx20:x.size≤20:=(show ∀s∈[(⟨#[119,104,97,116]⟩:ByteArray),(⟨#[]⟩:ByteArray),(⟨#[32,99,101,108,108]⟩:ByteArray),(⟨#[99,101,108,108,32]⟩:ByteArray),(⟨#[98,105,116,115]⟩:ByteArray),(⟨#[98,105,116,115,32,49,32,50]⟩:ByteArray),(⟨#[102,111,114,103,101,116]⟩:ByteArray),(⟨#[102,114,97,109,101]⟩:ByteArray),(⟨#[112,114,111,116,101,99,116,32,48,49,32,51]⟩:ByteArray),(⟨#[112,114,111,116,101,99,116,32,48,49,32,48]⟩:ByteArray),(⟨#[114,101,103,105,115,116,101,114]⟩:ByteArray),(⟨#[112,101,114,105,111,100,32]⟩:ByteArray),(⟨#[104,101,97,114,32,97]⟩:ByteArray)],s.size≤20 by decide) x hx
 have hgB:=(Zaj hgA ((Below.refl _ _).alloc (Nat.le_refl w2.heap.size) _)).trans hg3
 clear hx hr2 hgA hg3
 go_wp2_with fail
 go_ret
 exact⟨x,_,rfl,by omega,by omega,by omega,hr3,hgB⟩
theorem Zabm {w:World} {ao:Option Addr} {n c:Nat} (h:Zzb w ao n c):Calls Tryz.prog 22 #[.slice ao n c] w (fun e w'=>∃v:ByteArray,e= .returned (.string v)∧v.size≤50000∧Below w.heap.size w w'):=by
 obtain⟨lb,hR,hcap,hby⟩:=h
 go_enter Tryz.func22,Tryz.ntmps22
 go_wp2_with fail
 refine(Zkd hR hcap hby).mono ?_;rintro e w1 ⟨rfl,hr1,hb1⟩
 have hz1:=hb1.size
 have hgl:=hr1.lt
 clear hR hby
 go_wp2_with fail
 refine(Ze6 [8,5,12,3] hr1 (by omega) rfl rfl (by decide) (by decide)).mono ?_;rintro e w2 ⟨x,rfl,hx,hr2,hg2⟩
 have hb2:=(hb1.alloc hz1 (.cells #[.int .i64 8,.int .i64 5,.int .i64 12,.int .i64 3] 3)).trans (Zah hg2 (Nat.le_refl _) (hb1.alloc hz1 _).size)
 have hxs:3≤x∧x≤12:=by simp only[List.mem_cons,List.not_mem_nil,or_false]at hx;omega
 obtain⟨M,rfl⟩:=Int.eq_ofNat_of_zero_le (show 0≤x by omega)
 clear hx hr1 hb1 hg2
 go_wp2_with fail
 go_loopw [4,5] (fun v i wr=>∃(k:Nat) (o:ByteArray) (q:Nat),k≤M∧i= .int .i64 (k:Nat)∧v= .string o∧o.size+621*k≤7452∧M≤o.size+k∧q+40*k≤500∧Rdr wr w.heap.size q∧Below w.heap.size w wr) (fun _ i _=>(intOf i).toNat)
 case atStart=>exact⟨M,⟨#[]⟩,_,Nat.le_refl _,rfl,rfl,by show 0+621*M≤7452;omega,by show M≤0+M;omega,by omega,hr2,hb2⟩
 case round=>
  clear hr2 hb2
  obtain⟨k,o,q,hk,rfl,rfl,hos,hom,hq,hr,hb⟩:=hrel
  by_cases hk0:0<k
  ·have hz:=hb.size
   go_wp2_with fail
   refine(Zafm hr (by omega)).mono ?_;rintro e w3 ⟨l,q3,rfl,hl,hq4,hq5,hr3,hg3⟩
   have hb3:=hb.trans (Zah hg3 (Nat.le_refl _) hz)
   have z1:(o++l).size=o.size+l.size:=Zap _ _
   have z2:(o++l++(⟨#[10]⟩:ByteArray):ByteArray).size=(o++l).size+1:=Zap _ _
   clear hr hb hg3
   go_wp2_with fail
   go_roundw
   case rel=>exact⟨k-1,_,q3,by omega,by go_num,rfl,by omega,by omega,by omega,hr3,hb3⟩
   case measure=>simp[intOf];omega
  ·obtain rfl:k=0:=by omega
   have hk0':¬(0:Int)<((0:Nat):Int):=by omega
   go_wp2_with fail
   refine(Zbm _ hr (by omega)).mono ?_;rintro e w4 ⟨u,rfl,u0,u1,hr4,hg4⟩
   have hb4:=hb.trans (Zah hg4 (Nat.le_refl _) hb.size)
   have hos9:o.size≤7452:=by omega
   have ho3:3≤o.size:=by omega
   clear hr hb hg4 u1 hos hom hk hk0
   by_cases h0:(u==0)=true
   ·go_wp2_with fail
    go_loopw [4,6] (fun v i wr=>∃(k:Nat) (o:ByteArray),k≤101∧i= .int .i64 (k:Nat)∧v= .string o∧o.size≤7452+5*k∧3≤o.size∧wr=w4) (fun _ i _=>101-(intOf i).toNat)
    case atStart=>exact⟨0,o,by omega,rfl,rfl,by omega,ho3,rfl⟩
    case round=>
     clear hos9 ho3
     obtain⟨j,o,hj,rfl,rfl,hos,hom,rfl⟩:=hrel
     by_cases hj1:j≤100
     ·have z1:(o++(⟨#[119,104,97,116,10]⟩:ByteArray):ByteArray).size=o.size+5:=Zap _ _
      have hj1':(j:Int)≤100:=by omega
      go_wp2_with fail
      go_roundw
      case rel=>exact⟨j+1,_,by omega,by go_num,rfl,by omega,by omega,by first|rfl|trivial⟩
      case measure=>simp[intOf];omega
     ·have hj1':¬(j:Int)≤100:=by omega
      have hr:=hr4;have hb:=hb4
      have hos2:o.size≤20005:=by omega
      clear hr4 hb4 hos
      go_wp2_with fail
      refine(Zbm _ hr (by omega)).mono ?_;rintro e w6 ⟨y,rfl,y0,y1,hr6,hg6⟩
      have hb6:=hb.trans (Zah hg6 (Nat.le_refl _) hb.size)
      clear hr hb hg6 y1
      by_cases hy:(y==0)=true
      ·go_wp2_with fail
       go_ret
       exact⟨o,rfl,by omega,hb6⟩
      have hy':(y==0)=false:=by simpa using hy
      clear hy
      go_wp2_with fail
      refine(Zbm _ hr6 (by omega)).mono ?_;rintro e w7 ⟨z,rfl,z0,z1,hr7,hg7⟩
      have hb7:=hb6.trans (Zah hg7 (Nat.le_refl _) hb6.size)
      obtain⟨K,rfl⟩:=Int.eq_ofNat_of_zero_le z0
      have hK:K<o.size:=by omega
      clear hr6 hb6 hg7 z1 z0
      have hrD:=hr7.below ((Below.refl _ _).drew)
      have hbD:=hb7.drew
      have s0:(o.extract 0 K).size=K:=Zbc (by omega)
      have hK':(K:Int)≤(o.size:Int):=by omega
      clear hr7 hb7
      go_wp2_with fail
      go_region_with (first|(go_at_call 73;refine(Zg7 [(⟨#[]⟩:ByteArray),(⟨#[32]⟩:ByteArray),(⟨#[10]⟩:ByteArray),(⟨#[120]⟩:ByteArray),(⟨#[48]⟩:ByteArray)] hrD (by omega) rfl rfl (by decide) (by decide)).mono ?_;rintro e w8 ⟨x,rfl,hx,hr8,hg8⟩;have hbA:=hbD.alloc hbD.size (.cells ([(⟨#[]⟩:ByteArray),(⟨#[32]⟩:ByteArray),(⟨#[10]⟩:ByteArray),(⟨#[120]⟩:ByteArray),(⟨#[48]⟩:ByteArray)].map Value.string).toArray 9);have hb8:=hbA.trans (Zah hg8 (Nat.le_refl _) hbA.size);have hx1:x.size≤1:=(show ∀s∈[(⟨#[]⟩:ByteArray),(⟨#[32]⟩:ByteArray),(⟨#[10]⟩:ByteArray),(⟨#[120]⟩:ByteArray),(⟨#[48]⟩:ByteArray)],s.size≤1 by decide) x hx;have s1:(o.extract 0 K++x).size=(o.extract 0 K).size+x.size:=Zap _ _;clear hx hbA hg8)|(go_at_call 45;refine(Zbm 2 hr8 (by omega)).mono ?_;rintro e w9 ⟨l,rfl,l0,l1,hr9,hg9⟩;have hb9:=hb8.trans (Zah hg9 (Nat.le_refl _) hb8.size);obtain⟨L,rfl⟩:=Int.eq_ofNat_of_zero_le l0;obtain⟨K2,kw,hK2⟩:∃K2:Nat,IntKind.i64.wrap ((K:Int)+(L:Int))=(K2:Int)∧K2≤o.size:=⟨K+L,(by rw[IntWalk.i64_in _ (by omega)];omega),(by omega)⟩;have hK2':(K2:Int)≤(o.size:Int):=(by omega);have s2:(o.extract K2 o.size).size=o.size-K2:=Zbc (by omega);have s3:(o.extract 0 K++x++o.extract K2 o.size).size=(o.extract 0 K++x).size+(o.extract K2 o.size).size:=Zap _ _))
      all_goals (go_wp2_with fail;go_ret;exact⟨_,rfl,by omega,hb9⟩)
   have h0':(u==0)=false:=by simpa using h0
   clear h0
   by_cases h1:(u==1)=true
   ·go_wp2_with fail
    go_loopw [4] (fun v wr=>∃(o:ByteArray),v= .string o∧o.size≤20005∧3≤o.size∧wr=w4) (fun v _=>20005-(match v with| .string s=>s.size|_=>0))
    case atStart=>exact⟨o,rfl,by omega,ho3,rfl⟩
    case round=>
     clear hos9 ho3
     obtain⟨o,rfl,hos,hom,rfl⟩:=hrel
     by_cases hj1:o.size≤20000
     ·have z1:(o++(⟨#[119,104,97,116,10]⟩:ByteArray):ByteArray).size=o.size+5:=Zap _ _
      have hj1':(o.size:Int)≤20000:=by omega
      go_wp2_with fail
      go_roundw
      case rel=>exact⟨_,rfl,by omega,by omega,by first|rfl|trivial⟩
      case measure=>show 20005-(o++(⟨#[119,104,97,116,10]⟩:ByteArray):ByteArray).size<20005-o.size;omega
     ·have hj1':¬(o.size:Int)≤20000:=by omega
      have hr:=hr4;have hb:=hb4
      have hos2:o.size≤20005:=by omega
      clear hr4 hb4 hos
      go_wp2_with fail
      refine(Zbm _ hr (by omega)).mono ?_;rintro e w6 ⟨y,rfl,y0,y1,hr6,hg6⟩
      have hb6:=hb.trans (Zah hg6 (Nat.le_refl _) hb.size)
      clear hr hb hg6 y1
      by_cases hy:(y==0)=true
      ·go_wp2_with fail
       go_ret
       exact⟨o,rfl,by omega,hb6⟩
      have hy':(y==0)=false:=by simpa using hy
      clear hy
      go_wp2_with fail
      refine(Zbm _ hr6 (by omega)).mono ?_;rintro e w7 ⟨z,rfl,z0,z1,hr7,hg7⟩
      have hb7:=hb6.trans (Zah hg7 (Nat.le_refl _) hb6.size)
      obtain⟨K,rfl⟩:=Int.eq_ofNat_of_zero_le z0
      have hK:K<o.size:=by omega
      clear hr6 hb6 hg7 z1 z0
      have hrD:=hr7.below ((Below.refl _ _).drew)
      have hbD:=hb7.drew
      have s0:(o.extract 0 K).size=K:=Zbc (by omega)
      have hK':(K:Int)≤(o.size:Int):=by omega
      clear hr7 hb7
      go_wp2_with fail
      go_region_with (first|(go_at_call 73;refine(Zg7 [(⟨#[]⟩:ByteArray),(⟨#[32]⟩:ByteArray),(⟨#[10]⟩:ByteArray),(⟨#[120]⟩:ByteArray),(⟨#[48]⟩:ByteArray)] hrD (by omega) rfl rfl (by decide) (by decide)).mono ?_;rintro e w8 ⟨x,rfl,hx,hr8,hg8⟩;have hbA:=hbD.alloc hbD.size (.cells ([(⟨#[]⟩:ByteArray),(⟨#[32]⟩:ByteArray),(⟨#[10]⟩:ByteArray),(⟨#[120]⟩:ByteArray),(⟨#[48]⟩:ByteArray)].map Value.string).toArray 9);have hb8:=hbA.trans (Zah hg8 (Nat.le_refl _) hbA.size);have hx1:x.size≤1:=(show ∀s∈[(⟨#[]⟩:ByteArray),(⟨#[32]⟩:ByteArray),(⟨#[10]⟩:ByteArray),(⟨#[120]⟩:ByteArray),(⟨#[48]⟩:ByteArray)],s.size≤1 by decide) x hx;have s1:(o.extract 0 K++x).size=(o.extract 0 K).size+x.size:=Zap _ _;clear hx hbA hg8)|(go_at_call 45;refine(Zbm 2 hr8 (by omega)).mono ?_;rintro e w9 ⟨l,rfl,l0,l1,hr9,hg9⟩;have hb9:=hb8.trans (Zah hg9 (Nat.le_refl _) hb8.size);obtain⟨L,rfl⟩:=Int.eq_ofNat_of_zero_le l0;obtain⟨K2,kw,hK2⟩:∃K2:Nat,IntKind.i64.wrap ((K:Int)+(L:Int))=(K2:Int)∧K2≤o.size:=⟨K+L,(by rw[IntWalk.i64_in _ (by omega)];omega),(by omega)⟩;have hK2':(K2:Int)≤(o.size:Int):=(by omega);have s2:(o.extract K2 o.size).size=o.size-K2:=Zbc (by omega);have s3:(o.extract 0 K++x++o.extract K2 o.size).size=(o.extract 0 K++x).size+(o.extract K2 o.size).size:=Zap _ _))
      all_goals (go_wp2_with fail;go_ret;exact⟨_,rfl,by omega,hb9⟩)
   have h1':(u==1)=false:=by simpa using h1
   clear h1
   by_cases h2:(u==2)=true
   ·obtain⟨N1,kw,hN1⟩:∃N1:Nat,IntKind.i64.wrap ((o.size:Int)-1)=(N1:Int)∧N1<o.size:=⟨o.size-1,(by rw[IntWalk.i64_in _ (by omega)];omega),(by omega)⟩
    go_wp2_with fail
    have s0:(o.extract 0 N1).size=N1:=Zbc (by omega)
    go_ret
    exact⟨_,rfl,by omega,hb4⟩
   have h2':(u==2)=false:=by simpa using h2
   clear h2
   have hr:=hr4;have hb:=hb4
   have hos2:o.size≤20005:=by omega
   clear hr4 hb4 hos9
   go_wp2_with fail
   refine(Zbm _ hr (by omega)).mono ?_;rintro e w6 ⟨y,rfl,y0,y1,hr6,hg6⟩
   have hb6:=hb.trans (Zah hg6 (Nat.le_refl _) hb.size)
   clear hr hb hg6 y1
   by_cases hy:(y==0)=true
   ·go_wp2_with fail
    go_ret
    exact⟨o,rfl,by omega,hb6⟩
   have hy':(y==0)=false:=by simpa using hy
   clear hy
   go_wp2_with fail
   refine(Zbm _ hr6 (by omega)).mono ?_;rintro e w7 ⟨z,rfl,z0,z1,hr7,hg7⟩
   have hb7:=hb6.trans (Zah hg7 (Nat.le_refl _) hb6.size)
   obtain⟨K,rfl⟩:=Int.eq_ofNat_of_zero_le z0
   have hK:K<o.size:=by omega
   clear hr6 hb6 hg7 z1 z0
   have hrD:=hr7.below ((Below.refl _ _).drew)
   have hbD:=hb7.drew
   have s0:(o.extract 0 K).size=K:=Zbc (by omega)
   have hK':(K:Int)≤(o.size:Int):=by omega
   clear hr7 hb7
   go_wp2_with fail
   go_region_with (first|(go_at_call 73;refine(Zg7 [(⟨#[]⟩:ByteArray),(⟨#[32]⟩:ByteArray),(⟨#[10]⟩:ByteArray),(⟨#[120]⟩:ByteArray),(⟨#[48]⟩:ByteArray)] hrD (by omega) rfl rfl (by decide) (by decide)).mono ?_;rintro e w8 ⟨x,rfl,hx,hr8,hg8⟩;have hbA:=hbD.alloc hbD.size (.cells ([(⟨#[]⟩:ByteArray),(⟨#[32]⟩:ByteArray),(⟨#[10]⟩:ByteArray),(⟨#[120]⟩:ByteArray),(⟨#[48]⟩:ByteArray)].map Value.string).toArray 9);have hb8:=hbA.trans (Zah hg8 (Nat.le_refl _) hbA.size);have hx1:x.size≤1:=(show ∀s∈[(⟨#[]⟩:ByteArray),(⟨#[32]⟩:ByteArray),(⟨#[10]⟩:ByteArray),(⟨#[120]⟩:ByteArray),(⟨#[48]⟩:ByteArray)],s.size≤1 by decide) x hx;have s1:(o.extract 0 K++x).size=(o.extract 0 K).size+x.size:=Zap _ _;clear hx hbA hg8)|(go_at_call 45;refine(Zbm 2 hr8 (by omega)).mono ?_;rintro e w9 ⟨l,rfl,l0,l1,hr9,hg9⟩;have hb9:=hb8.trans (Zah hg9 (Nat.le_refl _) hb8.size);obtain⟨L,rfl⟩:=Int.eq_ofNat_of_zero_le l0;obtain⟨K2,kw,hK2⟩:∃K2:Nat,IntKind.i64.wrap ((K:Int)+(L:Int))=(K2:Int)∧K2≤o.size:=⟨K+L,(by rw[IntWalk.i64_in _ (by omega)];omega),(by omega)⟩;have hK2':(K2:Int)≤(o.size:Int):=(by omega);have s2:(o.extract K2 o.size).size=o.size-K2:=Zbc (by omega);have s3:(o.extract 0 K++x++o.extract K2 o.size).size=(o.extract 0 K++x).size+(o.extract K2 o.size).size:=Zap _ _))
   all_goals (go_wp2_with fail;go_ret;exact⟨_,rfl,by omega,hb9⟩)
theorem Zo1 (t:ByteArray) (c:Nat):bts (t.extract 0 c)=(bts t).take c:=by
 rw[Zgx t (Nat.zero_le c)];unfold subL;rw[List.drop_zero]
def CutOk (t:ByteArray) (c:Nat):Prop:=c=0∨(0<c∧c≤t.size∧(bts t)[c-1]?=some 10)
theorem Z6x {t:ByteArray} {c:Nat} (hc:CutOk t c) (h:t.size≤20000):∃z,Zb4 t=Zb4 (t.extract 0 c)++z:=by
 rcases hc with rfl|⟨h0,h1,h2⟩
 ·refine⟨Zb4 t,?_⟩
  have e:t.extract 0 0=⟨#[]⟩:=by apply Zae;rw[Zo1,List.take_zero];rfl
  rw[e,Z64,Zui]
 ·have hl:c-1<(bts t).length:=by rw[Zbz];omega
  have hg:(bts t)[c-1]=10:=by rw[List.getElem?_eq_getElem hl]at h2;exact Option.some.inj h2
  have e1:t.extract 0 c=txt ((bts t).take (c-1))++⟨#[10]⟩:=by
   apply Zae
   rw[Zo1,Zbw,Zbv]
   have:(bts t).take c=(bts t).take (c-1+1):=by rw[show c-1+1=c by omega]
   rw[this,List.take_succ_eq_append_getElem hl,hg];rfl
  have e2:t=txt ((bts t).take (c-1))++⟨#[10]⟩++txt ((bts t).drop c):=by
   apply Zae
   rw[←e1,Zbw,Zo1,Zbv,List.take_append_drop]
  obtain⟨z,hz⟩:=Z5b (txt ((bts t).take (c-1))) (txt ((bts t).drop c)) (by rw[←e2];exact h)
  exact⟨z,by rw[←e2,←e1]at hz;exact hz⟩
theorem cut_says {t:ByteArray} {c:Nat} (hc:CutOk t c) (h:t.size≤20000):(Zb4 (t.extract 0 c)).size≤(Zb4 t).size∧(Zb4 t).extract 0 (Zb4 (t.extract 0 c)).size=Zb4 (t.extract 0 c):=by
 obtain⟨z,hz⟩:=Z6x hc h
 rw[hz]
 refine⟨by rw[ByteArray.size_append];omega,?_⟩
 apply Zae
 rw[Zo1,Zbw,←Zbz]
 exact List.take_left
theorem Zoe {w:World} {a:Option Addr} {len cap:Nat} {zs:List Int}
 (h:(a=none∧len=0∧cap=0∧zs=[])∨∃x,a=some x∧len≤cap∧cap≤maxLen∧zs.length=cap∧(∀i,i<zs.length→w.cell? (x.add i)=some (.int .u8 (zs.getD i 0)))∧∀n∈zs,(Lit.int .u8 n).wf=true)
 (hs:len≤1099511627776):Zzb w a len cap:=by
 rcases h with ⟨rfl,rfl,rfl,rfl⟩|⟨x,rfl,h1,h2,h3,h4,h5⟩
 ·exact⟨[],RdF.nil _ w,Nat.le_refl _,fun x hx=>by simp at hx⟩
 ·refine⟨zs.take len,⟨by rw[List.length_take];omega,hs,fun i hi=>?_⟩,h1,fun x hx=>?_⟩
  ·have hi2:i<len:=by rw[List.length_take]at hi;omega
   obtain⟨b,off,spot⟩:=x
   have hc0:=h4 0 (by omega)
   have hsp:spot=none:=by simpa[Addr.add]using World.cell?_spot hc0
   subst hsp
   refine⟨b,off,rfl,?_⟩
   have e:(zs.take len)[i]=zs.getD i 0:=by simp[List.getD,show i<zs.length by omega]
   rw[e,←h4 i (by omega),Addr.add_lit]
  ·have:=h5 x (List.mem_of_mem_take hx)
   simp only[Lit.wf,Bool.and_eq_true,decide_eq_true_eq]at this
   have e1:IntKind.u8.min=0:=by decide
   have e2:IntKind.u8.max=255:=by decide
   omega
end Go.Proofs.YtcjihfongfefoaaGreatDoor
