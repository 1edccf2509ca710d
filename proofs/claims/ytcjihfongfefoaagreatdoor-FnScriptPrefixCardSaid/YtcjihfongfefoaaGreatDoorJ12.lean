/- Ua Qc Nb Nc Ay An -/
import Derived.Test.YtcjihfongfefoaaGreatDoorJ09
import Derived.Test.YtcjihfongfefoaaGreatDoorJ10
import Derived.Test.YtcjihfongfefoaaGreatDoorJ11
namespace Go.Proofs.YtcjihfongfefoaaGreatDoor
open Go.RowKit
set_option maxHeartbeats 25600000
set_option maxRecDepth 100000
def rgF (s t x:Int):List ByteArray:=[decT s,decT t,decT x]
def rgT (s t x:Int):ByteArray:=if regB s t x=true then Zbi 32 (rgF s t x)else⟨#[]⟩
def parG (p:ByteArray):Option (Int×Int×Int):=
 match cutT 32 p with
 |[a,b,c]=>
  match numT a,numT b,numT c with
  |some s,some t,some x=>if regB s t x=true then some (s,t,x)else none
  |_,_,_=>none
 |_=>none
def rawG (p:ByteArray):Option (Int×Int×Int):=
 match cutT 32 p with
 |[a,b,c]=>some ((numT a).getD 0,(numT b).getD 0,(numT c).getD 0)
 |_=>none
def spG (p:ByteArray):Option (Int×Int×Int):=
 match rawG p with
 |some r=>if bts (rgT r.1 r.2.1 r.2.2)=bts p then some r else none
 |none=>none
theorem Zvd {s t x:Int} (h:regB s t x=true):(2≤s∧s≤8)∧(1≤t∧t≤255)∧(0≤x∧x≤255):=by
 obtain⟨S,T,X,rfl,rfl,rfl,h1,h2,h3⟩:=Zbx h
 have:=Zaw h1.2
 omega
theorem Zac4 {s t x:Int}:∀p∈rgF s t x,(32:UInt8) ∉ bts p:=by
 intro p hp
 simp only[rgF,List.mem_cons,List.not_mem_nil,or_false]at hp
 rcases hp with rfl|rfl|rfl<;>exact Zmq (by decide) (by decide)
theorem Zaht {s t x:Int}:cutT 32 (Zbi 32 (rgF s t x))=rgF s t x:=Zmn (by simp[rgF]) Zac4
theorem Zzu {s t x:Int} (h:regB s t x=true):parG (rgT s t x)=some (s,t,x):=by
 have hb:=Zvd h
 unfold rgT parG
 rw[if_pos h,Zaht]
 simp only[rgF]
 rw[Zew (by omega) (by omega),Zew (by omega) (by omega),Zew (by omega) (by omega)]
 simp only[]
 rw[if_pos h]
theorem Z1u {p:ByteArray} {s t x:Int} (h:parG p=some (s,t,x)):rawG p=some (s,t,x)∧rgT s t x=p∧regB s t x=true:=by
 unfold parG at h
 split at h
 ·next a b c hc=>
  split at h
  ·next s' t' x' h1 h2 h3=>
   split at h
   ·next hx=>
    obtain⟨rfl,rfl,rfl⟩:s'=s∧t'=t∧x'=x:=by simpa using h
    refine⟨?_,?_,hx⟩
    ·unfold rawG;rw[hc];simp only[h1,h2,h3,Option.getD_some]
    ·unfold rgT rgF
     rw[if_pos hx,Zmw h1,Zmw h2,Zmw h3,←hc,Zji]
   ·cases h
  ·cases h
 ·cases h
theorem Zakl (p:ByteArray):spG p=parG p:=by
 cases hp:parG p with
 |some r=>
  obtain⟨s,t,x⟩:=r
  obtain⟨h1,h2,_⟩:=Z1u hp
  unfold spG
  rw[h1]
  simp only[]
  rw[if_pos (by rw[h2])]
 |none=>
  unfold spG
  split
  ·next r hr=>
   split
   ·next he=>
    exfalso
    have he:=Zae he
    by_cases hx:regB r.1 r.2.1 r.2.2=true
    ·rw[←he,Zzu hx]at hp;cases hp
    ·unfold rgT at he
     rw[if_neg hx]at he
     rw[←he]at hr
     cases hr
   ·rfl
  ·rfl
theorem Zbw (a b:ByteArray):bts (a++b)=bts a++bts b:=by simp[bts]
theorem rgT_is (s t x:Int):decT s++⟨#[32]⟩++decT t++⟨#[32]⟩++decT x=Zbi 32 (rgF s t x):=by
 apply Zae
 unfold Zbi rgF
 rw[Zbv]
 simp only[List.map_cons,List.map_nil]
 rw[Zeg,Zeg,Lib.join_one]
 have h32:bts (⟨#[32]⟩:ByteArray)=[32]:=rfl
 rw[Zbw,Zbw,Zbw,Zbw,h32]
 simp only[List.append_assoc]
def Zfl (p:ByteArray):ByteArray:=text (Zdh p p.size)
theorem Zks {p:ByteArray} (h:p.size≤6):(Zfl p).size≤64:=by
 unfold Zfl;rw[Zaq,Zic];exact pow6 h
theorem Z3v {w w':World} {r r':Option ByteArray} (hr:r=r') (hb:Below w.heap.size w w'):Zdx w r (.returned (.tuple #[.string (r'.getD ByteArray.empty),.bool r'.isSome])) w':=by
 subst hr;exact⟨rfl,hb⟩
def crcR (l:List Stn) (s:List Int) (nm:ByteArray) (m:Int):Option ByteArray:=
 if(Zay l&&decide (0≤idxS l nm))=true then rcvR s (Zfl (l.getD (idxS l nm).toNat zstn).ph) 0 m else none
theorem Z17 {l:List Stn} {s:List Int} {nm:ByteArray} {m:Int} (h:Zay l=false):crcR l s nm m=none:=by simp[crcR,h]
theorem Z2e {l:List Stn} {s:List Int} {nm:ByteArray} {m:Int} (h:idxS l nm= -1):crcR l s nm m=none:=by simp[crcR,h]
theorem Zwk {l:List Stn} {s:List Int} {nm:ByteArray} {m:Int} {f:Nat} (h:Zay l=true) (hf:f<l.length) (hi:idxS l nm=f):crcR l s nm m=rcvR s (Zfl l[f].ph) 0 m:=by
 unfold crcR;rw[hi,h,if_pos (by simp)];simp only[Int.toNat_natCast];rw[Zcv hf]
theorem Zl0 {ao bo:Option Addr} {n c nb cb:Nat} {l:List Stn} {s:List Int} {w:World} (nm:ByteArray) (m:Int) (h:RdS w ao n l) (hcap:n≤c) (h':Rd w bo nb s):
 Calls Tryz.prog 16 #[.slice ao n c,.slice bo nb cb,.string nm,.int .i64 m] w (Zdx w (crcR l s nm m)):=by
 have hs:=h.2.1
 by_cases h1:Zay l=true
 ·rcases Zgk l nm with hi|⟨f,hf,hi⟩
  ·have hr:=Lib.hid (Z2e (s:=s) (m:=m) hi)
   go_enter Tryz.func16,Tryz.ntmps16
   go_wp2_with fail
   refine(Zbu nm h).mono ?_;rintro e w1 ⟨rfl,hb1⟩
   rw[hi]
   clear hi
   have hA:=h.below hb1
   have hz1:=hb1.size
   clear h
   go_wp2_with fail
   refine(Zba hA hcap).mono ?_;rintro e w2 ⟨rfl,hb2⟩
   rw[h1]
   clear h1
   have hbb:=hb1.trans (hb2.mono hz1)
   go_wp2_with fail
   go_ret2
   exact Zag hr.out hbb
  ·have hr:=Lib.hid (Zwk (s:=s) (m:=m) h1 hf hi)
   have HP:=Lib.hid (show Zcq l[f].ph=true by
    have:=Zej h1 hf
    unfold stB at this;simp only[Bool.and_eq_true]at this;exact this.1.1.2)
   have hfn:f<n:=by rw[h.1];exact hf
   go_enter Tryz.func16,Tryz.ntmps16
   go_wp2_with fail
   refine(Zbu nm h).mono ?_;rintro e w1 ⟨rfl,hb1⟩
   rw[hi]
   clear hi
   have hA:=h.below hb1
   have hS1:=h'.below hb1
   have hz1:=hb1.size
   clear h h'
   go_wp2_with fail
   refine(Zba hA hcap).mono ?_;rintro e w2 ⟨rfl,hb2⟩
   rw[h1]
   clear h1
   have hbb:=hb1.trans (hb2.mono hz1)
   have hB:=hA.below hb2
   have hS2:=hS1.below hb2
   have hz2:=hbb.size
   obtain⟨bk,off,rfl,hl,hc0,hc1,hc2,hc3⟩:=hB.at hfn
   clear hA hS1 hb1 hb2 hB
   go_wp2_with fail
   refine(Znq _ _ HP.out).mono ?_;rintro e w3 ⟨rfl,hb3⟩
   have hS3:=hS2.below hb3
   have hbc:=hbb.trans (hb3.mono hz2)
   have hz3:=hbc.size
   clear hc0 hc1 hc2 hc3 hS2 hbb hb3
   go_wp2_with fail
   refine(Zio (Zfl l[f].ph) 0 m hS3).mono ?_;rintro e w4 ⟨rfl,hb4⟩
   go_wp2_with fail
   go_ret2
   exact Z3v hr.out (hbc.trans (hb4.mono hz3))
 ·have h1':Zay l=false:=by simpa using h1
  have hr:=Lib.hid (Z17 (s:=s) (nm:=nm) (m:=m) h1')
  go_enter Tryz.func16,Tryz.ntmps16
  go_wp2_with fail
  refine(Zbu nm h).mono ?_;rintro e w1 ⟨rfl,hb1⟩
  have hA:=h.below hb1
  have hz1:=hb1.size
  clear h h1
  go_wp2_with fail
  refine(Zba hA hcap).mono ?_;rintro e w2 ⟨rfl,hb2⟩
  rw[h1']
  clear h1'
  have hbb:=hb1.trans (hb2.mono hz1)
  go_wp2_with fail
  go_ret2
  exact Zag hr.out hbb
theorem Zsa {ao bo:Option Addr} {n c nb cb:Nat} {l:List Stn} {s:List Int} {w:World} (nm:ByteArray) (m:Int) (h:RdS w ao n l) (h':Rd w bo nb s) (hm2:∀i (h:i<l.length),(l[i]'h).nm.size≤1099511627776∧(l[i]'h).ph.size≤1099511627776):
 Calls Tryz.prog 233 #[.slice ao n c,.slice bo nb cb,.string nm,.int .i64 m] w (Zdx w (crcR l s nm m)):=by
 have hs:=h.2.1
 have HM:=Lib.hid hm2;clear hm2
 by_cases h1:Zay l=true
 ·rcases Zgk l nm with hi|⟨f,hf,hi⟩
  ·have hr:=Lib.hid (Z2e (s:=s) (m:=m) hi)
   go_enter Tryz.func233,Tryz.ntmps233
   go_wp2_with fail
   refine(Zec nm h).mono ?_;rintro e w' ⟨rfl,rfl⟩
   rw[hi]
   clear hi
   go_wp2_with fail
   refine(Za8 h HM.out).mono ?_;rintro e w2 ⟨rfl,hbb⟩
   rw[h1]
   clear h1
   go_wp2_with fail
   go_ret2
   exact Zag hr.out hbb
  ·have hr:=Lib.hid (Zwk (s:=s) (m:=m) h1 hf hi)
   have HP:=Lib.hid (show Zcq l[f].ph=true by
    have:=Zej h1 hf
    unfold stB at this;simp only[Bool.and_eq_true]at this;exact this.1.1.2)
   have hp6:=Zcr HP.out
   have hts:=Zks hp6
   have hfn:f<n:=by rw[h.1];exact hf
   go_enter Tryz.func233,Tryz.ntmps233
   go_wp2_with fail
   refine(Zec nm h).mono ?_;rintro e w' ⟨rfl,rfl⟩
   rw[hi]
   clear hi
   go_wp2_with fail
   refine(Za8 h HM.out).mono ?_;rintro e w2 ⟨rfl,hbb⟩
   rw[h1]
   clear h1
   have hB:=h.below hbb
   have hS2:=h'.below hbb
   clear h h'
   have hz2:=hbb.size
   obtain⟨bk,off,rfl,hl,hc0,hc1,hc2,hc3⟩:=hB.at hfn
   clear hB
   go_wp2_with fail
   refine(Zuw _ _ hp6).mono ?_;rintro e w3 ⟨rfl,hb3⟩
   have hS3:=hS2.below hb3
   have hbc:=hbb.trans (hb3.mono hz2)
   have hz3:=hbc.size
   clear hc0 hc1 hc2 hc3 hS2 hbb hb3
   go_wp2_with fail
   refine(Zla (Zfl l[f].ph) 0 m hS3 (by omega)).mono ?_;rintro e w4 ⟨rfl,hb4⟩
   go_wp2_with fail
   go_ret2
   exact Z3v hr.out (hbc.trans (hb4.mono hz3))
 ·have h1':Zay l=false:=by simpa using h1
  have hr:=Lib.hid (Z17 (s:=s) (nm:=nm) (m:=m) h1')
  go_enter Tryz.func233,Tryz.ntmps233
  go_wp2_with fail
  refine(Zec nm h).mono ?_;rintro e w' ⟨rfl,rfl⟩
  clear h1
  go_wp2_with fail
  refine(Za8 h HM.out).mono ?_;rintro e w2 ⟨rfl,hbb⟩
  rw[h1']
  clear h1'
  go_wp2_with fail
  go_ret2
  exact Zag hr.out hbb
def Zz8 (d s:ByteArray):Bool:=Zan d&&seqB s&&decide (d.size*s.size≤3000)
def sprR (d s:ByteArray):Option (List Int):=if Zz8 d s=true then some (Zbj (Zab d) (Zab s))else none
theorem Zahm {d s:ByteArray} (h:Zan d=false):sprR d s=none:=by simp[sprR,Zz8,h]
theorem Zag6 {d s:ByteArray} (h:seqB s=false):sprR d s=none:=by simp[sprR,Zz8,h]
theorem Zahe {d s:ByteArray} (h:¬d.size*s.size≤3000):sprR d s=none:=by simp[sprR,Zz8,h]
theorem Zt6 {d s:ByteArray} (h1:Zan d=true) (h2:seqB s=true) (h3:d.size*s.size≤3000):sprR d s=some (Zbj (Zab d) (Zab s)):=by simp[sprR,Zz8,h1,h2,h3]
theorem Z04 {a b p:Nat} (h:a*b=p) (hp:p≤4000000000):IntKind.i64.wrap ((a:Int)*(b:Int))=(p:Int):=by
 rw[←Int.natCast_mul,h];exact IntWalk.i64_in _ (by omega)
theorem Zem {s:ByteArray} (h:Zan s=true):s.size≤600:=by unfold Zan at h;rw[Bool.and_eq_true]at h;exact of_decide_eq_true h.1
theorem Zjz (d s:ByteArray) (w:World):Calls Tryz.prog 38 #[.string d,.string s] w (RetIntsB w (sprR d s)):=by
 by_cases h1:Zan d=true
 ·by_cases h2:seqB s=true
  ·have hd6:=Zem h1
   obtain⟨hs1,hs2⟩:=Zbg h2
   obtain⟨m,hm⟩:∃m,d.size*s.size=m:=⟨_,rfl⟩
   have hmI:(d.size:Int)*(s.size:Int)=(m:Int):=by rw[←hm,Int.natCast_mul]
   have hm2:m≤600*255:=by rw[←hm];exact Nat.mul_le_mul hd6 hs2
   by_cases h3:m≤3000
   ·have hr:=Lib.hid (Zt6 h1 h2 (by rw[hm];exact h3))
    have HL:=Lib.hid (show(Zbj (Zab d) (Zab s)).length=m by rw[Zep,Zac,Zac];exact hm)
    have HM:=Lib.hid hm
    have h3':¬(3000:Int)<(m:Int):=by omega
    have h0:¬(m:Int)<0:=by omega
    clear hm
    go_enter Tryz.func38,Tryz.ntmps38
    go_wp2_with fail
    refine(Za2 _ _).mono ?_;rintro e w' ⟨rfl,rfl⟩
    rw[h1]
    go_wp2_with fail
    refine(Zat _ _).mono ?_;rintro e w' ⟨rfl,rfl⟩
    rw[h2]
    clear h1 h2
    have b0:IntKind.i64.wrap ((d.size:Int)*(s.size:Int))=(m:Int):=by rw[hmI];exact IntWalk.i64_in _ (by omega)
    go_wp2_with (at_make;refine Zf1 w rfl _ _ rfl .i64 .i64 m rfl rfl (by omega) ?_;intro w1 hown hb)
    have hF:=Fill.start (L:=Zbj (Zab d) (Zab s)) hown HL.out (by simp)
    clear hown hmI b0
    go_loopw [32] (fun i wr=>∃k:Nat,k≤m∧i= .int .i64 k∧Fill wr w.heap.size w.heap.size m (Zbj (Zab d) (Zab s)) (List.replicate m 0) k∧Below w.heap.size w wr) (fun i _=>m-(intOf i).toNat)
    case atStart=>exact⟨0,Nat.zero_le _,rfl,hF,hb⟩
    case round=>
     clear hF hb
     obtain⟨k,hk,rfl,hF,hb⟩:=hrel
     obtain⟨wo,hwo⟩:∃wo:World,wo=wr:=⟨_,rfl⟩
     subst hwo
     by_cases hlt:k<m
     ·obtain⟨r,hr1⟩:∃r,r=k%s.size:=⟨_,rfl⟩
      obtain⟨q,hq1⟩:∃q,q=k/s.size:=⟨_,rfl⟩
      have hrs:r<s.size:=by rw[hr1];exact Nat.mod_lt _ (by omega)
      have hqs:q<d.size:=by rw[hq1];exact Nat.div_lt_of_lt_mul (by rw[Nat.mul_comm,HM.out];exact hlt)
      have a1:(k:Int).tmod (s.size:Int)=(r:Int):=by rw[hr1];rfl
      have a2:(k:Int)%(s.size:Int)=(r:Int):=by rw[hr1];rfl
      have a3:(k:Int).tdiv (s.size:Int)=(q:Int):=by rw[hq1];rfl
      have a4:(k:Int)/(s.size:Int)=(q:Int):=by rw[hq1];rfl
      have HV:=Lib.hid (show(Zbj (Zab d) (Zab s)).getD k 0=Zbk (d[q].toNat:Int)*Zbk (s[r].toNat:Int)by
       rw[Zr6 _ _ (by rw[Zac,Zac,HM.out];exact hlt),Zac,←hr1,←hq1,Zkj hqs,Zkj hrs])
      have hcc:=Zwy (d[q].toNat:Int) (s[r].toNat:Int)
      have b1:IntKind.i64.wrap (Zbk (d[q].toNat:Int)*Zbk (s[r].toNat:Int))=Zbk (d[q].toNat:Int)*Zbk (s[r].toNat:Int):=IntWalk.i64_in _ (by omega)
      have b5:IntKind.i64.wrap (q:Int)=(q:Int):=IntWalk.i64_in _ (by omega)
      have hc:=hF.cell hlt
      have hf:=hF.free k
      have hst:=hF.step hlt (y:=Zbk (d[q].toNat:Int)*Zbk (s[r].toNat:Int)) HV.out
      have hb2:=hF.below hb (.int .i64 (Zbk (d[q].toNat:Int)*Zbk (s[r].toNat:Int)))
      have hR0:¬(s.size:Int)=0:=by omega
      have hR00:¬s.size=0:=by omega
      have hqI:(q:Int)<(d.size:Int):=by omega
      have hrI:(r:Int)<(s.size:Int):=by omega
      clear hr1 hq1 hF hb hcc
      go_wp2_with fail
      go_region_with (first|(go_at_call 106;refine(Z41 _ _).mono ?_;rintro e w' ⟨rfl,rfl⟩))
      all_goals
       clear a1 a2 a3 a4 b1 b5
       go_wp2_with fail
       go_roundw
       case rel=>exact⟨k+1,by omega,by go_num,hst,hb2.drew⟩
       case measure=>simp[intOf];omega
     ·obtain rfl:k=m:=by omega
      have ho:=hF.done (Nat.le_refl _)
      go_wp2_with fail
      go_ret2
      exact Zc0 ho (by rw[HL.out];omega) (by rw[hr.out];rfl) (by rw[hr.out];rfl) hb
   ·have hr:=Lib.hid (Zahe (d:=d) (s:=s) (by rw[hm];exact h3))
    have h3':(3000:Int)<(m:Int):=by omega
    clear hm h3
    go_enter Tryz.func38,Tryz.ntmps38
    go_wp2_with fail
    refine(Za2 _ _).mono ?_;rintro e w' ⟨rfl,rfl⟩
    rw[h1]
    go_wp2_with fail
    refine(Zat _ _).mono ?_;rintro e w' ⟨rfl,rfl⟩
    rw[h2]
    clear h1 h2
    have b0:IntKind.i64.wrap ((d.size:Int)*(s.size:Int))=(m:Int):=by rw[hmI];exact IntWalk.i64_in _ (by omega)
    clear hmI
    go_wp2_with fail
    go_ret2
    exact Zbd hr.out (Below.refl _ _)
  ·have h2':seqB s=false:=by simpa using h2
   have hr:=Lib.hid (Zag6 (d:=d) h2')
   go_enter Tryz.func38,Tryz.ntmps38
   go_wp2_with fail
   refine(Za2 _ _).mono ?_;rintro e w' ⟨rfl,rfl⟩
   rw[h1]
   go_wp2_with fail
   refine(Zat _ _).mono ?_;rintro e w' ⟨rfl,rfl⟩
   rw[h2']
   clear h1 h2 h2'
   go_wp2_with fail
   go_ret2
   exact Zbd hr.out (Below.refl _ _)
 ·have h1':Zan d=false:=by simpa using h1
  have hr:=Lib.hid (Zahm (s:=s) h1')
  go_enter Tryz.func38,Tryz.ntmps38
  go_wp2_with fail
  refine(Za2 _ _).mono ?_;rintro e w' ⟨rfl,rfl⟩
  rw[h1']
  clear h1 h1'
  go_wp2_with fail
  go_ret2
  exact Zbd hr.out (Below.refl _ _)
theorem Z78 {x:Int} (h:Za7 x):1-2*(x-48)=Zbk x:=by
 rcases h with rfl|rfl<;>rfl
theorem Zx5 (s:ByteArray) (w:World) (hs:s.size≤1000) (hb:∀x∈Zab s,Za7 x):Calls Tryz.prog 178 #[.string s] w (Zdw w ((Zab s).map Zbk)):=by
 have HB:=Lib.hid hb;clear hb
 have HL:=Lib.hid (show((Zab s).map Zbk).length=s.size by rw[List.length_map,Zac])
 go_enter Tryz.func178,Tryz.ntmps178
 go_wp2_with (at_make;refine Zf1 w rfl _ _ rfl .i64 .i64 s.size rfl rfl (by omega) ?_;intro w1 hown hb)
 have hF:=Fill.start (L:=(Zab s).map Zbk) hown HL.out (by simp)
 clear hown
 go_loopw [4] (fun i wr=>∃k:Nat,k≤s.size∧i= .int .i64 k∧Fill wr w.heap.size w.heap.size s.size ((Zab s).map Zbk) (List.replicate s.size 0) k∧Below w.heap.size w wr) (fun i _=>s.size-(intOf i).toNat)
 case atStart=>exact⟨0,Nat.zero_le _,rfl,hF,hb⟩
 case round=>
  clear hF hb
  obtain⟨k,hk,rfl,hF,hb⟩:=hrel
  by_cases hlt:k<s.size
  ·have hkc:k<(Zab s).length:=by rw[Zac];exact hlt
   have hbit:Za7 (s[k].toNat:Int):=by rw[←Zcj s hlt];exact HB.out _ (List.getElem_mem hkc)
   have hx:(s[k].toNat:Int)=48∨(s[k].toNat:Int)=49:=hbit
   have HV:=Lib.hid (show((Zab s).map Zbk).getD k 0=1-2*((s[k].toNat:Int)-48)by
    rw[Z78 hbit,←Zcj s hlt];simp[List.getD,hkc])
   have hc:=hF.cell hlt
   have hf:=hF.free k
   have hst:=hF.step hlt (y:=1-2*((s[k].toNat:Int)-48)) HV.out
   have hb2:=hF.below hb (.int .i64 (1-2*((s[k].toNat:Int)-48)))
   clear hF hb hbit
   go_wp2_with fail
   go_roundw
   case rel=>exact⟨k+1,by omega,by go_num,hst,hb2⟩
   case measure=>simp[intOf];omega
  ·obtain rfl:k=s.size:=by omega
   obtain⟨a1,n1,c1,e1,ho⟩:=(hF.done (Nat.le_refl _)).own (by rw[HL.out];omega)
   cases e1
   go_wp2_with fail
   go_ret
   exact⟨_,_,_,rfl,ho,hb⟩
theorem Z7u {s:ByteArray} (hb:∀x∈Zab s,Za7 x):(Zab (invT s)).map Zbk=(Zab s).map fun c=> -1*Zbk c:=by
 have e:Zab (invT s)=invL (Zab s):=Zcf (by
  intro x hx
  unfold invL at hx
  obtain⟨y,hy,rfl⟩:=List.mem_map.1 hx
  rcases hb y hy with h|h
  ·right;omega
  ·left;omega)
 rw[e]
 unfold invL
 rw[List.map_map]
 apply List.map_congr_left
 intro x hx
 rcases hb x hx with rfl|rfl<;>rfl
theorem Zajp {s:ByteArray} (hb:∀x∈Zab s,Za7 x):∀x∈Zab (invT s),Za7 x:=by
 have e:Zab (invT s)=invL (Zab s):=Zcf (by
  intro x hx
  unfold invL at hx
  obtain⟨y,hy,rfl⟩:=List.mem_map.1 hx
  rcases hb y hy with h|h
  ·right;omega
  ·left;omega)
 rw[e]
 intro x hx
 unfold invL at hx
 obtain⟨y,hy,rfl⟩:=List.mem_map.1 hx
 rcases hb y hy with h|h
 ·right;omega
 ·left;omega
theorem Own.zeroI {w:World} {lo:Nat} {ao:Option Addr} {n c:Nat} {l:List Int} (h:Own w lo ao n c l) (h0:ao=none):c=0:=by
 rcases h.2.2.2 with ⟨h1,h2⟩|⟨g,cap,cur,hv,_⟩
 ·cases h1;rfl
 ·cases hv;cases h0
theorem Zp7 {d s:ByteArray} {k:Nat} (hk:k<d.size):Zbj ((Zab d).take (k+1)) (Zab s)=Zbj ((Zab d).take k) (Zab s)++(Zab s).map fun c=>Zbk (d[k].toNat:Int)*Zbk c:=by
 have hkc:k<(Zab d).length:=by rw[Zac];exact hk
 rw[List.take_succ_eq_append_getElem hkc,Zyd,Zcj d hk]
theorem Ztl (d s:ByteArray) (w:World) (hd:d.size≤600) (hs:s.size≤255) (hb:∀x∈Zab s,Za7 x):Calls Tryz.prog 109 #[.string d,.string s] w (Zdw w (Zbj (Zab d) (Zab s))):=by
 have HB:=Lib.hid hb;clear hb
 have HI:=Lib.hid (Zajp HB.out)
 have HC:=Lib.hid (Z7u HB.out)
 have HZ:=Lib.hid (show(invT s).size=s.size by unfold invT;rw[Zaq,Ziq,Zac])
 have ho0:OwnV (w.alloc (.cells #[] 3)) w.heap.size (.slice (some ⟨w.heap.size,0,none⟩) 0 0) []:=OwnV.made0 w (Nat.le_refl _)
 have hb0:Below w.heap.size w (w.alloc (.cells #[] 3)):=(Below.refl _ _).alloc (Nat.le_refl _) _
 go_enter Tryz.func109,Tryz.ntmps109
 go_wp2
 go_loopw [5,6] (fun v i wr=>∃k:Nat,k≤d.size∧i= .int .i64 k∧OwnV wr w.heap.size v (Zbj ((Zab d).take k) (Zab s))∧Below w.heap.size w wr) (fun _ i _=>d.size-(intOf i).toNat)
 case atStart=>exact⟨0,Nat.zero_le _,rfl,ho0,hb0⟩
 case round=>
  clear ho0 hb0
  obtain⟨k,hk,rfl,ho,hb⟩:=hrel
  by_cases hlt:k<d.size
  ·have HLN:=Lib.hid (show(Zbj ((Zab d).take k) (Zab s)).length≤200000 by
    rw[Zep,Zac,List.length_take,Zac,Nat.min_eq_left (by omega)]
    exact Nat.le_trans (Nat.mul_le_mul (show k≤600 by omega) hs) (by omega))
   by_cases h4:(d[k].toNat:Int)=48
   ·have HS:=Lib.hid (show Zbj ((Zab d).take (k+1)) (Zab s)=Zbj ((Zab d).take k) (Zab s)++(Zab s).map Zbk by
     rw[Zp7 hlt,h4];congr 1;apply List.map_congr_left;intro x _;show Zbk 48*Zbk x=Zbk x;rw[show Zbk 48=1 from rfl,Int.one_mul])
    have h4':((d[k].toNat:Int)==48)=true:=by simp[h4]
    clear h4
    generalize Zbj ((Zab d).take k) (Zab s)=D at*
    go_wp2_with fail
    refine(Zx5 s _ (by omega) HB.out).mono ?_;rintro e w2 ⟨a2,n2,c2,rfl,hO2,hb2⟩
    have ho2:OwnV w2 w.heap.size _ _:=Zam ho hb2 fun j hj=>(ho.lt j hj).2
    have hbn:=hb.trans (hb2.mono hb.size)
    have hzn:=hbn.size
    have hn2:n2=s.size:=by rw[hO2.1,List.length_map,Zac]
    have HN2:=Lib.hid hn2
    have hn3:n2≤255:=by omega
    have HCZ:=Lib.hid (fun h0=>hO2.zeroI h0)
    have hrd:=hO2.rd
    clear ho hb hb2 hO2 hn2
    go_wp2_with (at_builtin;refine Z01 w2 rfl (.tmp 18) (.tmp 20) rfl w.heap.size _ D _ _ n2 c2 rfl ho2 rfl hrd HCZ.out (by have:=HLN.out;omega) hzn ?_;intro v' w3 ho3 _ hb3)
    have hb4:=hbn.trans hb3
    rw[←HS.out]at ho3
    clear ho2 hbn hb3
    go_roundw
    case rel=>exact⟨k+1,by omega,by go_num,ho3,hb4⟩
    case measure=>simp[intOf];omega
   ·have HS:=Lib.hid (show Zbj ((Zab d).take (k+1)) (Zab s)=Zbj ((Zab d).take k) (Zab s)++(Zab (invT s)).map Zbk by
     rw[Zp7 hlt,HC.out];congr 1;apply List.map_congr_left;intro x _;rw[show Zbk (d[k].toNat:Int)= -1 by unfold Zbk;rw[if_neg h4]])
    have h4':((d[k].toNat:Int)==48)=false:=by simp[h4]
    clear h4
    generalize Zbj ((Zab d).take k) (Zab s)=D at*
    go_wp2_with fail
    refine(Zn9 s _ (by omega) HB.out).mono ?_;rintro e w1 ⟨rfl,hb1⟩
    have ho1:OwnV w1 w.heap.size _ _:=Zam ho hb1 fun j hj=>(ho.lt j hj).2
    have hbm:=hb.trans (hb1.mono hb.size)
    clear ho hb hb1
    go_wp2_with fail
    refine(Zx5 (invT s) _ (by rw[HZ.out];omega) HI.out).mono ?_;rintro e w2 ⟨a2,n2,c2,rfl,hO2,hb2⟩
    have ho2:OwnV w2 w.heap.size _ _:=Zam ho1 hb2 fun j hj=>(ho1.lt j hj).2
    have hbn:=hbm.trans (hb2.mono hbm.size)
    have hzn:=hbn.size
    have hn2:n2=s.size:=by rw[hO2.1,List.length_map,Zac,HZ.out]
    have HN2:=Lib.hid hn2
    have hn3:n2≤255:=by omega
    have HCZ:=Lib.hid (fun h0=>hO2.zeroI h0)
    have hrd:=hO2.rd
    clear ho1 hbm hb2 hO2 hn2
    go_wp2_with (at_builtin;refine Z01 w2 rfl (.tmp 22) (.tmp 25) rfl w.heap.size _ D _ _ n2 c2 rfl ho2 rfl hrd HCZ.out (by have:=HLN.out;omega) hzn ?_;intro v' w3 ho3 _ hb3)
    have hb4:=hbn.trans hb3
    rw[←HS.out]at ho3
    clear ho2 hbn hb3
    go_roundw
    case rel=>exact⟨k+1,by omega,by go_num,ho3,hb4⟩
    case measure=>simp[intOf];omega
  ·obtain rfl:k=d.size:=by omega
   have e9:(Zab d).take d.size=Zab d:=List.take_of_length_le (by rw[Zac];exact Nat.le_refl _)
   rw[e9]at ho
   obtain⟨a1,n1,c1,hv,ho1⟩:=ho.own (by rw[Zep,Zac,Zac];exact Nat.le_trans (Nat.mul_le_mul hd hs) (by omega))
   subst hv
   go_wp2_with fail
   go_ret
   exact⟨_,_,_,rfl,ho1,hb⟩
theorem Zfw {ao:Option Addr} {n c:Nat} {l:List Int} {w:World} (h:Rd w ao n l) (hs:sigB l=true):
 Calls Tryz.prog 112 #[.slice ao n c] w fun e w'=>e= .returned (.tuple #[.slice ao n c,.bool true])∧w=w':=by
 go_enter Tryz.func112,Tryz.ntmps112
 go_wp2_with fail
 refine(Za3 h).mono ?_;rintro e w' ⟨rfl,rfl⟩
 rw[hs]
 clear hs
 go_wp2_with fail
 go_ret2
 exact⟨rfl,rfl⟩
theorem Zr4 {ao:Option Addr} {n c:Nat} {l:List Int} {w:World} (h:Rd w ao n l) (hs:sigB l=false):
 Calls Tryz.prog 112 #[.slice ao n c] w fun e w'=>e= .returned (.tuple #[.slice none 0 0,.bool false])∧w=w':=by
 go_enter Tryz.func112,Tryz.ntmps112
 go_wp2_with fail
 refine(Za3 h).mono ?_;rintro e w' ⟨rfl,rfl⟩
 rw[hs]
 clear hs
 go_wp2_with fail
 go_ret2
 exact⟨rfl,rfl⟩
def Z0a (l:List Int) (g:Int):Bool:=sigB l&&inB g (-1000000) 1000000&&sigB (Zb9 g l)
def sclR (l:List Int) (g:Int):Option (List Int):=if Z0a l g=true then some (Zb9 g l)else none
theorem Zah0 {l:List Int} {g:Int} (h:sigB l=false):sclR l g=none:=by simp[sclR,Z0a,h]
theorem Z8y {l:List Int} {g:Int} (h:inB g (-1000000) 1000000=false):sclR l g=none:=by simp[sclR,Z0a,h]
theorem Zahz {l:List Int} {g:Int} (h:sigB (Zb9 g l)=false):sclR l g=none:=by simp[sclR,Z0a,h]
theorem Zpr {l:List Int} {g:Int} (h1:sigB l=true) (h2:inB g (-1000000) 1000000=true) (h3:sigB (Zb9 g l)=true):sclR l g=some (Zb9 g l):=by simp[sclR,Z0a,h1,h2,h3]
theorem Zahs {g x:Int} (hg: -1000000≤g∧g≤1000000) (hx: -1000000≤x∧x≤1000000): -1000000000000≤g*x∧g*x≤1000000000000:=by
 have h1:=Int.natAbs_mul g x
 have h2:g.natAbs*x.natAbs≤1000000*1000000:=Nat.mul_le_mul (by omega) (by omega)
 omega
theorem Zabv {g x:Int} (h: -1000000000000≤g*x∧g*x≤1000000000000):IntKind.i64.wrap (g*x)=g*x:=IntWalk.i64_in _ (by omega)
theorem Ziw {ao:Option Addr} {n c:Nat} {l:List Int} {w:World} (g:Int) (h:Rd w ao n l):Calls Tryz.prog 41 #[.slice ao n c,.int .i64 g] w (RetIntsB w (sclR l g)):=by
 have hs:=h.2.1
 by_cases h1:sigB l=true
 ·by_cases h2: -1000000≤g
  ·by_cases h3:g≤1000000
   ·have HIN:=Lib.hid (Zax h2 h3)
    have HN:=Lib.hid h.1
    have HL:=Lib.hid (show(Zb9 g l).length=n by rw[Zh5];exact h.1.symm)
    have HG:=Lib.hid (fun i=>Zip h1 i)
    have HB:=Lib.hid h1
    go_enter Tryz.func41,Tryz.ntmps41
    go_wp2_with fail
    refine(Za3 h).mono ?_;rintro e w' ⟨rfl,rfl⟩
    rw[h1]
    clear h1
    go_wp2_with (at_make;refine Zf1 w rfl _ _ rfl .i64 .i64 n rfl rfl (by omega) ?_;intro w1 hown hb)
    have hF:=Fill.start (L:=Zb9 g l) hown HL.out (by simp)
    clear hown
    go_loopw [25] (fun i wr=>∃k:Nat,k≤n∧i= .int .i64 k∧Fill wr w.heap.size w.heap.size n (Zb9 g l) (List.replicate n 0) k∧Below w.heap.size w wr) (fun i _=>n-(intOf i).toNat)
    case atStart=>exact⟨0,Nat.zero_le _,rfl,hF,hb⟩
    case round=>
     clear hF hb
     obtain⟨k,hk,rfl,hF,hb⟩:=hrel
     by_cases hlt:k<n
     ·obtain⟨bk,off,rfl,hl,hc0⟩:=(h.below hb).at hlt
      have hx:=HG.out k
      rw[Zc9 hl]at hx
      have hm:=Zahs ⟨h2,h3⟩ hx
      have b1:=Zabv hm
      have HV:=Lib.hid (Ztc g hl)
      have hc:=hF.cell hlt
      have hf:=hF.free k
      have hst:=hF.step hlt (y:=g*l[k]) HV.out
      have hb2:=hF.below hb (.int .i64 (g*l[k]))
      clear hF hb h
      go_wp2_with fail
      clear b1
      go_roundw
      case rel=>exact⟨k+1,by omega,by go_num,hst,hb2⟩
      case measure=>simp[intOf];omega
     ·obtain rfl:k=n:=by omega
      obtain⟨a1,n1,c1,e1,ho⟩:=(hF.done (Nat.le_refl _)).own (by rw[HL.out];omega)
      cases e1
      by_cases h4:sigB (Zb9 g l)=true
      ·have hr:=Lib.hid (Zpr HB.out HIN.out h4)
       go_wp2_with fail
       refine(Zfw ho.rd h4).mono ?_;rintro e w' ⟨rfl,rfl⟩
       clear h4
       go_wp2_with fail
       go_ret2
       exact⟨_,_,_,by rw[hr.out];rfl,by rw[hr.out];exact ho,hb⟩
      ·have h4':sigB (Zb9 g l)=false:=by simpa using h4
       have hr:=Lib.hid (Zahz h4')
       go_wp2_with fail
       refine(Zr4 ho.rd h4').mono ?_;rintro e w' ⟨rfl,rfl⟩
       clear h4 h4'
       go_wp2_with fail
       go_ret2
       exact Zbd hr.out hb
   ·have hr:=Lib.hid (Z8y (l:=l) (Zma (a:= -1000000) (b:=1000000) (by omega:(1000000:Int)<g)))
    have h3':(1000000:Int)<g:=by omega
    clear h3
    go_enter Tryz.func41,Tryz.ntmps41
    go_wp2_with fail
    refine(Za3 h).mono ?_;rintro e w' ⟨rfl,rfl⟩
    rw[h1]
    clear h1
    go_wp2_with fail
    go_ret2
    exact Zbd hr.out (Below.refl _ _)
  ·have hr:=Lib.hid (Z8y (l:=l) (Zmo (a:= -1000000) (b:=1000000) (by omega:g<(-1000000:Int))))
   have h2':g<(-1000000:Int):=by omega
   clear h2
   go_enter Tryz.func41,Tryz.ntmps41
   go_wp2_with fail
   refine(Za3 h).mono ?_;rintro e w' ⟨rfl,rfl⟩
   rw[h1]
   clear h1
   go_wp2_with fail
   go_ret2
   exact Zbd hr.out (Below.refl _ _)
 ·have h1':sigB l=false:=by simpa using h1
  have hr:=Lib.hid (Zah0 (g:=g) h1')
  go_enter Tryz.func41,Tryz.ntmps41
  go_wp2_with fail
  refine(Za3 h).mono ?_;rintro e w' ⟨rfl,rfl⟩
  rw[h1']
  clear h1 h1'
  go_wp2_with fail
  go_ret2
  exact Zbd hr.out (Below.refl _ _)
theorem Zx7 {ao:Option Addr} {n c:Nat} {l:List Int} {w:World} (g:Int) (h:Rd w ao n l) (h1:sigB l=true) (h2: -1000000≤g∧g≤1000000):Calls Tryz.prog 190 #[.slice ao n c,.int .i64 g] w (Zdw w (Zb9 g l)):=by
 have hs:=h.2.1
 have HL:=Lib.hid (show(Zb9 g l).length=n by rw[Zh5];exact h.1.symm)
 have HG:=Lib.hid (fun i=>Zip h1 i)
 clear h1
 go_enter Tryz.func190,Tryz.ntmps190
 go_wp2_with (at_make;refine Zf1 w rfl _ _ rfl .i64 .i64 n rfl rfl (by omega) ?_;intro w1 hown hb)
 have hF:=Fill.start (L:=Zb9 g l) hown HL.out (by simp)
 clear hown
 go_loopw [6] (fun i wr=>∃k:Nat,k≤n∧i= .int .i64 k∧Fill wr w.heap.size w.heap.size n (Zb9 g l) (List.replicate n 0) k∧Below w.heap.size w wr) (fun i _=>n-(intOf i).toNat)
 case atStart=>exact⟨0,Nat.zero_le _,rfl,hF,hb⟩
 case round=>
  clear hF hb
  obtain⟨k,hk,rfl,hF,hb⟩:=hrel
  by_cases hlt:k<n
  ·obtain⟨bk,off,rfl,hl,hc0⟩:=(h.below hb).at hlt
   have hx:=HG.out k
   rw[Zc9 hl]at hx
   have hm:=Zahs h2 hx
   have b1:IntKind.i64.wrap (l[k]*g)=l[k]*g:=by rw[Int.mul_comm];exact Zabv hm
   have HV:=Lib.hid (show(Zb9 g l).getD k 0=l[k]*g by rw[Ztc g hl,Int.mul_comm])
   have hc:=hF.cell hlt
   have hf:=hF.free k
   have hst:=hF.step hlt (y:=l[k]*g) HV.out
   have hb2:=hF.below hb (.int .i64 (l[k]*g))
   clear hF hb h
   go_wp2_with fail
   clear b1
   go_roundw
   case rel=>exact⟨k+1,by omega,by go_num,hst,hb2⟩
   case measure=>simp[intOf];omega
  ·obtain rfl:k=n:=by omega
   obtain⟨a1,n1,c1,e1,ho⟩:=(hF.done (Nat.le_refl _)).own (by rw[HL.out];omega)
   cases e1
   go_wp2_with fail
   go_ret
   exact⟨_,_,_,rfl,ho,hb⟩
theorem Zub {ops:Array Oper} {rest:List Oper} {o:Oper} {a:Act} {Q:Exit→Act→World→Prop} {w0:World} (w:World) (hgd:o.guard=none) (d s:Operand)
 (ho:o.op= .call {callee:=.builtin .copy,args:= #[d,s],argTypes:= #[27,27]}) (lo g n m c2:Nat) (L l:List Int) (ao:Option Addr)
 (hd:a.eval d= .slice (some ⟨g,0,none⟩) n n) (hs:a.eval s= .slice ao m c2) (hown:w.ownsRow lo 3 1 (.slice (some ⟨g,0,none⟩) n n) n (L.map (Value.int .i64))) (hL:L.length=n) (hr:Rd w ao m l) (hm:m≤n) (hb:Below lo w0 w)
 (h:∀w',w'.ownsRow lo 3 1 (.slice (some ⟨g,0,none⟩) n n) n ((l++L.drop m).map (Value.int .i64))→Below lo w0 w'→wpList Tryz.prog ops Q rest (a.put o.dst (goInt m)) w'):
 wpList Tryz.prog ops Q (o::rest) a w:=by
 rcases hown.2 with ⟨h1,_⟩|⟨g',cap,cur,hv,hgl,hh,hnc,hcm,hsz,htk⟩
 ·cases h1
 ·cases hv
  have hml:=hr.1
  have hcl:cur.toList=L.map (Value.int .i64):=by
   rw[←htk];exact(List.take_of_length_le (by rw[Array.length_toList,hsz];exact Nat.le_refl _)).symm
  have hlm:(l.map (Value.int .i64)).length=m:=by rw[List.length_map,hml]
  refine wpList_copy_splice hgd d s _ _ ho 3 (Tryz.underlying27) (by kernel_rfl) _ ao n n m c2 hd hs g 0 cur.toList 3 (by simpa using hh) (l.map (Value.int .i64)) (by rw[hlm];exact(Nat.min_eq_left hm).symm) ?_ ?_ (ints_oneCell .i64 l) lo w0 hb hgl ?_
  ·intro hp
   rw[hlm]at hp
   obtain⟨b,off,e,_⟩:=hr.2.2 0 hp
   subst e
   exact⟨rfl,_,rfl,hr.news⟩
  ·rw[hlm,hcl,List.length_map,hL];omega
  ·intro w' hh' hb'
   rw[hlm]
   refine h w' ⟨by rw[List.length_map,List.length_append,List.length_drop];omega,.inr ⟨g,n,_,rfl,hgl,hh'.out,Nat.le_refl _,hcm,?_,?_⟩⟩ hb'
   ·rw[List.size_toArray,length_splice _ _ _ (by rw[hlm,hcl,List.length_map,hL];omega),hcl,List.length_map,hL,Nat.mul_one]
   ·rw[List.take_of_length_le (by simp[splice,hcl,hL];omega)]
    simp[splice,hcl,hlm,hml]
theorem Zsh {ao:Option Addr} {n c:Nat} {l:List Int} {w:World} (h:Rd w ao n l) (h1:sigB l=true):Calls Tryz.prog 120 #[.slice ao n c,.int .i64 0] w (RetIntsB w (some l)):=by
 have hs:=h.2.1
 have HN:=Lib.hid h.1
 have HS:=Lib.hid h1
 have b1:IntKind.i64.wrap ((0:Int)+(n:Int))=(n:Int):=by rw[Int.zero_add];exact IntWalk.i64_in _ (by omega)
 go_enter Tryz.func120,Tryz.ntmps120
 go_wp2_with fail
 refine(Za3 h).mono ?_;rintro e w' ⟨rfl,rfl⟩
 rw[h1]
 clear h1
 go_wp2_with (first|(at_make;refine Zf1 w rfl _ _ rfl .i64 .i64 n rfl rfl (by omega) ?_;intro w1 hown hb)|(with_reducible refine Zub (w0:=w) _ rfl (.tmp 25) (.tmp 26) rfl w.heap.size w.heap.size n n c (List.replicate n 0) l ao rfl rfl (by exact hown) (by simp) (by exact h.below hb) (Nat.le_refl _) (by exact hb) ?_;intro w2 hown2 hb2))
 rw[show l++(List.replicate n (0:Int)).drop n=l by simp]at hown2
 have hO:OwnV w2 w.heap.size (.slice (some ⟨w.heap.size,0,none⟩) n n) l:=by unfold OwnV;rw[←HN.out];exact hown2
 obtain⟨a1,n1,c1,e1,ho⟩:=hO.own (by rw[←HN.out];exact hs)
 cases e1
 refine(Zfw ho.rd HS.out).mono ?_;rintro e w' ⟨rfl,rfl⟩
 clear b1
 go_wp2_with fail
 go_ret2
 exact⟨_,_,_,rfl,ho,hb2⟩
theorem Z59 {ao:Option Addr} {n c:Nat} {l:List Int} {w:World} (h:Rd w ao n l) (hcz:ao=none→c=0) (hn:n≤100000):Calls Tryz.prog 189 #[.slice ao n c,.int .i64 0] w (Zdw w l):=by
 have hs:=h.2.1
 have HN:=Lib.hid h.1
 have HC:=Lib.hid hcz
 clear hcz
 go_enter Tryz.func189,Tryz.ntmps189
 go_wp2_with (first|(at_make;refine Zf1 w rfl _ _ rfl .i64 .i64 0 rfl rfl (by omega) ?_;intro w1 hown hb)|(at_builtin;refine Z01 _ rfl (.tmp 6) (.tmp 7) rfl w.heap.size _ [] l ao n c rfl (by exact hown) rfl (by exact h.below hb) HC.out (by simp;omega) (by exact hb.size) ?_;intro v' w3 ho3 _ hb3))
 rw[List.nil_append]at ho3
 obtain⟨a1,n1,c1,hv,ho1⟩:=ho3.own (by have:=HN.out;omega)
 subst hv
 have hb4:=hb.trans hb3
 go_wp2_with fail
 go_ret
 exact⟨_,_,_,rfl,ho1,hb4⟩
theorem Zag3 {a b:List Int} (ha:sigB a=true) (hb:sigB b=true) (i:Nat): -1000000≤a.getD i 0∧a.getD i 0≤1000000∧ -1000000≤b.getD i 0∧b.getD i 0≤1000000:=by
 have:=Zip ha i
 have:=Zip hb i
 omega
theorem Zw4 {ao bo:Option Addr} {n c nb cb:Nat} {a b:List Int} {w:World} (h:Rd w ao n a) (h':Rd w bo nb b) (h1:sigB a=true) (h2:sigB b=true) (h3:sigB (addL a b)=true):
 Calls Tryz.prog 121 #[.slice ao n c,.slice bo nb cb] w (RetIntsB w (some (addL a b))):=by
 have hs:=h.2.1
 have hs':=h'.2.1
 have HN:=Lib.hid h.1
 have HN':=Lib.hid h'.1
 have HS:=Lib.hid h3
 have HB:=Lib.hid (fun i=>Zag3 h1 h2 i)
 obtain⟨m,hm⟩:∃m,m=max n nb:=⟨_,rfl⟩
 have hnm:n≤m:=by omega
 have hbm:nb≤m:=by omega
 have hm2:m≤1099511627776:=by omega
 have hmI:(if n<nb then(nb:Int)else(n:Int))=(m:Int):=by split<;>omega
 have hml:m=max a.length b.length:=by rw[←HN.out,←HN'.out];exact hm
 have HL:=Lib.hid (show(addL a b).length=m by rw[Zhd];exact hml.symm)
 have HZ:=Lib.hid (show a++(List.replicate m 0).drop n=padL a m by unfold padL;rw[List.drop_replicate,HN.out])
 have HPL:=Lib.hid (show(padL a m).length=m from Zus (by rw[←HN.out];exact hnm))
 have HE:=Lib.hid (show(addL a b).take nb++(padL a m).drop nb=addL a b by rw[hml];exact Zacg (Nat.le_of_eq HN'.out.symm))
 clear h3 hm hml
 go_enter Tryz.func121,Tryz.ntmps121
 go_wp2_with fail
 refine(Za3 h).mono ?_;rintro e w' ⟨rfl,rfl⟩
 rw[h1]
 go_wp2_with fail
 refine(Za3 h').mono ?_;rintro e w' ⟨rfl,rfl⟩
 rw[h2]
 clear h1 h2
 go_wp2_with (first|(at_make;refine Zf1 w rfl _ _ rfl .i64 .i64 m (by first|rfl|exact congrArg (Value.int .i64) hmI) (by first|rfl|exact congrArg (Value.int .i64) hmI) (by omega) ?_;intro w1 hown hb)|(with_reducible refine Zub (w0:=w) _ rfl (.tmp 23) (.tmp 24) rfl w.heap.size w.heap.size m n c (List.replicate m 0) a ao rfl rfl (by exact hown) (by simp) (by exact h.below hb) hnm (by exact hb) ?_;intro w2 hown2 hb2))
 rw[HZ.out]at hown2
 have hF:=Fill.start (L:=addL a b) hown2 HL.out HPL.out
 clear hown hown2 hb
 go_loopw [28] (fun i wr=>∃k:Nat,k≤nb∧i= .int .i64 k∧Fill wr w.heap.size w.heap.size m (addL a b) (padL a m) k∧Below w.heap.size w wr) (fun i _=>nb-(intOf i).toNat)
 case atStart=>exact⟨0,Nat.zero_le _,rfl,hF,hb2⟩
 case round=>
  clear hF hb2
  obtain⟨k,hk,rfl,hF,hb⟩:=hrel
  by_cases hlt:k<nb
  ·obtain⟨bk,off,rfl,hl,hc0⟩:=(h'.below hb).at hlt
   have hkm:k<m:=by omega
   have hc:=hF.cell hkm
   rw[Zuz]at hc
   have hx:=HB.out k
   have HV:=Lib.hid (show(addL a b).getD k 0=a.getD k 0+b[k]by rw[Zur,Zc9 hl])
   rw[Zc9 hl]at hx
   have hf:=hF.free k
   have hst:=hF.step hkm (y:=a.getD k 0+b[k]) HV.out
   have hb2:=hF.below hb (.int .i64 (a.getD k 0+b[k]))
   generalize a.getD k 0=A at*
   clear hF hb h'
   go_wp2_with fail
   go_roundw
   case rel=>exact⟨k+1,by omega,by go_num,hst,hb2⟩
   case measure=>simp[intOf];omega
  ·obtain rfl:k=nb:=by omega
   obtain⟨hF1,hF2,hF3⟩:=hF
   rw[HE.out]at hF1
   have hO:OwnV wr w.heap.size (.slice (some ⟨w.heap.size,0,none⟩) m m) (addL a b):=by unfold OwnV;rw[HL.out];exact hF1
   obtain⟨a1,n1,c1,e1,ho⟩:=hO.own (by rw[HL.out];omega)
   cases e1
   go_wp2_with fail
   refine(Zfw ho.rd HS.out).mono ?_;rintro e w' ⟨rfl,rfl⟩
   go_wp2_with fail
   go_ret2
   exact⟨_,_,_,rfl,ho,hb⟩
theorem Zaiy {ao bo:Option Addr} {n c nb cb:Nat} {a b:List Int} {w:World} (h:Rd w ao n a) (h':Rd w bo nb b) (h1:sigB a=true) (h2:sigB b=true):
 Calls Tryz.prog 188 #[.slice ao n c,.slice bo nb cb] w (Zdw w (addL a b)):=by
 have hs:=h.2.1
 have hs':=h'.2.1
 have HN:=Lib.hid h.1
 have HN':=Lib.hid h'.1
 have HB:=Lib.hid (fun i=>Zag3 h1 h2 i)
 obtain⟨m,hm⟩:∃m,m=max n nb:=⟨_,rfl⟩
 have hnm:n≤m:=by omega
 have hbm:nb≤m:=by omega
 have hm2:m≤1099511627776:=by omega
 have hmI:(if n<nb then(nb:Int)else(n:Int))=(m:Int):=by split<;>omega
 have hml:m=max a.length b.length:=by rw[←HN.out,←HN'.out];exact hm
 have HL:=Lib.hid (show(addL a b).length=m by rw[Zhd];exact hml.symm)
 have HZ:=Lib.hid (show a++(List.replicate m 0).drop n=padL a m by unfold padL;rw[List.drop_replicate,HN.out])
 have HPL:=Lib.hid (show(padL a m).length=m from Zus (by rw[←HN.out];exact hnm))
 have HE:=Lib.hid (show(addL a b).take nb++(padL a m).drop nb=addL a b by rw[hml];exact Zacg (Nat.le_of_eq HN'.out.symm))
 clear hm hml h1 h2
 go_enter Tryz.func188,Tryz.ntmps188
 go_wp2_with (first|(at_make;refine Zf1 w rfl _ _ rfl .i64 .i64 m (by first|rfl|exact congrArg (Value.int .i64) hmI) (by first|rfl|exact congrArg (Value.int .i64) hmI) (by omega) ?_;intro w1 hown hb)|(with_reducible refine Zub (w0:=w) _ rfl (.tmp 13) (.tmp 14) rfl w.heap.size w.heap.size m n c (List.replicate m 0) a ao rfl rfl (by exact hown) (by simp) (by exact h.below hb) hnm (by exact hb) ?_;intro w2 hown2 hb2))
 rw[HZ.out]at hown2
 have hF:=Fill.start (L:=addL a b) hown2 HL.out HPL.out
 clear hown hown2 hb
 go_loopw [6] (fun i wr=>∃k:Nat,k≤nb∧i= .int .i64 k∧Fill wr w.heap.size w.heap.size m (addL a b) (padL a m) k∧Below w.heap.size w wr) (fun i _=>nb-(intOf i).toNat)
 case atStart=>exact⟨0,Nat.zero_le _,rfl,hF,hb2⟩
 case round=>
  clear hF hb2
  obtain⟨k,hk,rfl,hF,hb⟩:=hrel
  by_cases hlt:k<nb
  ·obtain⟨bk,off,rfl,hl,hc0⟩:=(h'.below hb).at hlt
   have hkm:k<m:=by omega
   have hc:=hF.cell hkm
   rw[Zuz]at hc
   have hx:=HB.out k
   have HV:=Lib.hid (show(addL a b).getD k 0=a.getD k 0+b[k]by rw[Zur,Zc9 hl])
   rw[Zc9 hl]at hx
   have hf:=hF.free k
   have hst:=hF.step hkm (y:=a.getD k 0+b[k]) HV.out
   have hb2:=hF.below hb (.int .i64 (a.getD k 0+b[k]))
   generalize a.getD k 0=A at*
   clear hF hb h'
   have b1:IntKind.i64.wrap (A+b[k])=A+b[k]:=IntWalk.i64_in _ (by omega)
   go_wp2_with fail
   go_still_tail 12,(by kernel_rfl)
   go_wp2_with fail
   clear b1
   go_roundw
   case rel=>exact⟨k+1,by omega,by go_num,hst,hb2.drew⟩
   case measure=>simp[intOf];omega
  ·obtain rfl:k=nb:=by omega
   obtain⟨hF1,hF2,hF3⟩:=hF
   rw[HE.out]at hF1
   have hO:OwnV wr w.heap.size (.slice (some ⟨w.heap.size,0,none⟩) m m) (addL a b):=by unfold OwnV;rw[HL.out];exact hF1
   obtain⟨a1,n1,c1,e1,ho⟩:=hO.own (by rw[HL.out];omega)
   cases e1
   go_wp2_with fail
   go_ret
   exact⟨_,_,_,rfl,ho,hb⟩
theorem Zaia {ao:Option Addr} {n c:Nat} {l:List Stn} {w:World} (nm:ByteArray) (d loss:Int) (h:RdS w ao n l) (hc:n≤c) (h1:Zay l=true) (h2:n<8) (h3:Zdv nm=true) (h4:idxS l nm= -1) (h5:inB loss 1 20=true):
 Calls Tryz.prog 214 #[.slice ao n c,.string nm,.int .i64 d,.int .i64 loss] w (RetSB w (admR l nm d loss)):=by
 have hs:=h.2.1
 have h8:=Zjc h1
 have hn:=h.1
 have hr:=Lib.hid (Zag8 (d:=d) h1 (by omega) h3 h4 h5)
 have H4:=Lib.hid h4;clear h4
 have HP:=Lib.hid (Z2y h1)
 have HN:=Lib.hid hn;clear hn
 go_enter Tryz.func214,Tryz.ntmps214
 go_wp2_with fail
 refine(Zba h hc).mono ?_;rintro e w1 ⟨rfl,hb1⟩
 rw[h1]
 clear h1
 go_wp2_with fail
 refine(Zdi _ _).mono ?_;rintro e w' ⟨rfl,rfl⟩
 rw[h3]
 clear h3
 go_wp2_with fail
 refine(Zbu nm (h.below hb1)).mono ?_;rintro e w2 ⟨rfl,hb2⟩
 rw[H4.out]
 go_wp2_with fail
 refine(Zlt _ _).mono ?_;rintro e w' ⟨rfl,rfl⟩
 rw[h5]
 clear h5
 have hbA:=hb1.trans (hb2.mono hb1.size)
 have hA:=h.below hbA
 clear hb1 hb2 h
 go_wp2_with (at_make;refine Zcd 24 9 16 ByteArray.empty Tryz.underlying24 Zd2 rfl (by decide) w2 rfl _ _ rfl .i64 .i64 n rfl rfl (by omega) ?_;intro w3 hownF hbF)
 have hL:(l.map Stn.ph).length=n:=by rw[List.length_map,←HN.out]
 have HL:=Lib.hid hL
 have hF:=FillF.start hownF hL (by simp)
 clear hownF hL
 have hz2:=hbA.size
 go_loopw [45] (fun i wr=>∃k:Nat,k≤n∧i= .int .i64 k∧Zaaj wr w2.heap.size w2.heap.size n (l.map Stn.ph) (List.replicate n ByteArray.empty) k∧Below w2.heap.size w2 wr) (fun i _=>n-(intOf i).toNat)
 case atStart=>exact⟨0,Nat.zero_le _,rfl,hF,hbF⟩
 case round=>
  clear hF hbF
  obtain⟨k,hk,rfl,hF,hb⟩:=hrel
  obtain⟨wo,hwo⟩:∃wo:World,wo=wr:=⟨_,rfl⟩
  subst hwo
  have hz:=hb.size
  have h2:=hA.below hb
  by_cases hlt:k<n
  ·obtain⟨bk,off,rfl,hl,hc0,hc1,hc2,hc3⟩:=h2.at hlt
   have hB0:Below wo.heap.size wo (wo.alloc (.cells #[.string l[k].nm,.string l[k].ph,.int .i64 l[k].g,.int .i64 l[k].l] 37)):=(Below.refl _ _).alloc (Nat.le_refl _) _
   have hBx:=Box.new wo #[.string l[k].nm,.string l[k].ph,.int .i64 l[k].g,.int .i64 l[k].l] 37
   have d1:=hBx.cell (i:=1) rfl
   have hF1:=hF.alter hB0
   obtain⟨z,hcz⟩:=hF1.cell hlt
   have hf:=hF1.free k
   have hst:=hF1.step hlt (y:=.string l[k].ph) (fun hl=>by simp)
   have hbn:=hF1.below (hb.alloc hz _) (.string l[k].ph)
   clear hF hF1 hb hA h2
   go_wp2_with fail
   go_roundw
   case rel=>exact⟨k+1,by omega,by go_num,hst,hbn⟩
   case measure=>simp[intOf];omega
  ·obtain rfl:k=n:=by omega
   obtain⟨a1,n1,c1,e1,ho⟩:=(hF.done (Nat.le_refl _)).own (by rw[HL.out];omega)
   cases e1
   have hU:=ho.rd
   have hB2:=hbA.trans (hb.mono hz2)
   have hzB:=hB2.size
   clear hF hb hA ho hlt
   go_wp2_with fail
   refine(Zse d hU HP.out (by omega)).mono ?_;rintro e w4 hret
   cases hal:Zf3 (l.map Stn.ph) d with
   |none=>
    rw[hal]at hret
    obtain⟨rfl,hb4⟩:=hret
    have hr2:=Lib.hid (show admR l nm d loss=none by rw[hr.out,hal];rfl)
    have HAL:=Lib.hid hal;clear hal
    go_wp2_with fail
    go_ret2
    exact Zdm hr2.out (hB2.trans (hb4.mono hzB))
   |some p=>
    rw[hal]at hret
    obtain⟨he4,hb4⟩:=hret
    obtain rfl:e= .returned (.tuple #[.string p,.bool true]):=he4
    have hr2:=Lib.hid (show admR l nm d loss=some (l++[⟨nm,p,1,loss⟩])by rw[hr.out,hal];rfl)
    have HAL:=Lib.hid hal;clear hal
    have hB4:=hB2.trans (hb4.mono hzB)
    have hz4:=hB4.size
    have h4:=h2.below hb4
    clear h2 hU hb4 hB2
    have hlen:=HN.out
    have HLN:=Lib.hid hlen;clear hlen
    go_wp2_with (first|(at_make;go_loud (refine Zacc _ rfl (.tmp 65) (.tmp 68) rfl .i64 .i64 k _ rfl rfl rfl (by omega) ?_);intro w5 hownA hb5;have hB5:=hB4.trans (hb5.mono hz4);have hz5:=hB5.size;have hownB:=Zj1 hownA hz4;have h5:=h4.below hb5)|(with_reducible refine Zad3 (w0:=w) _ rfl (.tmp 70) (.tmp 71) rfl w.heap.size w4.heap.size k (k+1) c (List.replicate k zstn) l ao rfl rfl (by exact hownB) h5 hB5 ?_;intro w6 hown6 hb6;have hz6:=hb6.size)|(at_builtin;go_loud (refine Zga _ rfl (.tmp 73) (.tmp 78) rfl w.heap.size _ l [⟨nm,p,1,loss⟩] _ 1 1 rfl (by exact World.ownsRow.alloc hown6 _) rfl (Zq6 w6 ⟨nm,p,1,loss⟩ _) (by intro e;cases e) (by have:=HLN.out;omega) (by simp;omega) ?_);intro v7 w7 hown7 _ hb7;have hB7:=(hb6.alloc hz6 _).trans hb7))
    go_ret2
    exact Zb2 hown7 (by rw[List.length_append];have:=HLN.out;simp;omega) (by rw[hr2.out];rfl) (by rw[hr2.out];rfl) hB7
theorem Zaij {ao:Option Addr} {n c:Nat} {l:List Stn} {w:World} (nm:ByteArray) (d loss:Int) (h:RdS w ao n l) (hc:n≤c) (h1:Zay l=true) (h2:n<8) (h3:Zdv nm=true) (h4:idxS l nm= -1) (h5':inB loss 1 20=false):
 Calls Tryz.prog 214 #[.slice ao n c,.string nm,.int .i64 d,.int .i64 loss] w (RetSB w (admR l nm d loss)):=by
 have hs:=h.2.1
 have hr:=Lib.hid (Zahx (l:=l) (nm:=nm) (d:=d) h5')
 have H4:=Lib.hid h4;clear h4
 go_enter Tryz.func214,Tryz.ntmps214
 go_wp2_with fail
 refine(Zba h hc).mono ?_;rintro e w1 ⟨rfl,hb1⟩
 rw[h1]
 clear h1
 go_wp2_with fail
 refine(Zdi _ _).mono ?_;rintro e w' ⟨rfl,rfl⟩
 rw[h3]
 clear h3
 go_wp2_with fail
 refine(Zbu nm (h.below hb1)).mono ?_;rintro e w2 ⟨rfl,hb2⟩
 rw[H4.out]
 go_wp2_with fail
 refine(Zlt _ _).mono ?_;rintro e w' ⟨rfl,rfl⟩
 rw[h5']
 clear h5'
 go_wp2_with fail
 go_ret2
 exact Zdm hr.out (hb1.trans (hb2.mono hb1.size))
theorem Zaj6 {ao:Option Addr} {n c:Nat} {l:List Stn} {w:World} (nm:ByteArray) (d loss:Int) (h:RdS w ao n l) (hc:n≤c) (h1:Zay l=true) (h2:n<8) (h3:Zdv nm=true) {f:Nat} (h4:idxS l nm=f):
 Calls Tryz.prog 214 #[.slice ao n c,.string nm,.int .i64 d,.int .i64 loss] w (RetSB w (admR l nm d loss)):=by
 have hs:=h.2.1
 have hr:=Lib.hid (Zahw (d:=d) (loss:=loss) h4)
 have H4:=Lib.hid h4;clear h4
 go_enter Tryz.func214,Tryz.ntmps214
 go_wp2_with fail
 refine(Zba h hc).mono ?_;rintro e w1 ⟨rfl,hb1⟩
 rw[h1]
 clear h1
 go_wp2_with fail
 refine(Zdi _ _).mono ?_;rintro e w' ⟨rfl,rfl⟩
 rw[h3]
 clear h3
 go_wp2_with fail
 refine(Zbu nm (h.below hb1)).mono ?_;rintro e w2 ⟨rfl,hb2⟩
 rw[H4.out]
 go_wp2_with fail
 go_ret2
 exact Zdm hr.out (hb1.trans (hb2.mono hb1.size))
theorem Zai8 {ao:Option Addr} {n c:Nat} {l:List Stn} {w:World} (nm:ByteArray) (d loss:Int) (h:RdS w ao n l) (hc:n≤c) (h1:Zay l=true) (h2:n<8) (h3':Zdv nm=false):
 Calls Tryz.prog 214 #[.slice ao n c,.string nm,.int .i64 d,.int .i64 loss] w (RetSB w (admR l nm d loss)):=by
 have hs:=h.2.1
 have hr:=Lib.hid (Zag1 (l:=l) (d:=d) (loss:=loss) h3')
 go_enter Tryz.func214,Tryz.ntmps214
 go_wp2_with fail
 refine(Zba h hc).mono ?_;rintro e w1 ⟨rfl,hb1⟩
 rw[h1]
 clear h1
 go_wp2_with fail
 refine(Zdi _ _).mono ?_;rintro e w' ⟨rfl,rfl⟩
 rw[h3']
 clear h3'
 go_wp2_with fail
 go_ret2
 exact Zdm hr.out hb1
theorem Zah7 {ao:Option Addr} {n c:Nat} {l:List Stn} {w:World} (nm:ByteArray) (d loss:Int) (h:RdS w ao n l) (hc:n≤c) (h1:Zay l=true) (h2:¬n<8):
 Calls Tryz.prog 214 #[.slice ao n c,.string nm,.int .i64 d,.int .i64 loss] w (RetSB w (admR l nm d loss)):=by
 have hs:=h.2.1
 have hn:=h.1
 have hr:=Lib.hid (Zahu (l:=l) (nm:=nm) (d:=d) (loss:=loss) (by omega))
 have hge:(8:Int)≤(n:Int):=by omega
 clear hn
 go_enter Tryz.func214,Tryz.ntmps214
 go_wp2_with fail
 refine(Zba h hc).mono ?_;rintro e w1 ⟨rfl,hb1⟩
 rw[h1]
 clear h1
 go_wp2_with fail
 go_ret2
 exact Zdm hr.out hb1
theorem Zakh {ao:Option Addr} {n c:Nat} {l:List Stn} {w:World} (nm:ByteArray) (d loss:Int) (h:RdS w ao n l) (hc:n≤c) (h1':Zay l=false):
 Calls Tryz.prog 214 #[.slice ao n c,.string nm,.int .i64 d,.int .i64 loss] w (RetSB w (admR l nm d loss)):=by
 have hs:=h.2.1
 have hr:=Lib.hid (Zahg (nm:=nm) (d:=d) (loss:=loss) h1')
 go_enter Tryz.func214,Tryz.ntmps214
 go_wp2_with fail
 refine(Zba h hc).mono ?_;rintro e w1 ⟨rfl,hb1⟩
 rw[h1']
 clear h1'
 go_wp2_with fail
 go_ret2
 exact Zdm hr.out hb1
theorem Zk9 {ao:Option Addr} {n c:Nat} {l:List Stn} {w:World} (nm:ByteArray) (d loss:Int) (h:RdS w ao n l) (hc:n≤c):
 Calls Tryz.prog 214 #[.slice ao n c,.string nm,.int .i64 d,.int .i64 loss] w (RetSB w (admR l nm d loss)):=by
 by_cases h1:Zay l=true
 ·by_cases h2:n<8
  ·by_cases h3:Zdv nm=true
   ·rcases Zgk l nm with h4|⟨f,hf,h4⟩
    ·by_cases h5:inB loss 1 20=true
     ·exact Zaia nm d loss h hc h1 h2 h3 h4 h5
     ·exact Zaij nm d loss h hc h1 h2 h3 h4 (by simpa using h5)
    ·exact Zaj6 nm d loss h hc h1 h2 h3 h4
   ·exact Zai8 nm d loss h hc h1 h2 (by simpa using h3)
  ·exact Zah7 nm d loss h hc h1 h2
 ·exact Zakh nm d loss h hc (by simpa using h1)
end Go.Proofs.YtcjihfongfefoaaGreatDoor
