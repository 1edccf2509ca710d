/- Zh Ze Zi -/
import Derived.Test.YtcjihfongfefoaaGreatDoorJ40
import Derived.Test.YtcjihfongfefoaaGreatDoorJ52
import Derived.Test.YtcjihfongfefoaaGreatDoorShlf
namespace Go.Proofs.YtcjihfongfefoaaGreatDoor
open Go.RowKit
set_option maxHeartbeats 25600000
set_option maxRecDepth 100000
theorem Z3j (s:ByteArray) (w:World):Calls Tryz.prog 14 #[.string s] w fun e w'=>e= .returned (.string (Zaf s))∧w=w':=by
 by_cases h:s.size=0
 ·have hs:=Zkb h
  have hr:=Lib.hid (show Zaf s=⟨#[45]⟩by unfold Zaf;rw[if_pos h])
  obtain rfl:s=⟨#[]⟩:=Zae hs
  clear h hs
  go_enter Tryz.func14,Tryz.ntmps14
  go_wp2_with fail
  go_ret
  exact⟨by rw[hr.out];rfl,rfl⟩
 ·have hr:=Lib.hid (show Zaf s=s by unfold Zaf;rw[if_neg h])
  have h1:=Zou (Zfh h)
  have h2:s.toList.isEmpty=false:=by rw[Zck];simpa using Zfh h
  clear h
  go_enter Tryz.func14,Tryz.ntmps14
  go_wp2_with fail
  go_ret
  exact⟨by rw[hr.out];rfl,rfl⟩
theorem Zqn (n:Nat) (w:World) (h:n≤9223372036854775807):Calls Tryz.prog 17 #[.int .i64 n] w fun e w'=>e= .returned (.string (txt (Lib.decDigits n)))∧Below w.heap.size w w':=by
 have HL:=Lib.hid (Z2r h)
 have hn0:¬(n:Int)<0:=by omega
 go_enter Tryz.func17,Tryz.ntmps17
 go_wp2_with fail
 go_loopw [0,3] (fun i o wr=>∃(m:Nat) (x:ByteArray),i= .int .i64 m∧o= .string x∧m≤9223372036854775807∧Hid (Lib.decDigits n=Lib.decDigits m++bts x)∧Below w.heap.size w wr) (fun i _ _=>(intOf i).toNat)
 case atStart=>exact⟨n,⟨#[]⟩,rfl,rfl,h,Lib.hid (by simp[bts]),Below.refl _ _⟩
 case round=>
  obtain⟨m,x,rfl,rfl,hm,HX,hb⟩:=hrel
  have hx:x.size≤21:=by
   have h1:=congrArg List.length HX.out
   have h2:=HL.out
   rw[List.length_append,Zbz]at h1
   omega
  obtain⟨r,hr⟩:∃r,r=m%10:=⟨_,rfl⟩
  obtain⟨q,hq⟩:∃q,q=m/10:=⟨_,rfl⟩
  have hr9:r≤9:=by omega
  have e1:(m:Int)%10=(r:Int):=by omega
  have e2:(m:Int)/10=(q:Int):=by omega
  have HN:=Lib.hid (show text [48+(r:Int)]++x=txt (UInt8.ofNat (48+r)::bts x)by
   rw[show(48+(r:Int))=((48+r:Nat):Int)by omega,Zwi];exact Zqa _ (bts x))
  have hsum:¬(text [48+(r:Int)]).size+x.size>9223372036854775807:=by rw[Zaci];omega
  have hb2:Below w.heap.size w (wr.alloc (.cells #[.int .u8 (48+(r:Int))] 5)):=hb.alloc hb.size _
  by_cases hlt:9<m
  ·have HS:=Lib.hid (Zabz (u:=m) (by omega))
   have hqm:q<m:=by omega
   have hq0:¬(q:Int)=0:=by omega
   have hq0':((q:Int)==0)=false:=by rw[beq_eq_false_iff_ne];omega
   rw[←hr,←hq]at HS
   clear hr hq
   go_wp2_with (with_reducible refine Zca 22 5 9 Tryz.underlying22 Tryz.underlying5 Tryz.underlying9 _ rfl (.tmp 14) rfl rfl (Zr9 _ _ _) ?_)
   rw[HN.out]
   clear e1 e2 hsum
   go_roundw
   case rel=>exact⟨q,_,rfl,rfl,by omega,Lib.hid (by rw[HX.out,HS.out,Zbv];simp),hb2⟩
   case measure=>simp[intOf];omega
  ·obtain rfl:q=0:=by omega
   obtain rfl:r=m:=by omega
   have HF:=Lib.hid (show txt (UInt8.ofNat (48+r)::bts x)=txt (Lib.decDigits n)by rw[HX.out,Lib.decDigits_one (by omega)];rfl)
   clear hr hq
   go_wp2_with (with_reducible refine Zca 22 5 9 Tryz.underlying22 Tryz.underlying5 Tryz.underlying9 _ rfl (.tmp 14) rfl rfl (Zr9 _ _ _) ?_)
   rw[HN.out,HF.out]
   go_ret
   exact⟨rfl,hb2⟩
theorem Zgj (n:Int) (w:World) (h:I63 n):Calls Tryz.prog 17 #[.int .i64 n] w fun e w'=>e= .returned (.string (decT n))∧Below w.heap.size w w':=by
 obtain⟨h0,h1⟩:=h
 by_cases hn:n<0
 ·obtain⟨u,rfl⟩:∃u:Nat,n= -(u:Int):=⟨n.natAbs,by omega⟩
  have HD:=Lib.hid (show(⟨#[45]⟩:ByteArray)++txt (Lib.decDigits u)=decT (-(u:Int))by
   unfold decT;rw[Lib.itoa_neg u (by omega)];exact Zqa [45] _)
  have HL:=Lib.hid (Z2r (n:=u) (by omega))
  have hz:(txt (Lib.decDigits u)).size≤21:=by rw[Zfi];exact HL.out
  have hneg:IntKind.i64.wrap (-(-(u:Int)))=(u:Int):=by rw[Int.neg_neg];exact IntWalk.i64_in _ (by omega)
  have hneg2: -(-(u:Int))=(u:Int):=Int.neg_neg _
  have hsum:¬(⟨#[45]⟩:ByteArray).size+(txt (Lib.decDigits u)).size>9223372036854775807:=by
   have:(⟨#[45]⟩:ByteArray).size=1:=rfl
   omega
  go_enter Tryz.func17,Tryz.ntmps17
  go_wp2_with fail
  refine(Zqn u _ (by omega)).mono ?_;rintro e w1 ⟨rfl,hb1⟩
  go_wp2_with fail
  go_ret
  exact⟨by rw[←HD.out];rfl,hb1⟩
 ·obtain⟨u,rfl⟩:=Int.eq_ofNat_of_zero_le (show 0≤n by omega)
  refine(Zqn u w (by omega)).mono ?_;rintro e w1 ⟨rfl,hb1⟩
  exact⟨by unfold decT;rw[Lib.itoa_nonneg],hb1⟩
theorem Z0q {ao:Option Addr} {n c:Nat} {l:List Int} {w:World} (h:Rd w ao n l) (hi:∀x∈l,I63 x) (hn6:n≤1000000):
 Calls Tryz.prog 15 #[.slice ao n c] w fun e w'=>e= .returned (.string (nmsT l))∧Below w.heap.size w w':=by
 have HN:=Lib.hid h.1
 have HI:=Lib.hid hi
 have HFY:=Lib.hid (show nmsT l=Zaf (Zbi 32 (l.map decT))from rfl)
 clear hi
 have HO0:=Lib.hid (Zab9 l).symm
 go_enter Tryz.func15,Tryz.ntmps15
 go_wp2_with fail
 go_loopw [3,4] (fun o i wr=>∃k:Nat,k≤n∧i= .int .i64 k∧o= .string (nT l k)∧Below w.heap.size w wr) (fun _ i _=>n-(intOf i).toNat)
 case atStart=>exact⟨0,Nat.zero_le _,rfl,rfl,Below.refl _ _⟩
 case round=>
  obtain⟨k,hk,rfl,rfl,hb⟩:=hrel
  obtain⟨wo,hwo⟩:∃wo:World,wo=wr:=⟨_,rfl⟩
  subst hwo
  have hS:=h.below hb
  by_cases hlt:k<n
  ·obtain⟨bk,off,rfl,hl,s0⟩:=hS.at hlt
   have hI1:I63 l[k]:=HI.out _ (List.getElem_mem _)
   have hI64:∀x∈l,I64 x:=fun x hx=>⟨by have:=(HI.out x hx).1;omega,(HI.out x hx).2⟩
   have hoz:=Z9k hI64 k
   have hdz:=Zcl (hI64 _ (List.getElem_mem hl)).1 (hI64 _ (List.getElem_mem hl)).2
   have hcase:(¬(0:Int)<(k:Int)∧∃X,X=nT l k∧X++decT l[k]=nT l (k+1))∨((0:Int)<(k:Int)∧nT l k++⟨#[32]⟩++decT l[k]=nT l (k+1)):=by
    by_cases e:k=0
    ·exact .inl ⟨by omega,_,rfl,Zag7 hl e⟩
    ·exact .inr ⟨by omega,Z9a hl (by omega)⟩
   have HCS:=Lib.hid hcase
   clear hcase hS hI64
   generalize l[k]=st at*
   generalize hOk:nT l k=O at*
   have HOK:=Lib.hid hOk
   clear hOk
   rcases HCS.out with ⟨h0,hX⟩|⟨h0,hX⟩
   ·obtain⟨X,rfl,hX⟩:=hX
    have HXN:=Lib.hid hX
    clear hX HOK
    have n1:¬X.size+(decT st).size>9223372036854775807:=by omega
    have n1':¬9223372036854775807<X.size+(decT st).size:=by omega
    go_wp2_with fail
    refine(Zgj _ _ hI1).mono ?_;rintro e w5 ⟨rfl,hb5⟩
    have hbw:=hb.trans (hb5.mono hb.size)
    clear hb
    go_wp2_with fail
    rw[HXN.out]
    go_roundw
    case rel=>exact⟨k+1,by omega,by go_num,rfl,hbw⟩
    case measure=>simp[intOf];omega
   ·obtain⟨X,hX0⟩:∃X,X=O++(⟨#[32]⟩:ByteArray):=⟨_,rfl⟩
    rw[←hX0]at hX
    have hXz:X.size≤k*22+1:=by rw[hX0,ByteArray.size_append];have:(⟨#[32]⟩:ByteArray).size=1:=rfl;omega
    have HXN:=Lib.hid hX
    have HX0:=Lib.hid hX0
    clear hX hX0 HOK
    have n0:¬O.size+1>9223372036854775807:=by omega
    have n0':¬9223372036854775807<O.size+1:=by omega
    have n1:¬X.size+(decT st).size>9223372036854775807:=by omega
    have n1':¬9223372036854775807<X.size+(decT st).size:=by omega
    go_wp2_with fail
    refine(Zgj _ _ hI1).mono ?_;rintro e w5 ⟨rfl,hb5⟩
    have hbw:=hb.trans (hb5.mono hb.size)
    clear hb
    rw[←HX0.out]
    go_wp2_with fail
    rw[HXN.out]
    go_roundw
    case rel=>exact⟨k+1,by omega,by go_num,rfl,hbw⟩
    case measure=>simp[intOf];omega
  ·obtain rfl:k=n:=by omega
   have HA:=Lib.hid (Zagw (l:=l) (k:=k) (by have:=HN.out;omega))
   rw[HA.out]
   have hbE:=hb
   go_wp2_with fail
   refine(Z3j _ _).mono ?_;rintro e w' ⟨rfl,rfl⟩
   rw[←HFY.out]
   go_wp2_with fail
   go_ret
   exact⟨rfl,hbE⟩
theorem Zah4 (s t x n:Int) (w:World):Calls Tryz.prog 26 #[.agg #[.int .i64 s,.int .i64 t,.int .i64 x],.int .i64 n] w fun e w'=>e= .returned (.string ((rnR s t x n).getD ByteArray.empty))∧Below w.heap.size w w':=by
 have hB0:Below w.heap.size w (w.alloc (.cells #[.int .i64 s,.int .i64 t,.int .i64 x] 46)):=(Below.refl _ _).alloc (Nat.le_refl _) _
 have hBx:=Box.new w #[.int .i64 s,.int .i64 t,.int .i64 x] 46
 have c0:=hBx.cell (i:=0) rfl
 have c1:=hBx.cell (i:=1) rfl
 have c2:=hBx.cell (i:=2) rfl
 go_enter Tryz.func26,Tryz.ntmps26
 go_wp2_with fail
 refine(Zgw s t x n _).mono ?_;rintro e w1 ⟨rfl,hb1⟩
 have hb:=hB0.trans (hb1.mono hB0.size)
 go_wp2_with fail
 go_ret
 exact⟨rfl,hb⟩
theorem Z6n {s:ByteArray} (h:Zan s=true):∀x∈Zab s,Za7 x:=by
 unfold Zan at h
 rw[Bool.and_eq_true]at h
 exact Zdc h.2
theorem Zh3 {s:ByteArray} (h:Zan s=true) {c:UInt8} (h1:c.toNat≠48) (h2:c.toNat≠49):c ∉ bts s:=Z3g (Z6n h) h1 h2
theorem Z8w {s:ByteArray} (h:Zan s=true):bts s≠[45]:=fun e=>Zh3 h (c:=45) (by decide) (by decide) (by rw[e];exact List.mem_singleton.2 rfl)
theorem Zm6 {s:ByteArray} (h:Zan s=true):Zar (Zaf s)=s:=Zw5 (Z8w h)
theorem Zpq {p:ByteArray} (h:payB p=true):Zan p=true∧p.size≤100:=by
 unfold payB at h
 rw[Bool.and_eq_true,decide_eq_true_eq]at h
 exact⟨h.2,h.1⟩
theorem Zlu {p:ByteArray} (h:payB p=true):Zan (Zas p)=true:=Zd9 (by have:=(Zpq h).2;rw[Zcp];omega) (Zsx h)
theorem Z7d {p:ByteArray} (h:payB p=true):allR (Zas p)=[p]:=by
 have hz:=(Zpq h).2
 have h1:Zbn (Zas p) (0:Nat)=some (p,23+p.size):=by
  have:=Zrg (s:=Zas p) (p:=p) (a:=0) (Zlu h) hz (by rw[Zcp];omega) (by
   apply Zsj
   rw[Zea,List.drop_zero,List.take_of_length_le (by rw[Zdz,Zcp];omega)])
  rw[this,Nat.zero_add]
 unfold allR
 rw[Zj9 (by omega) (Zaco h1) h1,Zje (by rw[Zafb (by rw[Zcp];omega)];omega)]
def frmP (p q y:ByteArray) (n s t x:Int):List (ByteArray×ByteArray):=
 [((⟨#[114,101,103,105,115,116,101,114]⟩:ByteArray)++⟨#[32]⟩++rgT s t x,sokT),
  ((⟨#[102,114,97,109,101]⟩:ByteArray)++⟨#[32]⟩++Zaf p,Zas p),
  ((⟨#[102,105,110,100]⟩:ByteArray)++⟨#[32]⟩++Zas p,Zaf p),
  ((⟨#[112,114,111,116,101,99,116]⟩:ByteArray)++⟨#[32]⟩++(Zaf p++⟨#[32]⟩++decT n),q),
  ((⟨#[111,112,101,110]⟩:ByteArray)++⟨#[32]⟩++(y++⟨#[32]⟩++decT n),Zaf p)]
theorem Zabj {p q y:ByteArray} {n s t x:Int} (hq:prR p n s t x=some q) (hy:opR y n s t x=some p) (hyb:Zan y=true):
 Zjl mch0 (frmP p q y n s t x) ⟨s,t,x,[],[]⟩:=by
 obtain⟨_,_,_,_,hn,hr,hp⟩:=Zl8 hq
 obtain⟨hpb,hpz⟩:=Zpq hp
 have f10:∀{z:ByteArray},Zan z=true→(10:UInt8) ∉ bts z:=fun h=>Zh3 h (by decide) (by decide)
 have f32:∀{z:ByteArray},Zan z=true→(32:UInt8) ∉ bts z:=fun h=>Zh3 h (by decide) (by decide)
 refine Zb3 (k:=0) (m1:=⟨s,t,x,[],[]⟩) (by decide) (by decide) (Zah3 _ _ _) (Z8l hr) rfl ?_ ?_
 ·show(parG (Zbi 32 (rgF s t x))).map _=_
  rw[Z2u hr,Zzu hr];rfl
 refine Zb3 (k:=17) (m1:=⟨s,t,x,[],[]⟩) (by decide) (by decide) (Zzs (f10 hpb)) (Zdq (Zz2 (f32 hpb))) rfl ?_ ?_
 ·show Mch.say _ (Zhy (Zar (Zaf p)))=_
  rw[Zm6 hpb,Zda hp];rfl
 refine Zb3 (k:=18) (m1:=⟨s,t,x,[],[]⟩) (by decide) (by decide) (f10 (Zlu hp)) (Zdq (f32 (Zlu hp))) rfl ?_ ?_
 ·show(if allR (Zas p)=[]then none else some (_,Zbi 32 ((allR (Zas p)).map Zaf)))=_
  rw[Z7d hp,if_neg (by simp),List.map_singleton,Zye]
 refine Zb3 (k:=19) (m1:=⟨s,t,x,[],[]⟩) (by decide) (by decide) (Zif (by decide) (Zzs (f10 hpb)) (Zoj _)) (Zny (Zz2 (f32 hpb)) (Zqe _)) rfl ?_ ?_
 ·show(numT (decT n)).bind _=_
  rw[Zew (by omega) (by omega)]
  show Mch.say _ (prR (Zar (Zaf p)) n s t x)=_
  rw[Zm6 hpb,hq];rfl
 refine Zb3 (k:=20) (m1:=⟨s,t,x,[],[]⟩) (by decide) (by decide) (Zif (by decide) (f10 hyb) (Zoj _)) (Zny (f32 hyb) (Zqe _)) rfl ?_ rfl
 show(numT (decT n)).bind _=_
 rw[Zew (by omega) (by omega)]
 show Mch.say _ ((opR y n s t x).map Zaf)=_
 rw[hy];rfl
theorem Z6q {p q y:ByteArray} {n s t x:Int} (hq:prR p n s t x=some q) (hy:opR y n s t x=some p) (hyb:Zan y=true):
 Zb4 (Zb0 ((frmP p q y n s t x).map Prod.fst))=Zb0 ((frmP p q y n s t x).map Prod.snd):=by
 obtain⟨_,hqz,_,_,hn,hr,hp⟩:=Zl8 hq
 obtain⟨hpb,hpz⟩:=Zpq hp
 have z1:=Zk2 hr
 have z2:=Ze2 p
 have z3:(decT n).size≤21:=Zde ⟨by omega,by omega⟩
 have z4:=Zcp p
 have z5:=Zem hyb
 refine Zhb (Zabj hq hy hyb) ?_ ?_ ?_
 ·exact(by decide:5≤100)
 ·simp only[frmP,List.map_cons,List.map_nil,Zaz,Zbf,ByteArray.size_append,Zk5,List.length_cons,List.length_nil]
  omega
 ·simp only[frmP,sokT,List.map_cons,List.map_nil,Zaz,Zbf,ByteArray.size_append,Zk5,List.length_cons,List.length_nil]
  omega
theorem Zafv (p q y:ByteArray) (n s t x:Int):Zb0 ((frmP p q y n s t x).map Prod.fst)=
 (⟨#[114,101,103,105,115,116,101,114,32]⟩:ByteArray)++rgT s t x++(⟨#[10,102,114,97,109,101,32]⟩:ByteArray)++Zaf p++(⟨#[10,102,105,110,100,32]⟩:ByteArray)++Zas p++(⟨#[10,112,114,111,116,101,99,116,32]⟩:ByteArray)++Zaf p++(⟨#[32]⟩:ByteArray)++decT n++(⟨#[10,111,112,101,110,32]⟩:ByteArray)++y++(⟨#[32]⟩:ByteArray)++decT n++(⟨#[10]⟩:ByteArray):=by
 apply Zae
 simp only[frmP,List.map_cons,List.map_nil,Zaz,Zbf,Zbw,Zfy,List.append_assoc,List.cons_append,List.nil_append]
theorem Zajl (p q y:ByteArray) (n s t x:Int):Zb0 ((frmP p q y n s t x).map Prod.snd)=
 (⟨#[111,107,10]⟩:ByteArray)++Zas p++(⟨#[10]⟩:ByteArray)++Zaf p++(⟨#[10]⟩:ByteArray)++q++(⟨#[10]⟩:ByteArray)++Zaf p++(⟨#[10]⟩:ByteArray):=by
 apply Zae
 simp only[frmP,sokT,List.map_cons,List.map_nil,Zaz,Zbf,Zbw,Zfy,List.append_assoc,List.cons_append,List.nil_append]
theorem Zo1 (t:ByteArray) (c:Nat):bts (t.extract 0 c)=(bts t).take c:=by
 rw[Zgx t (Nat.zero_le c)];unfold subL;rw[List.drop_zero]
def CutOk (t:ByteArray) (c:Nat):Prop:=c=0∨(0<c∧c≤t.size∧(bts t)[c-1]?=some 10)
theorem Z6x {t:ByteArray} {c:Nat} (hc:CutOk t c) (h:t.size≤20000):∃z,Zb4 t=Zb4 (t.extract 0 c)++z:=by
 rcases hc with rfl|⟨h0,h1,h2⟩
 ·refine⟨Zb4 t,?_⟩
  have e:t.extract 0 0=⟨#[]⟩:=by apply Zae;rw[Zo1,List.take_zero];rfl
  rw[e,Z64,Zui]
 ·have hl:c-1<(bts t).length:=by rw[Zbz];omega
  have hg:(bts t)[c-1]=10:=by rw[List.getElem?_eq_getElem hl]at h2;exact Option.some.inj h2
  have e1:t.extract 0 c=txt ((bts t).take (c-1))++⟨#[10]⟩:=by
   apply Zae
   rw[Zo1,Zbw,Zbv]
   have:(bts t).take c=(bts t).take (c-1+1):=by rw[show c-1+1=c by omega]
   rw[this,List.take_succ_eq_append_getElem hl,hg];rfl
  have e2:t=txt ((bts t).take (c-1))++⟨#[10]⟩++txt ((bts t).drop c):=by
   apply Zae
   rw[←e1,Zbw,Zo1,Zbv,List.take_append_drop]
  obtain⟨z,hz⟩:=Z5b (txt ((bts t).take (c-1))) (txt ((bts t).drop c)) (by rw[←e2];exact h)
  exact⟨z,by rw[←e2,←e1]at hz;exact hz⟩
theorem cut_says {t:ByteArray} {c:Nat} (hc:CutOk t c) (h:t.size≤20000):(Zb4 (t.extract 0 c)).size≤(Zb4 t).size∧(Zb4 t).extract 0 (Zb4 (t.extract 0 c)).size=Zb4 (t.extract 0 c):=by
 obtain⟨z,hz⟩:=Z6x hc h
 rw[hz]
 refine⟨by rw[ByteArray.size_append];omega,?_⟩
 apply Zae
 rw[Zo1,Zbw,←Zbz]
 exact List.take_left
end Go.Proofs.YtcjihfongfefoaaGreatDoor
