/- The law FnScriptFrame holds for every input that the given row lets in: the program's answer is the reference's. No condition of its own. -/
import Derived.Test.YtcjihfongfefoaaGreatDoorRows
import Derived.WalkKit
import Derived.ProofKit
import Derived.OpenShut
import Derived.ShutString
import Derived.ChangeOld
import Derived.Below
import Derived.Lib.SmallJoins
import Derived.ChangeVars
import Derived.WalkSmall
import Derived.LaidMore
import Derived.Lay
import Derived.Stop.Joined
import Derived.SevenTiedAt
import Derived.Shelf.Vars
import Derived.Test.YtcjihfongfefoaaGreatDoorCards
import Derived.Test.YtcjihfongfefoaaGreatDoorTie
import Derived.Test.YtcjihfongfefoaaGreatDoorJ23
import Derived.Test.YtcjihfongfefoaaGreatDoorJ24
import Derived.Test.YtcjihfongfefoaaGreatDoorJ37
import Derived.Test.YtcjihfongfefoaaGreatDoorJ38
import Derived.Test.YtcjihfongfefoaaGreatDoorJ50
import Derived.Test.YtcjihfongfefoaaGreatDoorJ51
import Derived.Test.YtcjihfongfefoaaGreatDoorJ52
import Derived.Test.YtcjihfongfefoaaGreatDoorJ53
namespace Go.Proofs.YtcjihfongfefoaaGreatDoor.fnScriptFrame
open Go.ChangeShapes Go.WideShapes Go.ChangeAt Go.RowKit
open Go.ChangeMaps (open_string shut_string)
set_option maxHeartbeats 25600000
set_option maxRecDepth 100000
set_option linter.unusedVariables false
theorem own:ownKnob Tryz.prog.godebug=none:=by kernel_rfl
theorem Zij:laidOutB Tryz.prog=true:=by kernel_rfl
def Zy6 (k:IntKind) (w:World) (a:Option Addr) (len cap:Nat) (zs:List Int):Prop:=
 (a=none∧len=0∧cap=0∧zs=[])∨
 ∃x,a=some x∧len≤cap∧cap≤maxLen∧zs.length=cap∧(∀i,i<zs.length→w.cell? (x.add i)=some (.int k (zs.getD i 0)))∧∀n∈zs,(Lit.int k n).wf=true
theorem flip_fl {q y:ByteArray} {F:Nat→Bool} {i:Nat} (h:Fl q y F) (hq:allS bitC q=true) (hi:i<q.size) (hF:F i=false):Fl q (Zfv y i) fun j=>F j||j==i:=by
 have hy:=h.bit hq
 have hiy:i<y.size:=by rw[h.1];exact hi
 refine⟨by rw[Zjn hiy,h.1],fun j hj=>?_⟩
 have hjl:j<(Zab y).length:=by rw[Zac,h.1];exact hj
 have hc:=h.2 j hj
 unfold cg at hc ⊢
 rw[Zn2 hiy hy,List.getD_eq_getElem?_getD,List.getElem?_set]
 by_cases e:i=j
 ·subst e
  rw[if_pos rfl,if_pos hjl]
  have h2:=h.2 i hi
  unfold cg at h2
  rw[hF]at h2
  rw[List.getD_eq_getElem?_getD,List.getElem?_eq_getElem hjl,Option.getD_some]at h2
  simp only[beq_self_eq_true,Bool.or_true,if_true,Option.getD_some]
  rw[h2];rfl
 ·rw[if_neg e,←List.getD_eq_getElem?_getD,hc]
  have:(j==i)=false:=by rw[beq_eq_false_iff_ne];exact fun h=>e h.symm
  show _=if(F j||j==i)=true then 97-(Zab q).getD j 0 else(Zab q).getD j 0
  rw[this,Bool.or_false]
theorem Zajb {p q:ByteArray} {n s t x:Int} {k:Nat} (hq:prR p n s t x=some q) (hk:k<q.size):
 Zb4 ((⟨#[114,101,103,105,115,116,101,114,32]⟩:ByteArray)++rgT s t x++(⟨#[10,102,114,97,109,101,32]⟩:ByteArray)++Zaf p++(⟨#[10,102,105,110,100,32]⟩:ByteArray)++Zas p++(⟨#[10,112,114,111,116,101,99,116,32]⟩:ByteArray)++Zaf p++(⟨#[32]⟩:ByteArray)++decT n++(⟨#[10,111,112,101,110,32]⟩:ByteArray)++Zfv q k++(⟨#[32]⟩:ByteArray)++decT n++(⟨#[10]⟩:ByteArray))=
 (⟨#[111,107,10]⟩:ByteArray)++Zas p++(⟨#[10]⟩:ByteArray)++Zaf p++(⟨#[10]⟩:ByteArray)++q++(⟨#[10]⟩:ByteArray)++Zaf p++(⟨#[10]⟩:ByteArray):=by
 obtain⟨hqb,hq6,hq0,_,⟨hn1,hn40⟩,_,_⟩:=Zl8 hq
 have hy:opR (Zfv q k) n s t x=some p:=Z93 (a:=k) hq (flip_fl (Fl.none q) hqb hk rfl) (fun i hi=>by
  have:i=k:=by simpa using hi
  omega)
 have hyb:Zan (Zfv q k)=true:=Zd9 (by rw[Zjn hk];exact hq6) (Zxc k hqb)
 rw[←Zafv p q (Zfv q k) n s t x,←Zajl p q (Zfv q k) n s t x]
 exact Z6q hq hy hyb
set_option maxRecDepth 100000
theorem walk (a0:Option Addr) (len0 cap0:Nat) (z0:List Int) (a1:Option Addr) (len1 cap1:Nat) (z1:List Int) (w:World) (hmax:∃m,w.cell? ⟨2,0,none⟩=some (.int .i64 m)) (htab:Lib.TabIs Tryz.prog w "internal/strconv.uint64pow10" .u64 Lib.pow10Tab) (hforms:FormsW w) (w0:Zy6 .u8 w a0 len0 cap0 z0) (w1:Zy6 .u8 w a1 len1 cap1 z1):
 Calls Tryz.prog 7 #[.slice a0 len0 cap0,.slice a1 len1 cap1] w fun e w'=>e= .returned (.bool true)∧Below w.heap.size w w':=by
 by_cases hn:len0≤1048576
 ·by_cases hn1:len1≤1048576
  ·have hC:=Zoe w0 (by omega)
   have HMX:=Lib.hid (show MaxW w from hmax)
   have HTB:=Lib.hid (show TabW w from htab)
   have HFO:=Lib.hid hforms
   clear w0 w1 hmax htab hforms
   go_enter Tryz.func7,Tryz.ntmps7
   go_wp2_with fail
   refine(Zk0 hC).mono ?_;rintro e w1 ⟨p,n,s,t,x,rfl,hpz,hnn,hb1⟩
   clear hC
   have hBx1:=Box.new w1 #[.int .i64 s,.int .i64 t,.int .i64 x] 46
   have hbl:Below w1.heap.size w1 (w1.alloc (.cells #[.int .i64 s,.int .i64 t,.int .i64 x] 46)):=(Below.refl _ _).alloc (Nat.le_refl _) _
   have hB1:=hb1.trans (hbl.mono hb1.size)
   clear hb1 hbl
   have c0:=hBx1.cell (i:=0) rfl
   have c1:=hBx1.cell (i:=1) rfl
   have c2:=hBx1.cell (i:=2) rfl
   cases hq:prR p n s t x with
   |none=>
    have HT:=Lib.hid hq
    clear hq
    go_wp2_with fail
    refine(Zeh p n s t x _).mono ?_;rintro e w2 ⟨rfl,hb2⟩
    have hBx2:=hBx1.below hb2 hBx1.lt
    have hbA:=hB1.trans (hb2.mono hB1.size)
    clear c0 c1 c2
    have c0:=hBx2.cell (i:=0) rfl
    have c1:=hBx2.cell (i:=1) rfl
    have c2:=hBx2.cell (i:=2) rfl
    rw[HT.out]
    simp only[Option.getD_none,Option.isSome_none]
    go_wp2_with fail
    refine(Zd4 p n s t x _ (by omega)).mono ?_;rintro e w3 ⟨rfl,hb3⟩
    have hbB:=hbA.trans (hb3.mono hbA.size)
    clear c0 c1 c2
    rw[HT.out]
    simp only[Option.getD_none,Option.isSome_none]
    go_wp2_with fail
    go_ret
    exact⟨by simp,hbB⟩
   |some q=>
    obtain⟨hqb,hq6,hq0,_,⟨hn1',hn40⟩,hrg,hpay⟩:=Zl8 hq
    have zF:=Zk2 hrg
    have zD:=Ze2 p
    have zT:=Zcp p
    have zN:(decT n).size≤21:=Zde ⟨by omega,by omega⟩
    obtain⟨A,hA⟩:∃A,A=len1%q.size:=⟨_,rfl⟩
    have hA6:A<q.size:=by rw[hA];exact Nat.mod_lt _ hq0
    have zY:=Zjn hA6
    have m1:(len1:Int).tmod (q.size:Int)=(A:Int):=by rw[hA];rfl
    have m2:(len1:Int)%(q.size:Int)=(A:Int):=by rw[hA];rfl
    have hqn0:¬(q.size:Int)=0:=by omega
    have hqn1:¬q.size=0:=by omega
    have HPP:=Lib.hid (fun c=>Zeh p n s t x c)
    have HSP:=Lib.hid (fun c=>Zd4 p n s t x c (by omega))
    have HFR:=Lib.hid (fun c=>Zfr p c)
    rw[hq]at HPP HSP
    rw[Zda hpay]at HFR
    have HFM:=Lib.hid (fun c (ht:TabW c)=>Zb8 s t x c ht)
    have HDA:=Lib.hid (fun c=>Z3j p c)
    have HNU:=Lib.hid (fun c=>Zgj n c ⟨by omega,by omega⟩)
    have HFL:=Lib.hid (fun c=>Zae1 q A c hA6 (by omega) hqb)
    have HL:=Lib.hid (Zajb hq hA6)
    have HIP:=Lib.hid (fun(x:ByteArray) c (ht:TabW c) (hm:MaxW c) (hf:FormsW c) (hs:x.size≤1099511627776)=>Zln x c ht hm hf hs)
    have hqq:(q.toList==q.toList)=true:=by simp
    have hqq2:(q.toList != q.toList)=false:=by simp
    clear hA hq hqb hrg hpay
    generalize rgT s t x=F at*
    generalize Zaf p=D at*
    generalize Zas p=FT at*
    generalize decT n=N at*
    generalize Zfv q A=Y at*
    go_wp2_with fail
    refine(HPP.out _).mono ?_;rintro e w2 ⟨rfl,hb2⟩
    have hBx2:=hBx1.below hb2 hBx1.lt
    have hB2:=hB1.trans (hb2.mono hB1.size)
    clear c0 c1 c2 hBx1 hB1 hb2
    have c0:=hBx2.cell (i:=0) rfl
    have c1:=hBx2.cell (i:=1) rfl
    have c2:=hBx2.cell (i:=2) rfl
    simp only[Option.getD_some,Option.isSome_some]
    go_wp2_with fail
    refine(HSP.out _).mono ?_;rintro e w3 ⟨rfl,hb3⟩
    have hBx3:=hBx2.below hb3 hBx2.lt
    have hB3:=hB2.trans (hb3.mono hB2.size)
    clear c0 c1 c2 hBx2 hB2 hb3
    simp only[Option.getD_some,Option.isSome_some]
    go_wp2_with fail
    refine(HFR.out _).mono ?_;rintro e w4 ⟨rfl,hb4⟩
    have hBx4:=hBx3.below hb4 hBx3.lt
    have hB4:=hB3.trans (hb4.mono hB3.size)
    clear hBx3 hB3 hb4
    simp only[Option.getD_some,Option.isSome_some]
    go_wp2_with fail
    refine(HFL.out _).mono ?_;rintro e w5 ⟨rfl,hb5⟩
    have hBx5:=hBx4.below hb5 hBx4.lt
    have hB5:=hB4.trans (hb5.mono hB4.size)
    clear hBx4 hB4 hb5 m1 m2 hqn0 hqn1 hqq hqq2
    have c0:=hBx5.cell (i:=0) rfl
    have c1:=hBx5.cell (i:=1) rfl
    have c2:=hBx5.cell (i:=2) rfl
    have l0:((⟨#[32]⟩:ByteArray):ByteArray).size=1:=rfl
    have l1:((⟨#[10,102,105,110,100,32]⟩:ByteArray):ByteArray).size=6:=rfl
    have l2:((⟨#[10,102,114,97,109,101,32]⟩:ByteArray):ByteArray).size=7:=rfl
    have l3:((⟨#[10,111,112,101,110,32]⟩:ByteArray):ByteArray).size=6:=rfl
    have l4:((⟨#[10,112,114,111,116,101,99,116,32]⟩:ByteArray):ByteArray).size=9:=rfl
    have l5:((⟨#[10]⟩:ByteArray):ByteArray).size=1:=rfl
    have l6:((⟨#[111,107,10]⟩:ByteArray):ByteArray).size=3:=rfl
    have l7:((⟨#[114,101,103,105,115,116,101,114,32]⟩:ByteArray):ByteArray).size=9:=rfl
    have z1:((⟨#[114,101,103,105,115,116,101,114,32]⟩:ByteArray)++F:ByteArray).size=((⟨#[114,101,103,105,115,116,101,114,32]⟩:ByteArray):ByteArray).size+(F:ByteArray).size:=Zap _ _
    have z2:((⟨#[114,101,103,105,115,116,101,114,32]⟩:ByteArray)++F++(⟨#[10,102,114,97,109,101,32]⟩:ByteArray):ByteArray).size=((⟨#[114,101,103,105,115,116,101,114,32]⟩:ByteArray)++F:ByteArray).size+((⟨#[10,102,114,97,109,101,32]⟩:ByteArray):ByteArray).size:=Zap _ _
    have z3:((⟨#[114,101,103,105,115,116,101,114,32]⟩:ByteArray)++F++(⟨#[10,102,114,97,109,101,32]⟩:ByteArray)++D:ByteArray).size=((⟨#[114,101,103,105,115,116,101,114,32]⟩:ByteArray)++F++(⟨#[10,102,114,97,109,101,32]⟩:ByteArray):ByteArray).size+(D:ByteArray).size:=Zap _ _
    have z4:((⟨#[114,101,103,105,115,116,101,114,32]⟩:ByteArray)++F++(⟨#[10,102,114,97,109,101,32]⟩:ByteArray)++D++(⟨#[10,102,105,110,100,32]⟩:ByteArray):ByteArray).size=((⟨#[114,101,103,105,115,116,101,114,32]⟩:ByteArray)++F++(⟨#[10,102,114,97,109,101,32]⟩:ByteArray)++D:ByteArray).size+((⟨#[10,102,105,110,100,32]⟩:ByteArray):ByteArray).size:=Zap _ _
    have z5:((⟨#[114,101,103,105,115,116,101,114,32]⟩:ByteArray)++F++(⟨#[10,102,114,97,109,101,32]⟩:ByteArray)++D++(⟨#[10,102,105,110,100,32]⟩:ByteArray)++FT:ByteArray).size=((⟨#[114,101,103,105,115,116,101,114,32]⟩:ByteArray)++F++(⟨#[10,102,114,97,109,101,32]⟩:ByteArray)++D++(⟨#[10,102,105,110,100,32]⟩:ByteArray):ByteArray).size+(FT:ByteArray).size:=Zap _ _
    have z6:((⟨#[114,101,103,105,115,116,101,114,32]⟩:ByteArray)++F++(⟨#[10,102,114,97,109,101,32]⟩:ByteArray)++D++(⟨#[10,102,105,110,100,32]⟩:ByteArray)++FT++(⟨#[10,112,114,111,116,101,99,116,32]⟩:ByteArray):ByteArray).size=((⟨#[114,101,103,105,115,116,101,114,32]⟩:ByteArray)++F++(⟨#[10,102,114,97,109,101,32]⟩:ByteArray)++D++(⟨#[10,102,105,110,100,32]⟩:ByteArray)++FT:ByteArray).size+((⟨#[10,112,114,111,116,101,99,116,32]⟩:ByteArray):ByteArray).size:=Zap _ _
    have z7:((⟨#[114,101,103,105,115,116,101,114,32]⟩:ByteArray)++F++(⟨#[10,102,114,97,109,101,32]⟩:ByteArray)++D++(⟨#[10,102,105,110,100,32]⟩:ByteArray)++FT++(⟨#[10,112,114,111,116,101,99,116,32]⟩:ByteArray)++D:ByteArray).size=((⟨#[114,101,103,105,115,116,101,114,32]⟩:ByteArray)++F++(⟨#[10,102,114,97,109,101,32]⟩:ByteArray)++D++(⟨#[10,102,105,110,100,32]⟩:ByteArray)++FT++(⟨#[10,112,114,111,116,101,99,116,32]⟩:ByteArray):ByteArray).size+(D:ByteArray).size:=Zap _ _
    have z8:((⟨#[114,101,103,105,115,116,101,114,32]⟩:ByteArray)++F++(⟨#[10,102,114,97,109,101,32]⟩:ByteArray)++D++(⟨#[10,102,105,110,100,32]⟩:ByteArray)++FT++(⟨#[10,112,114,111,116,101,99,116,32]⟩:ByteArray)++D++(⟨#[32]⟩:ByteArray):ByteArray).size=((⟨#[114,101,103,105,115,116,101,114,32]⟩:ByteArray)++F++(⟨#[10,102,114,97,109,101,32]⟩:ByteArray)++D++(⟨#[10,102,105,110,100,32]⟩:ByteArray)++FT++(⟨#[10,112,114,111,116,101,99,116,32]⟩:ByteArray)++D:ByteArray).size+((⟨#[32]⟩:ByteArray):ByteArray).size:=Zap _ _
    have z9:((⟨#[114,101,103,105,115,116,101,114,32]⟩:ByteArray)++F++(⟨#[10,102,114,97,109,101,32]⟩:ByteArray)++D++(⟨#[10,102,105,110,100,32]⟩:ByteArray)++FT++(⟨#[10,112,114,111,116,101,99,116,32]⟩:ByteArray)++D++(⟨#[32]⟩:ByteArray)++N:ByteArray).size=((⟨#[114,101,103,105,115,116,101,114,32]⟩:ByteArray)++F++(⟨#[10,102,114,97,109,101,32]⟩:ByteArray)++D++(⟨#[10,102,105,110,100,32]⟩:ByteArray)++FT++(⟨#[10,112,114,111,116,101,99,116,32]⟩:ByteArray)++D++(⟨#[32]⟩:ByteArray):ByteArray).size+(N:ByteArray).size:=Zap _ _
    have z10:((⟨#[114,101,103,105,115,116,101,114,32]⟩:ByteArray)++F++(⟨#[10,102,114,97,109,101,32]⟩:ByteArray)++D++(⟨#[10,102,105,110,100,32]⟩:ByteArray)++FT++(⟨#[10,112,114,111,116,101,99,116,32]⟩:ByteArray)++D++(⟨#[32]⟩:ByteArray)++N++(⟨#[10,111,112,101,110,32]⟩:ByteArray):ByteArray).size=((⟨#[114,101,103,105,115,116,101,114,32]⟩:ByteArray)++F++(⟨#[10,102,114,97,109,101,32]⟩:ByteArray)++D++(⟨#[10,102,105,110,100,32]⟩:ByteArray)++FT++(⟨#[10,112,114,111,116,101,99,116,32]⟩:ByteArray)++D++(⟨#[32]⟩:ByteArray)++N:ByteArray).size+((⟨#[10,111,112,101,110,32]⟩:ByteArray):ByteArray).size:=Zap _ _
    have z11:((⟨#[114,101,103,105,115,116,101,114,32]⟩:ByteArray)++F++(⟨#[10,102,114,97,109,101,32]⟩:ByteArray)++D++(⟨#[10,102,105,110,100,32]⟩:ByteArray)++FT++(⟨#[10,112,114,111,116,101,99,116,32]⟩:ByteArray)++D++(⟨#[32]⟩:ByteArray)++N++(⟨#[10,111,112,101,110,32]⟩:ByteArray)++Y:ByteArray).size=((⟨#[114,101,103,105,115,116,101,114,32]⟩:ByteArray)++F++(⟨#[10,102,114,97,109,101,32]⟩:ByteArray)++D++(⟨#[10,102,105,110,100,32]⟩:ByteArray)++FT++(⟨#[10,112,114,111,116,101,99,116,32]⟩:ByteArray)++D++(⟨#[32]⟩:ByteArray)++N++(⟨#[10,111,112,101,110,32]⟩:ByteArray):ByteArray).size+(Y:ByteArray).size:=Zap _ _
    have z12:((⟨#[114,101,103,105,115,116,101,114,32]⟩:ByteArray)++F++(⟨#[10,102,114,97,109,101,32]⟩:ByteArray)++D++(⟨#[10,102,105,110,100,32]⟩:ByteArray)++FT++(⟨#[10,112,114,111,116,101,99,116,32]⟩:ByteArray)++D++(⟨#[32]⟩:ByteArray)++N++(⟨#[10,111,112,101,110,32]⟩:ByteArray)++Y++(⟨#[32]⟩:ByteArray):ByteArray).size=((⟨#[114,101,103,105,115,116,101,114,32]⟩:ByteArray)++F++(⟨#[10,102,114,97,109,101,32]⟩:ByteArray)++D++(⟨#[10,102,105,110,100,32]⟩:ByteArray)++FT++(⟨#[10,112,114,111,116,101,99,116,32]⟩:ByteArray)++D++(⟨#[32]⟩:ByteArray)++N++(⟨#[10,111,112,101,110,32]⟩:ByteArray)++Y:ByteArray).size+((⟨#[32]⟩:ByteArray):ByteArray).size:=Zap _ _
    have z13:((⟨#[114,101,103,105,115,116,101,114,32]⟩:ByteArray)++F++(⟨#[10,102,114,97,109,101,32]⟩:ByteArray)++D++(⟨#[10,102,105,110,100,32]⟩:ByteArray)++FT++(⟨#[10,112,114,111,116,101,99,116,32]⟩:ByteArray)++D++(⟨#[32]⟩:ByteArray)++N++(⟨#[10,111,112,101,110,32]⟩:ByteArray)++Y++(⟨#[32]⟩:ByteArray)++N:ByteArray).size=((⟨#[114,101,103,105,115,116,101,114,32]⟩:ByteArray)++F++(⟨#[10,102,114,97,109,101,32]⟩:ByteArray)++D++(⟨#[10,102,105,110,100,32]⟩:ByteArray)++FT++(⟨#[10,112,114,111,116,101,99,116,32]⟩:ByteArray)++D++(⟨#[32]⟩:ByteArray)++N++(⟨#[10,111,112,101,110,32]⟩:ByteArray)++Y++(⟨#[32]⟩:ByteArray):ByteArray).size+(N:ByteArray).size:=Zap _ _
    have z14:((⟨#[114,101,103,105,115,116,101,114,32]⟩:ByteArray)++F++(⟨#[10,102,114,97,109,101,32]⟩:ByteArray)++D++(⟨#[10,102,105,110,100,32]⟩:ByteArray)++FT++(⟨#[10,112,114,111,116,101,99,116,32]⟩:ByteArray)++D++(⟨#[32]⟩:ByteArray)++N++(⟨#[10,111,112,101,110,32]⟩:ByteArray)++Y++(⟨#[32]⟩:ByteArray)++N++(⟨#[10]⟩:ByteArray):ByteArray).size=((⟨#[114,101,103,105,115,116,101,114,32]⟩:ByteArray)++F++(⟨#[10,102,114,97,109,101,32]⟩:ByteArray)++D++(⟨#[10,102,105,110,100,32]⟩:ByteArray)++FT++(⟨#[10,112,114,111,116,101,99,116,32]⟩:ByteArray)++D++(⟨#[32]⟩:ByteArray)++N++(⟨#[10,111,112,101,110,32]⟩:ByteArray)++Y++(⟨#[32]⟩:ByteArray)++N:ByteArray).size+((⟨#[10]⟩:ByteArray):ByteArray).size:=Zap _ _
    have y1:((⟨#[111,107,10]⟩:ByteArray)++FT:ByteArray).size=((⟨#[111,107,10]⟩:ByteArray):ByteArray).size+(FT:ByteArray).size:=Zap _ _
    have y2:((⟨#[111,107,10]⟩:ByteArray)++FT++(⟨#[10]⟩:ByteArray):ByteArray).size=((⟨#[111,107,10]⟩:ByteArray)++FT:ByteArray).size+((⟨#[10]⟩:ByteArray):ByteArray).size:=Zap _ _
    have y3:((⟨#[111,107,10]⟩:ByteArray)++FT++(⟨#[10]⟩:ByteArray)++D:ByteArray).size=((⟨#[111,107,10]⟩:ByteArray)++FT++(⟨#[10]⟩:ByteArray):ByteArray).size+(D:ByteArray).size:=Zap _ _
    have y4:((⟨#[111,107,10]⟩:ByteArray)++FT++(⟨#[10]⟩:ByteArray)++D++(⟨#[10]⟩:ByteArray):ByteArray).size=((⟨#[111,107,10]⟩:ByteArray)++FT++(⟨#[10]⟩:ByteArray)++D:ByteArray).size+((⟨#[10]⟩:ByteArray):ByteArray).size:=Zap _ _
    have y5:((⟨#[111,107,10]⟩:ByteArray)++FT++(⟨#[10]⟩:ByteArray)++D++(⟨#[10]⟩:ByteArray)++q:ByteArray).size=((⟨#[111,107,10]⟩:ByteArray)++FT++(⟨#[10]⟩:ByteArray)++D++(⟨#[10]⟩:ByteArray):ByteArray).size+(q:ByteArray).size:=Zap _ _
    have y6:((⟨#[111,107,10]⟩:ByteArray)++FT++(⟨#[10]⟩:ByteArray)++D++(⟨#[10]⟩:ByteArray)++q++(⟨#[10]⟩:ByteArray):ByteArray).size=((⟨#[111,107,10]⟩:ByteArray)++FT++(⟨#[10]⟩:ByteArray)++D++(⟨#[10]⟩:ByteArray)++q:ByteArray).size+((⟨#[10]⟩:ByteArray):ByteArray).size:=Zap _ _
    have y7:((⟨#[111,107,10]⟩:ByteArray)++FT++(⟨#[10]⟩:ByteArray)++D++(⟨#[10]⟩:ByteArray)++q++(⟨#[10]⟩:ByteArray)++D:ByteArray).size=((⟨#[111,107,10]⟩:ByteArray)++FT++(⟨#[10]⟩:ByteArray)++D++(⟨#[10]⟩:ByteArray)++q++(⟨#[10]⟩:ByteArray):ByteArray).size+(D:ByteArray).size:=Zap _ _
    have y8:((⟨#[111,107,10]⟩:ByteArray)++FT++(⟨#[10]⟩:ByteArray)++D++(⟨#[10]⟩:ByteArray)++q++(⟨#[10]⟩:ByteArray)++D++(⟨#[10]⟩:ByteArray):ByteArray).size=((⟨#[111,107,10]⟩:ByteArray)++FT++(⟨#[10]⟩:ByteArray)++D++(⟨#[10]⟩:ByteArray)++q++(⟨#[10]⟩:ByteArray)++D:ByteArray).size+((⟨#[10]⟩:ByteArray):ByteArray).size:=Zap _ _
    go_wp2_with fail
    refine(HFM.out _ (HTB.out.below hB5)).mono ?_;rintro e w6 ⟨rfl,hb6⟩
    have hB6:=hB5.trans (hb6.mono hB5.size)
    clear hBx5 hB5 hb6 c0 c1 c2
    go_wp2_with fail
    refine(HDA.out _).mono ?_;rintro e w7 ⟨rfl,rfl⟩
    go_wp2_with fail
    refine(HDA.out _).mono ?_;rintro e w7 ⟨rfl,rfl⟩
    go_wp2_with fail
    refine(HNU.out _).mono ?_;rintro e w7 ⟨rfl,hb7⟩
    have hB7:=hB6.trans (hb7.mono hB6.size)
    clear hB6 hb7
    go_wp2_with fail
    refine(HNU.out _).mono ?_;rintro e w8 ⟨rfl,hb8⟩
    have hB8:=hB7.trans (hb8.mono hB7.size)
    clear hB7 hb8
    go_wp2_with fail
    refine(HDA.out _).mono ?_;rintro e w9 ⟨rfl,rfl⟩
    go_wp2_with fail
    refine(HDA.out _).mono ?_;rintro e w9 ⟨rfl,rfl⟩
    go_wp2_with fail
    refine(HIP.out _ _ (HTB.out.below hB8) (HMX.out.below hB8) (HFO.out.below hB8) (by omega)).mono ?_;rintro e w9 ⟨rfl,hb9⟩
    have hB9:=hB8.trans (hb9.mono hB8.size)
    rw[HL.out]
    generalize hO:((⟨#[111,107,10]⟩:ByteArray)++FT++(⟨#[10]⟩:ByteArray)++D++(⟨#[10]⟩:ByteArray)++q++(⟨#[10]⟩:ByteArray)++D++(⟨#[10]⟩:ByteArray):ByteArray)=O at*
    have hoo:(O.toList==O.toList)=true:=by simp
    clear y1 y2 y3 y4 y5 y6 y7 y8
    go_wp2_with fail
    go_ret
    exact⟨rfl,hB9⟩
  ·have hle:(1048576:Int)<(len1:Int):=by omega
   have hle0:¬(1048576:Int)<(len0:Int):=by omega
   clear hmax htab hforms
   go_enter Tryz.func7,Tryz.ntmps7
   go_wp2_with fail
   go_ret
   exact⟨rfl,Below.refl _ _⟩
 ·have hle:(1048576:Int)<(len0:Int):=by omega
  clear hmax htab hforms
  go_enter Tryz.func7,Tryz.ntmps7
  go_wp2_with fail
  go_ret
  exact⟨rfl,Below.refl _ _⟩
def laidL:List (String×DataW Unit):=[("math/bits.deBruijn32tab",Rows.laid_math_bits_deBruijn32tab),("math/bits.deBruijn64tab",Rows.laid_math_bits_deBruijn64tab),("internal/strconv.uint64pow10",Rows.laid_internal_strconv_uint64pow10),("unicode/utf8.acceptRanges",Rows.laid_unicode_utf8_acceptRanges),("loop.example/spreadspectrum/impl.forms",Rows.laid_loop_example_spreadspectrum_impl_forms),("unicode/utf8.first",Rows.laid_unicode_utf8_first)]
theorem Zfs {H:Type} {enc:TypeId×Value→H} {a:Assume} {C:Checked} {os:Os} {f:FuncId} {fn:Func} {s:ChangeSpec} {conds:List PathCond} {Zdt fresh handsOn again:Bool} {X:World→Array Value→Prop}
 (hX:∀(w w':World) (args:Array Value),w.heap=w'.heap→X w args→X w' args)
 (own:ownKnob C.prog.godebug=none) (started:os.Started) (noInit:C.prog.inits.idxOf? f=none) (hfn:C.prog.funcs[f]?=some fn)
 (witness:∃(w:World) (tape:Tape) (i:Input),w.os=os∧(w.forCall tape i).Shaped C.prog∧i.vars=[]∧Input.okWide C.prog (w.forCall tape i) .any w.heap.size f i∧
   ((s.pre enc C.prog fn conds Zdt (w.forCall tape i).memory i.args∧X (w.forCall tape i).memory i.args)∧sizedMet enc C.prog fn (OpenSpec.ofChange s) Zdt (w.forCall tape i).memory i.args)∧a.holds C.prog (lone (Frame.enter C.prog f i.args .normal) [] (w.forCall tape i)))
 (contract:∀(W:World) (base:Nat) (args:Array Value) (ds gs:List (DataW H)) (before:List MemPlace),
   (∀(j:Nat) t v,fn.params[j]?=some t→args[j]?=some v→Value.okWide C.prog W .any base t v)→
   DataW.Whole enc C.prog fn.params.toList s.vars Zdt W args.toList ds gs before→
   conds.all (PathCond.test C.prog ⟨fn.params.toList,ds,s.plain.varTypes C.prog,gs⟩)=true→
   X W args→W.ShapedOpen C.prog→
   Calls C.prog f args W fun e W'=>∃v,e= .returned v∧s.post enc C.prog fn Zdt fresh handsOn again W args v W'):
 ReturnsInHanded a C os f .any (fun w args=>(s.pre enc C.prog fn conds Zdt w args∧X w args)∧sizedMet enc C.prog fn (OpenSpec.ofChange s) Zdt w args) (s.post enc C.prog fn Zdt fresh handsOn again):=by
 refine returnsInHanded_of_calls own started noInit witness ?_
 intro w tape i _ hsh _ hok hpre hholds
 obtain⟨_,_,_,fn',hfn',_,_,_,_,hval⟩:=hok
 have e:fn'=fn:=Option.some.inj (hfn'.symm.trans hfn)
 subst e
 obtain⟨⟨⟨ds,gs,before,hw,hc⟩,hx⟩,hz⟩:=hpre
 have hw':=DataW.Whole.of_heap (w':=w.forCall tape i) (by rfl) hw
 refine(contract (w.forCall tape i) w.heap.size i.args ds gs before hval hw' hc (hX _ _ _ (by rfl) hx) hsh).mono fun e W' ⟨v,he,hp⟩=>?_
 subst he
 exact ChangeSpec.post_blind hp
theorem Zgr {W:World} (h:laidMetH Tryz.prog laidL W):Lib.TabIs Tryz.prog W "internal/strconv.uint64pow10" .u64 Lib.pow10Tab:=by
 have h1:=h.filter (fun x=>x.1== "internal/strconv.uint64pow10")
 rw[show laidL.filter (fun x=>x.1== "internal/strconv.uint64pow10")=[("internal/strconv.uint64pow10",Lib.tabData .u64 Lib.pow10Tab)]by kernel_rfl,MakeChecks.laidMetH_plain _ _ _ (by kernel_rfl)]at h1
 exact Lib.tabIs_of_head (g:=1) (t:=218) (e:=192) (n:=20) (by kernel_rfl) (by kernel_rfl) Tryz.underlying218 Tryz.underlying192 (by kernel_rfl) (by kernel_rfl) h1
theorem Zez {W:World} (h:laidMetH Tryz.prog laidL W):FormsW W∧∃b off c,W.var? Tryz.prog "loop.example/spreadspectrum/impl.forms" =some #[.slice (some ⟨b,off,none⟩) 28 c]:=by
 have h1:=h.filter (fun x=>x.1== "loop.example/spreadspectrum/impl.forms")
 rw[show laidL.filter (fun x=>x.1== "loop.example/spreadspectrum/impl.forms")=[("loop.example/spreadspectrum/impl.forms",Zqg)]by kernel_rfl,MakeChecks.laidMetH_plain _ _ _ (by kernel_rfl)]at h1
 exact Zll h1
theorem lifted (os:Os) (started:os.Started) (H:Type) (enc:TypeId×Value→H):
 ReturnsInHanded {} Tryz.checked os 7 .any (fun w args=>(Rows.fnScriptFrameSpec.pre enc Tryz.prog Tryz.f7 [] false w args∧laidMetH Tryz.prog laidL w)∧sizedMet enc Tryz.prog Tryz.f7 (OpenSpec.ofChange Rows.fnScriptFrameSpec) false w args)
  (Rows.fnScriptFrameSpec.post enc Tryz.prog Tryz.f7 false true false false):=by
 refine Zfs (C:=Tryz.checked) (X:=fun w _=>laidMetH Tryz.prog laidL w) (fun _ _ _ hh h=>h.of_heap hh) own started (by kernel_rfl) Tryz.func7
  (ChangeSpec.witness_shaped (enc:=enc) (C:=Tryz.checked) (os:=os) (X:=fun w _=>laidMetH Tryz.prog laidL w) false (World.laidAll Tryz.prog os laidL) #[.slice none 0 0,.slice none 0 0] 8 (World.laidAll_os _ _ _)
    (World.shaped_of_ZipB (by kernel_rfl) (by kernel_rfl)) (by kernel_rfl) (by kernel_rfl) (by kernel_rfl)
    (by rw[MakeChecks.laidMetH_plain _ _ _ (by kernel_rfl)];exact laidMet_laidAll _ (by kernel_rfl) (by kernel_rfl))) ?_
 intro W base args ds gs before hval0 hW hcnd hLd hSh
 have hval:∀(j:Nat) t v,Tryz.f7.params[j]?=some t→args[j]?=some v→Value.okWide Tryz.prog W .any base t v:=hval0
 have hW':=hW
 obtain⟨p,q,hA0,hV,rfl,hfz,hnd⟩:=hW
 have hA:DataW.TrodAll enc Tryz.prog W 0 (fun _=>true) true Tryz.f7.params.toList args.toList ds p:=hA0
 rw[Tryz.params7]at hA hval
 obtain⟨v0,vs0,d0,ds0,p0,q0,hargs,rfl,rfl,h0,r0⟩:=trodAll_cons hA
 obtain⟨v1,vs1,d1,ds1,p1,q1,rfl,rfl,rfl,h1,r1⟩:=trodAll_cons r0
 obtain⟨rfl,rfl,rfl⟩:=trodAll_nil r1
 obtain rfl:args= #[v0,v1]:=by cases args;simp_all
 have hV2:DataW.TrodVars enc Tryz.prog W (fun _=>true) ["loop.example/spreadspectrum/impl.forms"] gs q:=hV
 obtain⟨gv,tv,csv,fuv,dv,pv,rfl,hgv,htv,hvarv,hdv,rfl⟩:=trodVars_one hV2
 obtain rfl:=Option.some.inj (forms_g.symm.trans hgv)
 obtain rfl:=Option.some.inj (forms_t.symm.trans htv)
 have k0:=h0
 have lt0:∀x∈p0,x.block<W.heap.size:=by obtain⟨m,hm⟩:=k0;exact DataW.trod_lt m _ _ _ hm
 have k1:=h1
 have lt1:∀x∈p1,x.block<W.heap.size:=by obtain⟨m,hm⟩:=k1;exact DataW.trod_lt m _ _ _ hm
 obtain⟨a0,len0,cap0,rfl⟩:=okWide_slice Tryz.underlying22 (hval 0 22 v0 rfl rfl)
 obtain⟨z0,w0⟩:∃zs,Zy6 .u8 W a0 len0 cap0 zs:=by
  obtain⟨fuel,hf⟩:=h0
  rcases open_ints Tryz.underlying22 Tryz.underlying5 (by kernel_rfl) hf with ⟨hcs,_⟩|⟨x,l,c,zs,hcs,_,hl,hm,hz,_,hcell,hwz⟩
  ·simp[Value.cells]at hcs
   obtain⟨rfl,rfl,rfl⟩:=hcs
   exact⟨[],.inl ⟨rfl,rfl,rfl,rfl⟩⟩
  ·simp[Value.cells]at hcs
   obtain⟨rfl,rfl,rfl⟩:=hcs
   exact⟨zs,.inr ⟨_,rfl,hl,hm,by simpa using hz,hcell,hwz⟩⟩
 obtain⟨a1,len1,cap1,rfl⟩:=okWide_slice Tryz.underlying22 (hval 1 22 v1 rfl rfl)
 obtain⟨z1,w1⟩:∃zs,Zy6 .u8 W a1 len1 cap1 zs:=by
  obtain⟨fuel,hf⟩:=h1
  rcases open_ints Tryz.underlying22 Tryz.underlying5 (by kernel_rfl) hf with ⟨hcs,_⟩|⟨x,l,c,zs,hcs,_,hl,hm,hz,_,hcell,hwz⟩
  ·simp[Value.cells]at hcs
   obtain⟨rfl,rfl,rfl⟩:=hcs
   exact⟨[],.inl ⟨rfl,rfl,rfl,rfl⟩⟩
  ·simp[Value.cells]at hcs
   obtain⟨rfl,rfl,rfl⟩:=hcs
   exact⟨zs,.inr ⟨_,rfl,hl,hm,by simpa using hz,hcell,hwz⟩⟩
 have hmax:∃m,W.cell? ⟨2,0,none⟩=some (.int .i64 m):=cell_of_shapedOpen_int (zero:= #[.int .i64 0]) (t:=3) hSh (of_decide_eq_true (by kernel_rfl)) (by kernel_rfl) rfl (by kernel_rfl) (by kernel_rfl) Tryz.underlying3
 have htab:=Zgr hLd
 obtain⟨hforms,bv,ofv,cv,hvv⟩:=Zez hLd
 obtain rfl:=Option.some.inj (hvarv.symm.trans hvv)
 have hltv:∀x∈pv,x.block<W.heap.size:=fun x hx=>hW'.lt x (List.mem_append_right _ (List.mem_append_right _ hx))
 have hgvlt:0<W.heap.size:=hW'.lt (.cell 0 0) (List.mem_append_right _ (List.mem_append_left _ (MemPlace.mem_row.2 ⟨0,by simp,rfl⟩)))
 clear hA0 hval0
 refine(walk a0 len0 cap0 z0 a1 len1 cap1 z1 W hmax htab hforms w0 w1).mono fun e W' ⟨he,bel⟩=>?_
 subst he
 obtain⟨fv',hdv'⟩:=Below.trod Zij (by kernel_rfl) (of_decide_eq_true (by kernel_rfl)) (v:=.slice (some ⟨bv,ofv,none⟩) 28 cv) (⟨fuv,by simpa[Value.cells]using hdv⟩:DataW.Trod enc Tryz.prog W 0 (fun _=>true) true 170 (.slice (some ⟨bv,ofv,none⟩) 28 cv) dv pv) bel hltv
 have hv':=trodVars_mk1 (enc:=enc) (spare:=fun b=>decide (b<W.heap.size)) hgv htv (var?_below bel hgv hgvlt hvarv) (by simpa[Value.cells]using hdv')
 exact⟨_,rfl,_,_,_,[],_,_,hW',trodAll_mk1 (shut_bool Tryz.underlying4 _),(trodAll_cons_mk (Below.trod Zij (by kernel_rfl) (of_decide_eq_true (by kernel_rfl)) k0 bel lt0) (trodAll_cons_mk (Below.trod Zij (by kernel_rfl) (of_decide_eq_true (by kernel_rfl)) k1 bel lt1) trodAll_mk0)),hv',bel.frame _,fun h=>by cases h⟩
theorem f_ip:Tryz.prog.inPlace 7=Rows.fnScriptFrameRow.inPlace:=by kernel_rfl
theorem f_un:Tryz.prog.unfollowed 7=Rows.fnScriptFrameRow.unfollowed:=by kernel_rfl
theorem f_re:Tryz.prog.recurses 7=Rows.fnScriptFrameRow.recurses:=by kernel_rfl
theorem f_vn:Tryz.prog.varsNamed 7=Rows.fnScriptFrameRow.named:=by kernel_rfl
theorem Z87:joinedFacts Tryz.prog 7 Tryz.f7 Rows.fnScriptFrameSpec Rows.fnScriptFrameRow=true:=by
 unfold joinedFacts
 rw[f_ip,f_un,f_re,f_vn]
 kernel_rfl
theorem c_wf:Rows.fnScriptFrameRow.wfByText (OpenSpec.ofChange Rows.fnScriptFrameSpec)=true:=by kernel_rfl
theorem Zw1:Tryz.pinned.checked.prog.mainIs=some (((true, "5111a62a6ce459847250542d3812908d26069b192767d26f2024162e5316690b"):Bool×String).1,((true, "5111a62a6ce459847250542d3812908d26069b192767d26f2024162e5316690b"):Bool×String).2.toList):=by kernel_rfl
theorem Zrr:false=Tryz.pinned.checked.prog.looks []:=by kernel_rfl
theorem Zxm:false=Rows.fnScriptFrameRow.goesBy Tryz.pinned.checked.prog:=by kernel_rfl
theorem over:Rows.fnScriptFrameRow.holds Tryz.pinned (OpenSpec.ofChange Rows.fnScriptFrameSpec):=
 OpenClaim.holds_of_wide 7 Tryz.f7 rfl rfl rfl rfl rfl rfl rfl ⟨rfl,rfl,rfl,rfl,rfl⟩ rfl rfl rfl rfl rfl (by kernel_rfl) Tryz.func7 Z87
  (of_decide_eq_true (by kernel_rfl)) (by unfold Func.isWrapper;first|(rw[if_pos (by decide+kernel)];kernel_rfl)|(rw[if_neg (by decide+kernel)];exact⟨rfl,rfl⟩))
  (fun os started H enc _=>lifted os started H enc)
theorem card_holds:Rows.FnScriptFrameCardSaid:=
 Claim7.holds_tied_plain_at .later [] [.data,.data,.data,.data,.data,.pinned] true (true, "5111a62a6ce459847250542d3812908d26069b192767d26f2024162e5316690b") false
  over (fun _ h=>by cases h) c_wf (fun _ h=>by cases h) fnScriptFrame_row_tie rfl ⟨rfl,rfl⟩ Zw1 rfl
  (fun f fn hf hfn=>by
    obtain rfl:f=7:=Option.some.inj ((show Tryz.prog.funcNamed "loop.example/spreadspectrum/laws.FnScriptFrame" =some 7 by kernel_rfl).symm.trans hf) |>.symm
    obtain rfl:fn=Tryz.f7:=(Option.some.inj (Tryz.func7.symm.trans hfn)).symm
    exact⟨Zrr,fun j t ht=>by
     rw[Tryz.params7]at ht
     have hm:t∈([22,22]:List TypeId):=by simpa using Array.mem_of_getElem? ht
     have hall:(([22,22]:List TypeId).all fun u=>!Tryz.prog.wantsStandIn u)=true:=by kernel_rfl
     exact(show Tryz.prog.wantsStandIn t=false by simpa using List.all_eq_true.1 hall t hm)⟩)
  Zxm
#print axioms card_holds
end Go.Proofs.YtcjihfongfefoaaGreatDoor.fnScriptFrame
