/- Rg -/
import Derived.Test.YtcjihfongfefoaaGreatDoorJ02
import Derived.IntWalk
namespace Go.Proofs.YtcjihfongfefoaaGreatDoor
open Go.RowKit
set_option maxHeartbeats 25600000
def parF:Nat→Nat→Nat
 |0,_=>0
 |f+1,n=>(n%2+parF f (n/2))%2
def par (n:Nat):Nat:=parF n n
theorem Zajs (f n:Nat):parF f n≤1:=by
 cases f with
 |zero=>simp[parF]
 |succ f=>simp only[parF];omega
theorem Z73 (f:Nat):parF f 0=0:=by
 induction f with
 |zero=>rfl
 |succ f ih=>simp[parF,ih]
theorem Z7v:∀(f n:Nat),n≤f→parF f n=parF n n:=by
 intro f
 induction f using Nat.strongRecOn with
 |ind f ih=>
  intro n hn
  cases f with
  |zero=>obtain rfl:n=0:=by omega
         rfl
  |succ f=>
   cases n with
   |zero=>rw[Z73];rfl
   |succ n=>
    simp only[parF]
    rw[ih f (by omega) ((n+1)/2) (by omega)]
    by_cases h:n=f
    ·subst h;rw[ih n (by omega) ((n+1)/2) (by omega)]
    ·rw[ih n (by omega) ((n+1)/2) (by omega)]
theorem Z2l {n:Nat} (h:0<n):par n=(n%2+par (n/2))%2:=by
 unfold par
 cases n with
 |zero=>omega
 |succ n=>rw[parF,Z7v n ((n+1)/2) (by omega)]
theorem Z3o:par 0=0:=rfl
theorem Zm4 (n:Nat):par n≤1:=Zajs _ _
theorem Ztf {k:IntKind} {a b:Int} (h:a=b):Value.int k a= .int k b:=by rw[h]
theorem Zh4 (a:Nat) (ha:a<4611686018427387904):(BitVec.ofInt 64 (a:Int)).toNat=a:=by
 rw[BitVec.ofInt_natCast,BitVec.toNat_ofNat];exact Nat.mod_eq_of_lt (by omega)
theorem Zhi (a:Nat) (ha:a<4611686018427387904):IntKind.i64.wrap (a:Int)=a:=by rw[IntKind.wrap_i64];omega
theorem Zfd (a b:Nat) (ha:a<4611686018427387904) (hb:b<4611686018427387904):bits .and .i64 (a:Int) (b:Int)=((a &&& b:Nat):Int):=by
 have hx:a &&& b<2^62:=Nat.and_lt_two_pow _ (by omega)
 show IntKind.i64.wrap ((BitVec.ofInt 64 (a:Int) &&& BitVec.ofInt 64 (b:Int)).toNat:Int)=_
 rw[BitVec.toNat_and,Zh4 a ha,Zh4 b hb,Zhi _ (by omega)]
theorem Z74 (a b:Nat) (ha:a<4611686018427387904) (hb:b<4611686018427387904):bits .or .i64 (a:Int) (b:Int)=((a ||| b:Nat):Int):=by
 have hx:a ||| b<2^62:=Nat.or_lt_two_pow (by omega) (by omega)
 show IntKind.i64.wrap ((BitVec.ofInt 64 (a:Int) ||| BitVec.ofInt 64 (b:Int)).toNat:Int)=_
 rw[BitVec.toNat_or,Zh4 a ha,Zh4 b hb,Zhi _ (by omega)]
theorem Zlc (a b:Nat) (ha:a<4611686018427387904) (hb:b<4611686018427387904):bits .xor .i64 (a:Int) (b:Int)=((a ^^^ b:Nat):Int):=by
 have hx:a ^^^ b<2^62:=Nat.xor_lt_two_pow (by omega) (by omega)
 show IntKind.i64.wrap ((BitVec.ofInt 64 (a:Int) ^^^ BitVec.ofInt 64 (b:Int)).toNat:Int)=_
 rw[BitVec.toNat_xor,Zh4 a ha,Zh4 b hb,Zhi _ (by omega)]
theorem Zz3 {q r:Nat} (hq:q≤1) (hr:r≤1):q ^^^ r=(q+r)%2:=by
 rcases(show q=0∨q=1 by omega)with rfl|rfl<;>rcases(show r=0∨r=1 by omega)with rfl|rfl<;>rfl
theorem Znm (n:Nat) (w:World) (hn:n≤1099511627776):Calls Tryz.prog 239 #[.int .i64 n] w fun e w'=>e= .returned (.int .i64 (par n))∧w=w':=by
 go_enter Tryz.func239,Tryz.ntmps239
 go_wp2
 go_loop [0,3] (fun x o=>∃m q:Nat,x= .int .i64 m∧o= .int .i64 q∧q≤1∧m≤n∧(q+par m)%2=par n) (fun x _=>(intOf x).toNat)
 case atStart=>exact⟨n,0,rfl,rfl,by omega,Nat.le_refl _,by have:=Zm4 n;omega⟩
 case round=>
  obtain⟨m,q,rfl,rfl,hq,hm,hs⟩:=hrel
  have HS:=Lib.hid hs;clear hs
  by_cases h0:0<m
  ·have HP:=Lib.hid (Z2l h0)
   go_wp2
   go_round
   case rel=>
    refine⟨m/2,(q+m%2)%2,Ztf (by omega),Ztf ?_,by omega,by omega,?_⟩
    ·rw[show(m:Int)%2=((m%2:Nat):Int)by omega,Zlc q (m%2) (by omega) (by omega),Zz3 hq (by omega)]
    ·have:=HS.out;have:=HP.out;omega
   case measure=>simp[intOf];omega
  ·obtain rfl:m=0:=by omega
   go_wp2
   go_ret
   have:=HS.out
   rw[Z3o]at this
   exact⟨Zd6 (by omega),rfl⟩
theorem Zva (n:Nat) (w:World) (hn:n≤1099511627776):Calls Tryz.prog 160 #[.int .i64 n] w fun e w'=>e= .returned (.int .i64 (par n))∧w=w':=by
 go_enter Tryz.func160,Tryz.ntmps160
 go_wp2
 go_loop [0,3] (fun x o=>∃m q:Nat,x= .int .i64 m∧o= .int .i64 q∧q≤1∧m≤n∧(q+par m)%2=par n) (fun x _=>(intOf x).toNat)
 case atStart=>exact⟨n,0,rfl,rfl,by omega,Nat.le_refl _,by have:=Zm4 n;omega⟩
 case round=>
  obtain⟨m,q,rfl,rfl,hq,hm,hs⟩:=hrel
  have HS:=Lib.hid hs;clear hs
  by_cases h0:0<m
  ·have HP:=Lib.hid (Z2l h0)
   go_wp2
   go_round
   case rel=>
    refine⟨m/2,(q+m%2)%2,Ztf (by omega),Ztf ?_,by omega,by omega,?_⟩
    ·have e1:=Zfd m 1 (by omega) (by omega)
     rw[Nat.and_one_is_mod]at e1
     have e2:bits .and .i64 (m:Int) 1=((m%2:Nat):Int):=e1
     rw[e2,Zlc q (m%2) (by omega) (by omega),Zz3 hq (by omega)]
    ·have:=HS.out;have:=HP.out;omega
   case measure=>simp[intOf];omega
  ·obtain rfl:m=0:=by omega
   go_wp2
   go_ret
   have:=HS.out
   rw[Z3o]at this
   exact⟨Zd6 (by omega),rfl⟩
def tapB (s t:Int):Bool:=inB s 2 8&&inB t 1 ((2:Int)^s.toNat-1)
def regB (s t x:Int):Bool:=tapB s t&&inB x 0 ((2:Int)^s.toNat-1)
theorem Zkm {s:Int} (h:2≤s∧s≤8):s=2∨s=3∨s=4∨s=5∨s=6∨s=7∨s=8:=by omega
theorem Zdd (s:Int) (w:World) (h:0≤s∧s≤8):Calls Tryz.prog 162 #[.int .i64 s] w fun e w'=>e= .returned (.int .i64 ((2:Int)^s.toNat))∧w=w':=by
 obtain⟨S,rfl⟩:=Int.eq_ofNat_of_zero_le h.1
 have hp:(2:Int)^S=((2^S:Nat):Int):=by rw[Int.natCast_pow];rfl
 have hP:2^S≤256:=Nat.le_trans (Nat.pow_le_pow_right (by omega) (show S≤8 by omega)) (by decide)
 have HE:=Lib.hid (show(2:Int)^((S:Int)).toNat=((2^S:Nat):Int)by rw[Int.toNat_natCast,hp])
 generalize 2^S=P at HE hp hP
 have hwA:IntKind.i64.wrap ((2:Int)^S)=(P:Int):=by rw[hp];exact IntWalk.i64_in _ (by omega)
 have hwB:IntKind.i64.wrap ((1:Int)*2^S)=(P:Int):=by rw[Int.one_mul];exact hwA
 have hwC:RowKit.wrap64 ((2:Int)^S)=(P:Int):=by unfold wrap64;rw[hp];omega
 clear hp
 go_enter Tryz.func162,Tryz.ntmps162
 go_wp2
 clear hwA hwB hwC
 go_ret
 exact⟨Zd6 HE.out.symm,rfl⟩
theorem Zkr (s t:Int) (w:World):Calls Tryz.prog 161 #[.int .i64 s,.int .i64 t] w fun e w'=>e= .returned (.bool (tapB s t))∧w=w':=by
 by_cases h1:inB s 2 8=true
 ·have h1':=inB_iff.1 h1
  have hr:=Lib.hid (show tapB s t=inB t 1 ((2:Int)^s.toNat-1)by simp[tapB,h1])
  have hp:4≤(2:Int)^s.toNat∧(2:Int)^s.toNat≤256:=by
   rcases Zkm h1' with rfl|rfl|rfl|rfl|rfl|rfl|rfl<;>decide
  have HT:=Lib.hid (Zdd s)
  generalize (2:Int)^s.toNat=p at hr hp HT
  go_enter Tryz.func161,Tryz.ntmps161
  go_wp2_with fail
  refine(Zbq _ _ _ _).mono ?_;rintro e w' ⟨rfl,rfl⟩
  go_wp2_with fail
  refine(HT.out _ (by omega)).mono ?_;rintro e w' ⟨rfl,rfl⟩
  go_wp2_with fail
  refine(Zbq _ _ _ _).mono ?_;rintro e w' ⟨rfl,rfl⟩
  go_wp2_with fail
  go_ret
  exact⟨Zav hr.out.symm,rfl⟩
 ·have h1':inB s 2 8=false:=by simpa using h1
  have hr:=Lib.hid (show tapB s t=false by simp[tapB,h1'])
  clear h1
  go_enter Tryz.func161,Tryz.ntmps161
  go_wp2_with fail
  refine(Zbq _ _ _ _).mono ?_;rintro e w' ⟨rfl,rfl⟩
  go_wp2_with fail
  go_ret
  exact⟨Zav hr.out.symm,rfl⟩
theorem Zg5 (s t:Int) (w:World):Calls Tryz.prog 159 #[.int .i64 s,.int .i64 t] w fun e w'=>e= .returned (.bool (tapB s t))∧w=w':=by
 by_cases h1:inB s 2 8=true
 ·have h1':=inB_iff.1 h1
  have hr:=Lib.hid (show tapB s t=inB t 1 ((2:Int)^s.toNat-1)by simp[tapB,h1])
  by_cases ht:0<t
  ·obtain⟨S,rfl⟩:=Int.eq_ofNat_of_zero_le (show 0≤s by omega)
   have hp:(2:Int)^S=((2^S:Nat):Int):=by rw[Int.natCast_pow];rfl
   have hP:2^S≤256:=Nat.le_trans (Nat.pow_le_pow_right (by omega) (show S≤8 by omega)) (by decide)
   rw[Int.toNat_natCast,hp]at hr
   generalize 2^S=P at hr hp hP
   have hwA:IntKind.i64.wrap ((2:Int)^S)=(P:Int):=by rw[hp];exact IntWalk.i64_in _ (by omega)
   have hwB:IntKind.i64.wrap ((1:Int)*2^S)=(P:Int):=by rw[Int.one_mul];exact hwA
   have hwC:RowKit.wrap64 ((2:Int)^S)=(P:Int):=by unfold wrap64;rw[hp];omega
   clear hp
   go_enter Tryz.func159,Tryz.ntmps159
   go_wp2
   clear hwA hwB hwC
   go_ret
   exact⟨Zav (by rw[hr.out,Bool.eq_iff_iff,inB_iff];simp;omega),rfl⟩
  ·go_enter Tryz.func159,Tryz.ntmps159
   go_wp2
   go_ret
   exact⟨Zav (by rw[hr.out];simp[inB];omega),rfl⟩
 ·have h1':inB s 2 8=false:=by simpa using h1
  have hr:=Lib.hid (show tapB s t=false by simp[tapB,h1'])
  by_cases h2:s<2
  ·go_enter Tryz.func159,Tryz.ntmps159
   go_wp2
   go_ret
   exact⟨Zav hr.out.symm,rfl⟩
  ·have h3:8<s:=by
    simp[inB]at h1';omega
   go_enter Tryz.func159,Tryz.ntmps159
   go_wp2
   go_ret
   exact⟨Zav hr.out.symm,rfl⟩
theorem Zd7 {P:Program} {f:FuncId} {args:Array Value} {w:World} {n:Nat} {v:Value}
 (h:Calls P f args (w.drewN n) fun e w'=>e= .returned v∧w.drewN n=w'):Calls P f args (w.drewN n) fun e w''=>e= .returned v∧∃m,w''=w.drewN m:=
 h.mono fun _ _ ⟨he,hm⟩=>⟨he,n,hm.symm⟩
theorem Zgv (w:World) (o:Obj) (n:Nat):Below w.heap.size w ((w.alloc o).drewN n):=below_drewN ((Below.refl _ _).alloc (Nat.le_refl _) _) n
theorem Zao (s t x:Int) (w:World):Calls Tryz.prog 78 #[.agg #[.int .i64 s,.int .i64 t,.int .i64 x]] w fun e w'=>e= .returned (.bool (regB s t x))∧Below w.heap.size w w':=by
 by_cases h1:tapB s t=true
 ·have h1':2≤s∧s≤8:=by simp only[tapB,Bool.and_eq_true]at h1;exact inB_iff.1 h1.1
  have hr:=Lib.hid (show regB s t x=inB x 0 ((2:Int)^s.toNat-1)by simp[regB,h1])
  have hp:4≤(2:Int)^s.toNat∧(2:Int)^s.toNat≤256:=by
   rcases Zkm h1' with rfl|rfl|rfl|rfl|rfl|rfl|rfl<;>decide
  have HT:=Lib.hid (Zdd s)
  generalize (2:Int)^s.toNat=p at hr hp HT
  have hw1:IntKind.i64.wrap (p-1)=p-1:=IntWalk.i64_in _ (by omega)
  go_enter Tryz.func78,Tryz.ntmps78
  go_wp2_with fail
  go_quiet ((first|(go_at_call 161;exact Zd7 (Zkr _ _ _))|(go_at_call 162;exact Zd7 (HT.out _ (by omega)))|(go_at_call 79;exact Zd7 (Zbq _ _ _ _))))
  go_wp2
  go_ret
  exact⟨Zav hr.out.symm,Zgv _ _ _⟩
 ·have h1':tapB s t=false:=by simpa using h1
  have hr:=Lib.hid (show regB s t x=false by simp[regB,h1'])
  clear h1
  go_enter Tryz.func78,Tryz.ntmps78
  go_wp2_with fail
  go_quiet ((first|(go_at_call 161;exact Zd7 (Zkr _ _ _))))
  go_wp2
  go_ret
  exact⟨Zav hr.out.symm,Zgv _ _ _⟩
theorem Zal (s t x:Int) (w:World):Calls Tryz.prog 75 #[.agg #[.int .i64 s,.int .i64 t,.int .i64 x]] w fun e w'=>e= .returned (.bool (regB s t x))∧Below w.heap.size w w':=by
 by_cases h1:tapB s t=true
 ·have h1':2≤s∧s≤8:=by simp only[tapB,Bool.and_eq_true]at h1;exact inB_iff.1 h1.1
  have hr:=Lib.hid (show regB s t x=inB x 0 ((2:Int)^s.toNat-1)by simp[regB,h1])
  by_cases h2:0≤x
  ·have h2':decide (0≤x)=true:=by simpa using h2
   obtain⟨S,rfl⟩:=Int.eq_ofNat_of_zero_le (show 0≤s by omega)
   have hp:(2:Int)^S=((2^S:Nat):Int):=by rw[Int.natCast_pow];rfl
   have hP:2^S≤256:=Nat.le_trans (Nat.pow_le_pow_right (by omega) (show S≤8 by omega)) (by decide)
   rw[Int.toNat_natCast,hp]at hr
   generalize 2^S=P at hr hp hP
   have hwA:IntKind.i64.wrap ((2:Int)^S)=(P:Int):=by rw[hp];exact IntWalk.i64_in _ (by omega)
   have hwB:IntKind.i64.wrap ((1:Int)*2^S)=(P:Int):=by rw[Int.one_mul];exact hwA
   clear hp
   go_enter Tryz.func75,Tryz.ntmps75
   go_wp2_with fail
   go_quiet ((first|(go_at_call 159;exact Zd7 (Zg5 _ _ _))))
   clear hwA hwB
   go_wp2
   go_ret
   exact⟨Zav (by rw[hr.out,Bool.eq_iff_iff,inB_iff];simp;omega),Zgv _ _ _⟩
  ·have h2':decide (0≤x)=false:=by simpa using h2
   go_enter Tryz.func75,Tryz.ntmps75
   go_wp2_with fail
   go_quiet ((first|(go_at_call 159;exact Zd7 (Zg5 _ _ _))))
   go_wp2
   go_ret
   exact⟨Zav (by rw[hr.out];simp[inB];omega),Zgv _ _ _⟩
 ·have h1':tapB s t=false:=by simpa using h1
  have hr:=Lib.hid (show regB s t x=false by simp[regB,h1'])
  clear h1
  go_enter Tryz.func75,Tryz.ntmps75
  go_wp2_with fail
  go_quiet ((first|(go_at_call 159;exact Zd7 (Zg5 _ _ _))))
  go_wp2
  go_ret
  exact⟨Zav hr.out.symm,Zgv _ _ _⟩
end Go.Proofs.YtcjihfongfefoaaGreatDoor
