/- The law FnScriptRegister holds for every input that the given row lets in: the program's answer is the reference's. No condition of its own. -/
import Derived.Test.YtcjihfongfefoaaGreatDoorRows
import Derived.WalkKit
import Derived.ProofKit
import Derived.OpenShut
import Derived.ShutString
import Derived.ChangeOld
import Derived.Below
import Derived.Lib.SmallJoins
import Derived.ChangeVars
import Derived.WalkSmall
import Derived.LaidMore
import Derived.Lay
import Derived.Stop.Joined
import Derived.SevenTiedAt
import Derived.Shelf.Vars
import Derived.Test.YtcjihfongfefoaaGreatDoorCards
import Derived.Test.YtcjihfongfefoaaGreatDoorTie
import Derived.Test.YtcjihfongfefoaaGreatDoorJ11
import Derived.Test.YtcjihfongfefoaaGreatDoorJ15
import Derived.Test.YtcjihfongfefoaaGreatDoorJ16
import Derived.Test.YtcjihfongfefoaaGreatDoorJ23
import Derived.Test.YtcjihfongfefoaaGreatDoorJ24
import Derived.Test.YtcjihfongfefoaaGreatDoorJ27
import Derived.Test.YtcjihfongfefoaaGreatDoorJ37
import Derived.Test.YtcjihfongfefoaaGreatDoorJ38
import Derived.Test.YtcjihfongfefoaaGreatDoorJ42
import Derived.Test.YtcjihfongfefoaaGreatDoorJ50
import Derived.Test.YtcjihfongfefoaaGreatDoorJ53
import Derived.Test.YtcjihfongfefoaaGreatDoorJ54
import Derived.Test.YtcjihfongfefoaaGreatDoorJ55
namespace Go.Proofs.YtcjihfongfefoaaGreatDoor.fnScriptRegister
open Go.ChangeShapes Go.WideShapes Go.ChangeAt Go.RowKit
open Go.ChangeMaps (open_string shut_string)
set_option linter.unusedVariables false
theorem own:ownKnob Tryz.prog.godebug=none:=by kernel_rfl
theorem Zij:laidOutB Tryz.prog=true:=by kernel_rfl
def Zy6 (k:IntKind) (w:World) (a:Option Addr) (len cap:Nat) (zs:List Int):Prop:=
 (a=none∧len=0∧cap=0∧zs=[])∨
 ∃x,a=some x∧len≤cap∧cap≤maxLen∧zs.length=cap∧(∀i,i<zs.length→w.cell? (x.add i)=some (.int k (zs.getD i 0)))∧∀n∈zs,(Lit.int k n).wf=true
theorem Zait (s t x:Int):I63 (perR s t x):=by
 unfold perR I63
 split
 ·have:=Zu0 (rgQ s.toNat t.toNat x.toNat);have:=Zni (rgQ s.toNat t.toNat x.toNat);omega
 ·omega
theorem Zadg (s t x:Int):I63 (Zfn s t x):=by
 unfold Zfn I63
 split
 ·have:=Zni (rgQ s.toNat t.toNat x.toNat);omega
 ·omega
theorem Zakt {s t x k:Int} {r:Int×Int×Int} (h:jmpR s t x k=some r):∃(X a b c:Int) (H:List Int),r=(s,t,X)∧I63 k∧I63 (perR s t x)∧I63 (Zfn s t x)∧rnR s t X 16=some (runB s t X)∧shR (runB s t X)=some (a,b,c)∧Zcz s t X 7 5=some H∧
 H.length≤300∧(∀y∈H,I63 y)∧((rgT a b c).size≤66∧(rgT s t x).size≤66∧(rgT s t X).size≤66∧(decT k).size≤21∧(decT (perR s t x)).size≤21∧(decT (Zfn s t x)).size≤21∧(runB s t X).size≤16∧(nmsT H).size≤6601)∧
 Zb4 ((⟨#[114,101,103,105,115,116,101,114,32]⟩:ByteArray)++rgT s t x++(⟨#[10,112,101,114,105,111,100,10,106,117,109,112,32]⟩:ByteArray)++decT k++(⟨#[10,98,105,116,115,32,49,54,10,115,104,111,114,116,101,115,116,32]⟩:ByteArray)++runB s t X++(⟨#[10,104,111,112,115,32,55,32,53,10]⟩:ByteArray))=
 (⟨#[111,107,10]⟩:ByteArray)++decT (perR s t x)++(⟨#[32]⟩:ByteArray)++decT (Zfn s t x)++(⟨#[10]⟩:ByteArray)++rgT s t X++(⟨#[10]⟩:ByteArray)++runB s t X++(⟨#[10]⟩:ByteArray)++rgT a b c++(⟨#[10]⟩:ByteArray)++nmsT H++(⟨#[10]⟩:ByteArray):=by
 obtain⟨hr,hk,hX⟩:=Zq9 h
 have hr2:regB s t (jmpX s t x k)=true:=by have:=Zrx h;rw[hX]at this;exact this
 rw[hX]at h
 generalize jmpX s t x k=X at*
 have hs:∃r,shR (runB s t X)=some r:=Option.isSome_iff_exists.1 (Zaj2 hr2)
 obtain⟨⟨a,b,c⟩,hs⟩:=hs
 have hh:Zcz s t X 7 5=some (hopL s.toNat t.toNat X.toNat 7 5):=Znv (by unfold Zgh;rw[hr2];rfl)
 have hp:=Zait s t x
 have hl:=Zadg s t x
 have hk3:I63 k:=⟨by omega,by omega⟩
 refine⟨X,a,b,c,_,hX,hk3,hp,hl,Zahh hr2,hs,hh,(Zmx hh).1,fun y hy=>?_,⟨Znx (a,b,c),Zk2 hr,Zk2 hr2,Zde ⟨by omega,by omega⟩,Zde (Zux s t x),Zde (Zpt s t x),Nat.le_of_eq (Zqf s t X),Zzc (Zmx hh).1 (Zmx hh).2⟩,?_⟩
 ·unfold hopL at hy
  obtain⟨i,_,rfl⟩:=List.mem_map.1 hy
  have:=Int.emod_nonneg (hopX s.toNat t.toNat X.toNat i:Int) (show(7:Int)≠0 by omega)
  have:=Int.emod_lt_of_pos (hopX s.toNat t.toNat X.toNat i:Int) (show(0:Int)<7 by omega)
  exact⟨by omega,by omega⟩
 ·rw[←Zafn s t x k X a b c (hopL s.toNat t.toNat X.toNat 7 5),←Zaiw s t x k X a b c (hopL s.toNat t.toNat X.toNat 7 5)]
  exact Z54 h hs hh
set_option maxRecDepth 100000
theorem walk (a0:Option Addr) (len0 cap0:Nat) (z0:List Int) (w:World) (hmax:∃m,w.cell? ⟨2,0,none⟩=some (.int .i64 m)) (htab:Lib.TabIs Tryz.prog w "internal/strconv.uint64pow10" .u64 Lib.pow10Tab) (hforms:FormsW w) (w0:Zy6 .u8 w a0 len0 cap0 z0):
 Calls Tryz.prog 6 #[.slice a0 len0 cap0] w fun e w'=>e= .returned (.bool true)∧Below w.heap.size w w':=by
 by_cases hn:len0≤1048576
 ·have hC:=Zoe w0 (by omega)
  have HMX:=Lib.hid (show MaxW w from hmax)
  have HTB:=Lib.hid (show TabW w from htab)
  have HFO:=Lib.hid hforms
  clear w0 hmax htab hforms
  go_enter Tryz.func6,Tryz.ntmps6
  go_wp2_with fail
  refine(Zmd hC).mono ?_;rintro e w1 ⟨s,t,x,k,rfl,hb1⟩
  clear hC
  have hA1:=Box.new w1 #[.int .i64 s,.int .i64 t,.int .i64 x] 46
  have hbl1:Below w1.heap.size w1 (w1.alloc (.cells #[.int .i64 s,.int .i64 t,.int .i64 x] 46)):=(Below.refl _ _).alloc (Nat.le_refl _) _
  have hB1:=hb1.trans (hbl1.mono hb1.size)
  clear hb1 hbl1
  have c0:=hA1.cell (i:=0) rfl
  have c1:=hA1.cell (i:=1) rfl
  have c2:=hA1.cell (i:=2) rfl
  cases hj:jmpR s t x k with
  |none=>
   have HT:=Lib.hid hj
   clear hj
   go_wp2_with fail
   refine(Zff s t x k _).mono ?_;rintro e w2 ⟨rfl,hb2⟩
   have hA2:=(hA1.below hb2 hA1.lt).alloc (.cells #[.int .i64 0,.int .i64 0,.int .i64 0] 46)
   have hX2:=Box.new w2 #[.int .i64 0,.int .i64 0,.int .i64 0] 46
   have hbl2:Below w2.heap.size w2 (w2.alloc (.cells #[.int .i64 0,.int .i64 0,.int .i64 0] 46)):=(Below.refl _ _).alloc (Nat.le_refl _) _
   have hB2':=hB1.trans (hb2.mono hB1.size)
   have hB2:=hB2'.trans (hbl2.mono hB2'.size)
   clear c0 c1 c2 hA1 hB1 hb2 hbl2 hB2'
   have c0:=hA2.cell (i:=0) rfl
   have c1:=hA2.cell (i:=1) rfl
   have c2:=hA2.cell (i:=2) rfl
   rw[HT.out]
   simp only[Option.getD_none,Option.isSome_none]
   go_wp2_with fail
   refine(Ze0 s t x k _).mono ?_;rintro e w3 ⟨rfl,hb3⟩
   have hX3:=(hX2.below hb3 hX2.lt).alloc (.cells #[.int .i64 0,.int .i64 0,.int .i64 0] 46)
   have hY3:=Box.new w3 #[.int .i64 0,.int .i64 0,.int .i64 0] 46
   have hB3':=hB2.trans (hb3.mono hB2.size)
   have hB3:=hB3'.alloc hB3'.size (.cells #[.int .i64 0,.int .i64 0,.int .i64 0] 46)
   clear c0 c1 c2 hA2 hB2 hb3 hX2 hB3'
   have d0:=hX3.cell (i:=0) rfl
   have d1:=hX3.cell (i:=1) rfl
   have d2:=hX3.cell (i:=2) rfl
   have e0:=hY3.cell (i:=0) rfl
   have e1:=hY3.cell (i:=1) rfl
   have e2:=hY3.cell (i:=2) rfl
   rw[HT.out]
   simp only[Option.getD_none,Option.isSome_none]
   go_wp2_with fail
   go_ret
   exact⟨rfl,hB3⟩
  |some r=>
   obtain⟨X,a,b,c,H,hrX,ik,ip,il,hrn,hsh,hho,hHl,hH6,⟨z1,z2,z3,z4,z5,z6,z7,z8⟩,hsc⟩:=Zakt hj
   subst hrX
   have HSC:=Lib.hid hsc
   have HJ:=Lib.hid (fun c=>Zff s t x k c)
   have HS:=Lib.hid (fun c=>Ze0 s t x k c)
   rw[hj]at HJ HS
   have HRN:=Lib.hid (fun c=>Zah4 s t X 16 c)
   rw[hrn,Option.getD_some]at HRN
   have HSH:=Lib.hid (fun c=>Zex (runB s t X) c)
   rw[hsh]at HSH
   have HHO:=Lib.hid (fun c=>Zi0 s t X 7 5 c)
   rw[hho]at HHO
   have HF1:=Lib.hid (fun c (ht:TabW c)=>Zb8 s t x c ht)
   have HF2:=Lib.hid (fun c (ht:TabW c)=>Zb8 s t X c ht)
   have HF3:=Lib.hid (fun d (ht:TabW d)=>Zb8 a b c d ht)
   have HPE:=Lib.hid (fun c=>Zn4 s t x c)
   have HLE:=Lib.hid (fun c=>Z4i s t x c)
   have HNK:=Lib.hid (fun c=>Zgj k c ik)
   have HNP:=Lib.hid (fun c=>Zgj (perR s t x) c ip)
   have HNL:=Lib.hid (fun c=>Zgj (Zfn s t x) c il)
   have HIP:=Lib.hid (fun(x:ByteArray) c (ht:TabW c) (hm:MaxW c) (hf:FormsW c) (hs:x.size≤1099511627776)=>Zln x c ht hm hf hs)
   have HI6:=Lib.hid hH6
   clear hj hsc hrn hsh hho ik ip il hH6
   generalize perR s t x=P at*
   generalize Zfn s t x=L at*
   generalize decT P=NP at*
   generalize decT L=NL at*
   generalize decT k=NK at*
   generalize rgT s t x=F1 at*
   generalize rgT s t X=F2 at*
   generalize rgT a b c=F3 at*
   generalize runB s t X=BT at*
   have HNH:=Lib.hid (fun ao n c w (h:Rd w ao n H) (h6:n≤1000000)=>@Z0q ao n c H w h HI6.out h6)
   generalize nmsT H=NH at*
   obtain⟨U1,hU1⟩:∃U,((⟨#[111,107,10]⟩:ByteArray)++NP:ByteArray)=U:=⟨_,rfl⟩
   have y1:U1.size≤3+NP.size:=by rw[←hU1,ByteArray.size_append];exact Nat.le_refl _
   have n1:¬9223372036854775807<3+NP.size:=by omega
   have HU1:=Lib.hid hU1
   clear hU1
   obtain⟨U2,hU2⟩:∃U,(U1++(⟨#[32]⟩:ByteArray):ByteArray)=U:=⟨_,rfl⟩
   have y2:U2.size≤U1.size+1:=by rw[←hU2,ByteArray.size_append];exact Nat.le_refl _
   have n2:¬9223372036854775807<U1.size+1:=by omega
   have HU2:=Lib.hid hU2
   clear hU2
   obtain⟨U3,hU3⟩:∃U,(U2++NL:ByteArray)=U:=⟨_,rfl⟩
   have y3:U3.size≤U2.size+NL.size:=by rw[←hU3,ByteArray.size_append];exact Nat.le_refl _
   have n3:¬9223372036854775807<U2.size+NL.size:=by omega
   have HU3:=Lib.hid hU3
   clear hU3
   obtain⟨U4,hU4⟩:∃U,(U3++(⟨#[10]⟩:ByteArray):ByteArray)=U:=⟨_,rfl⟩
   have y4:U4.size≤U3.size+1:=by rw[←hU4,ByteArray.size_append];exact Nat.le_refl _
   have n4:¬9223372036854775807<U3.size+1:=by omega
   have HU4:=Lib.hid hU4
   clear hU4
   obtain⟨U5,hU5⟩:∃U,(U4++F2:ByteArray)=U:=⟨_,rfl⟩
   have y5:U5.size≤U4.size+F2.size:=by rw[←hU5,ByteArray.size_append];exact Nat.le_refl _
   have n5:¬9223372036854775807<U4.size+F2.size:=by omega
   have HU5:=Lib.hid hU5
   clear hU5
   obtain⟨U6,hU6⟩:∃U,(U5++(⟨#[10]⟩:ByteArray):ByteArray)=U:=⟨_,rfl⟩
   have y6:U6.size≤U5.size+1:=by rw[←hU6,ByteArray.size_append];exact Nat.le_refl _
   have n6:¬9223372036854775807<U5.size+1:=by omega
   have HU6:=Lib.hid hU6
   clear hU6
   obtain⟨U7,hU7⟩:∃U,(U6++BT:ByteArray)=U:=⟨_,rfl⟩
   have y7:U7.size≤U6.size+BT.size:=by rw[←hU7,ByteArray.size_append];exact Nat.le_refl _
   have n7:¬9223372036854775807<U6.size+BT.size:=by omega
   have HU7:=Lib.hid hU7
   clear hU7
   obtain⟨U8,hU8⟩:∃U,(U7++(⟨#[10]⟩:ByteArray):ByteArray)=U:=⟨_,rfl⟩
   have y8:U8.size≤U7.size+1:=by rw[←hU8,ByteArray.size_append];exact Nat.le_refl _
   have n8:¬9223372036854775807<U7.size+1:=by omega
   have HU8:=Lib.hid hU8
   clear hU8
   obtain⟨U9,hU9⟩:∃U,(U8++F3:ByteArray)=U:=⟨_,rfl⟩
   have y9:U9.size≤U8.size+F3.size:=by rw[←hU9,ByteArray.size_append];exact Nat.le_refl _
   have n9:¬9223372036854775807<U8.size+F3.size:=by omega
   have HU9:=Lib.hid hU9
   clear hU9
   obtain⟨U10,hU10⟩:∃U,(U9++(⟨#[10]⟩:ByteArray):ByteArray)=U:=⟨_,rfl⟩
   have y10:U10.size≤U9.size+1:=by rw[←hU10,ByteArray.size_append];exact Nat.le_refl _
   have n10:¬9223372036854775807<U9.size+1:=by omega
   have HU10:=Lib.hid hU10
   clear hU10
   obtain⟨U11,hU11⟩:∃U,(U10++NH:ByteArray)=U:=⟨_,rfl⟩
   have y11:U11.size≤U10.size+NH.size:=by rw[←hU11,ByteArray.size_append];exact Nat.le_refl _
   have n11:¬9223372036854775807<U10.size+NH.size:=by omega
   have HU11:=Lib.hid hU11
   clear hU11
   obtain⟨U12,hU12⟩:∃U,(U11++(⟨#[10]⟩:ByteArray):ByteArray)=U:=⟨_,rfl⟩
   have y12:U12.size≤U11.size+1:=by rw[←hU12,ByteArray.size_append];exact Nat.le_refl _
   have n12:¬9223372036854775807<U11.size+1:=by omega
   have HU12:=Lib.hid hU12
   clear hU12
   have v1:((⟨#[114,101,103,105,115,116,101,114,32]⟩:ByteArray)++F1:ByteArray).size=((⟨#[114,101,103,105,115,116,101,114,32]⟩:ByteArray):ByteArray).size+(F1:ByteArray).size:=Zap _ _
   have v2:((⟨#[114,101,103,105,115,116,101,114,32]⟩:ByteArray)++F1++(⟨#[10,112,101,114,105,111,100,10,106,117,109,112,32]⟩:ByteArray):ByteArray).size=((⟨#[114,101,103,105,115,116,101,114,32]⟩:ByteArray)++F1:ByteArray).size+((⟨#[10,112,101,114,105,111,100,10,106,117,109,112,32]⟩:ByteArray):ByteArray).size:=Zap _ _
   have v3:((⟨#[114,101,103,105,115,116,101,114,32]⟩:ByteArray)++F1++(⟨#[10,112,101,114,105,111,100,10,106,117,109,112,32]⟩:ByteArray)++NK:ByteArray).size=((⟨#[114,101,103,105,115,116,101,114,32]⟩:ByteArray)++F1++(⟨#[10,112,101,114,105,111,100,10,106,117,109,112,32]⟩:ByteArray):ByteArray).size+(NK:ByteArray).size:=Zap _ _
   have v4:((⟨#[114,101,103,105,115,116,101,114,32]⟩:ByteArray)++F1++(⟨#[10,112,101,114,105,111,100,10,106,117,109,112,32]⟩:ByteArray)++NK++(⟨#[10,98,105,116,115,32,49,54,10,115,104,111,114,116,101,115,116,32]⟩:ByteArray):ByteArray).size=((⟨#[114,101,103,105,115,116,101,114,32]⟩:ByteArray)++F1++(⟨#[10,112,101,114,105,111,100,10,106,117,109,112,32]⟩:ByteArray)++NK:ByteArray).size+((⟨#[10,98,105,116,115,32,49,54,10,115,104,111,114,116,101,115,116,32]⟩:ByteArray):ByteArray).size:=Zap _ _
   have v5:((⟨#[114,101,103,105,115,116,101,114,32]⟩:ByteArray)++F1++(⟨#[10,112,101,114,105,111,100,10,106,117,109,112,32]⟩:ByteArray)++NK++(⟨#[10,98,105,116,115,32,49,54,10,115,104,111,114,116,101,115,116,32]⟩:ByteArray)++BT:ByteArray).size=((⟨#[114,101,103,105,115,116,101,114,32]⟩:ByteArray)++F1++(⟨#[10,112,101,114,105,111,100,10,106,117,109,112,32]⟩:ByteArray)++NK++(⟨#[10,98,105,116,115,32,49,54,10,115,104,111,114,116,101,115,116,32]⟩:ByteArray):ByteArray).size+(BT:ByteArray).size:=Zap _ _
   have v6:((⟨#[114,101,103,105,115,116,101,114,32]⟩:ByteArray)++F1++(⟨#[10,112,101,114,105,111,100,10,106,117,109,112,32]⟩:ByteArray)++NK++(⟨#[10,98,105,116,115,32,49,54,10,115,104,111,114,116,101,115,116,32]⟩:ByteArray)++BT++(⟨#[10,104,111,112,115,32,55,32,53,10]⟩:ByteArray):ByteArray).size=((⟨#[114,101,103,105,115,116,101,114,32]⟩:ByteArray)++F1++(⟨#[10,112,101,114,105,111,100,10,106,117,109,112,32]⟩:ByteArray)++NK++(⟨#[10,98,105,116,115,32,49,54,10,115,104,111,114,116,101,115,116,32]⟩:ByteArray)++BT:ByteArray).size+((⟨#[10,104,111,112,115,32,55,32,53,10]⟩:ByteArray):ByteArray).size:=Zap _ _
   have lt0:((⟨#[10,98,105,116,115,32,49,54,10,115,104,111,114,116,101,115,116,32]⟩:ByteArray):ByteArray).size=18:=rfl
   have lt1:((⟨#[10,104,111,112,115,32,55,32,53,10]⟩:ByteArray):ByteArray).size=10:=rfl
   have lt2:((⟨#[10,112,101,114,105,111,100,10,106,117,109,112,32]⟩:ByteArray):ByteArray).size=13:=rfl
   have lt3:((⟨#[114,101,103,105,115,116,101,114,32]⟩:ByteArray):ByteArray).size=9:=rfl
   have HSD:=Lib.hid (show Zb4 ((⟨#[114,101,103,105,115,116,101,114,32]⟩:ByteArray)++F1++(⟨#[10,112,101,114,105,111,100,10,106,117,109,112,32]⟩:ByteArray)++NK++(⟨#[10,98,105,116,115,32,49,54,10,115,104,111,114,116,101,115,116,32]⟩:ByteArray)++BT++(⟨#[10,104,111,112,115,32,55,32,53,10]⟩:ByteArray))=U12 by rw[HSC.out,HU1.out,HU2.out,HU3.out,HU4.out,HU5.out,HU6.out,HU7.out,HU8.out,HU9.out,HU10.out,HU11.out,HU12.out])
   clear HSC
   go_wp2_with fail
   refine(HJ.out _).mono ?_;rintro e w2 ⟨rfl,hb2⟩
   simp only[Option.getD_some,Option.isSome_some]
   have hA2:=(hA1.below hb2 hA1.lt).alloc (.cells #[.int .i64 s,.int .i64 t,.int .i64 X] 46)
   have hX2:=Box.new w2 #[.int .i64 s,.int .i64 t,.int .i64 X] 46
   have hB2':=hB1.trans (hb2.mono hB1.size)
   have hB2:=hB2'.alloc hB2'.size (.cells #[.int .i64 s,.int .i64 t,.int .i64 X] 46)
   clear c0 c1 c2 hA1 hB1 hb2 hB2'
   have c0:=hA2.cell (i:=0) rfl
   have c1:=hA2.cell (i:=1) rfl
   have c2:=hA2.cell (i:=2) rfl
   go_wp2_with fail
   refine(HS.out _).mono ?_;rintro e w3 ⟨rfl,hb3⟩
   simp only[Option.getD_some,Option.isSome_some]
   have hA3:=(hA2.below hb3 hA2.lt).alloc (.cells #[.int .i64 s,.int .i64 t,.int .i64 X] 46)
   have hX3:=(hX2.below hb3 hX2.lt).alloc (.cells #[.int .i64 s,.int .i64 t,.int .i64 X] 46)
   have hY3:=Box.new w3 #[.int .i64 s,.int .i64 t,.int .i64 X] 46
   have hB3':=hB2.trans (hb3.mono hB2.size)
   have hB3:=hB3'.alloc hB3'.size (.cells #[.int .i64 s,.int .i64 t,.int .i64 X] 46)
   clear c0 c1 c2 hA2 hX2 hB2 hb3 hB3'
   have d0:=hX3.cell (i:=0) rfl
   have d1:=hX3.cell (i:=1) rfl
   have d2:=hX3.cell (i:=2) rfl
   have e0:=hY3.cell (i:=0) rfl
   have e1:=hY3.cell (i:=1) rfl
   have e2:=hY3.cell (i:=2) rfl
   go_wp2_with fail
   refine(HRN.out _).mono ?_;rintro e w4 ⟨rfl,hb4⟩
   have hA4:=hA3.below hb4 hA3.lt
   have hX4:=hX3.below hb4 hX3.lt
   have hB4:=hB3.trans (hb4.mono hB3.size)
   clear d0 d1 d2 e0 e1 e2 hA3 hX3 hY3 hB3 hb4
   go_wp2_with fail
   refine(HSH.out _).mono ?_;rintro e w5 ⟨rfl,hb5⟩
   simp only[Option.getD_some,Option.isSome_some]
   have hA5:=(hA4.below hb5 hA4.lt).alloc (.cells #[.int .i64 a,.int .i64 b,.int .i64 c] 46)
   have hX5:=(hX4.below hb5 hX4.lt).alloc (.cells #[.int .i64 a,.int .i64 b,.int .i64 c] 46)
   have hZ5:=Box.new w5 #[.int .i64 a,.int .i64 b,.int .i64 c] 46
   have hB5':=hB4.trans (hb5.mono hB4.size)
   have hB5:=hB5'.alloc hB5'.size (.cells #[.int .i64 a,.int .i64 b,.int .i64 c] 46)
   clear hA4 hX4 hB4 hb5 hB5'
   have d0:=hX5.cell (i:=0) rfl
   have d1:=hX5.cell (i:=1) rfl
   have d2:=hX5.cell (i:=2) rfl
   go_wp2_with fail
   refine(HHO.out _).mono ?_;rintro e w6 ⟨ao,nh,ch,rfl,hoh,hb6⟩
   simp only[Option.getD_some,Option.isSome_some]at hoh ⊢
   have hrd:=hoh.rd
   have hnh:nh≤1000000:=by have:=hrd.1;omega
   have hA6:=hA5.below hb6 hA5.lt
   have hX6:=hX5.below hb6 hX5.lt
   have hZ6:=hZ5.below hb6 hZ5.lt
   have hB6:=hB5.trans (hb6.mono hB5.size)
   clear d0 d1 d2 hA5 hX5 hZ5 hB5 hb6 hoh
   have c0:=hA6.cell (i:=0) rfl
   have c1:=hA6.cell (i:=1) rfl
   have c2:=hA6.cell (i:=2) rfl
   go_wp2_with fail
   refine(HF1.out _ (HTB.out.below hB6)).mono ?_;rintro e w7 ⟨rfl,hb7⟩
   have hA7:=hA6.below hb7 hA6.lt
   have hX7:=hX6.below hb7 hX6.lt
   have hZ7:=hZ6.below hb7 hZ6.lt
   have hB7:=hB6.trans (hb7.mono hB6.size)
   have hr7:=hrd.below hb7
   clear c0 c1 c2 hA6 hX6 hZ6 hB6 hb7 hrd
   go_wp2_with fail
   refine(HNK.out _).mono ?_;rintro e w8 ⟨rfl,hb8⟩
   have hA8:=hA7.below hb8 hA7.lt
   have hX8:=hX7.below hb8 hX7.lt
   have hZ8:=hZ7.below hb8 hZ7.lt
   have hB8:=hB7.trans (hb8.mono hB7.size)
   have hr8:=hr7.below hb8
   clear hA7 hX7 hZ7 hB7 hb8 hr7
   go_wp2_with fail
   refine Zau 100 (fun _ w'=>Below w8.heap.size w8 w') (by kernel_rfl) (by kernel_rfl) (Below.refl _ _).drew ?_
   refine sv (.agg #[.int .i64 s,.int .i64 t,.int .i64 x]) (fun b w1 hs=>?_) ?_
   ·have q:=hA8.below hs hA8.lt;have q0:=q.cell (i:=0) rfl;have q1:=q.cell (i:=1) rfl;have q2:=q.cell (i:=2) rfl
    go_simp
   refine sc (.int .i64 P) 30 (#[.agg #[.int .i64 s,.int .i64 t,.int .i64 x]]) (fun b w1 hs=>?_) ?_
   ·exact(HPE.out _).mono fun e w2 hr=>⟨hr.1,hs.trans (hr.2.mono hs.size)⟩
   refine sc (.string NP) 17 (#[.int .i64 P]) (fun b w1 hs=>?_) ?_
   ·exact(HNP.out _).mono fun e w2 hr=>⟨hr.1,hs.trans (hr.2.mono hs.size)⟩
   refine sv (.string ((⟨#[111,107,10]⟩:ByteArray)++NP)) (fun b w1 hs=>?_) ?_
   ·go_simp
   rw[HU1.out]
   refine sv (.string (U1++(⟨#[32]⟩:ByteArray))) (fun b w1 hs=>?_) ?_
   ·go_simp
   rw[HU2.out]
   refine sv (.agg #[.int .i64 s,.int .i64 t,.int .i64 x]) (fun b w1 hs=>?_) ?_
   ·have q:=hA8.below hs hA8.lt;have q0:=q.cell (i:=0) rfl;have q1:=q.cell (i:=1) rfl;have q2:=q.cell (i:=2) rfl
    go_simp
   refine sc (.int .i64 L) 31 (#[.agg #[.int .i64 s,.int .i64 t,.int .i64 x]]) (fun b w1 hs=>?_) ?_
   ·exact(HLE.out _).mono fun e w2 hr=>⟨hr.1,hs.trans (hr.2.mono hs.size)⟩
   refine sc (.string NL) 17 (#[.int .i64 L]) (fun b w1 hs=>?_) ?_
   ·exact(HNL.out _).mono fun e w2 hr=>⟨hr.1,hs.trans (hr.2.mono hs.size)⟩
   refine sv (.string (U2++NL)) (fun b w1 hs=>?_) ?_
   ·go_simp
   rw[HU3.out]
   refine sv (.string (U3++(⟨#[10]⟩:ByteArray))) (fun b w1 hs=>?_) ?_
   ·go_simp
   rw[HU4.out]
   refine sv (.agg #[.int .i64 s,.int .i64 t,.int .i64 X]) (fun b w1 hs=>?_) ?_
   ·have q:=hX8.below hs hX8.lt;have q0:=q.cell (i:=0) rfl;have q1:=q.cell (i:=1) rfl;have q2:=q.cell (i:=2) rfl
    go_simp
   refine sc (.string F2) 29 (#[.agg #[.int .i64 s,.int .i64 t,.int .i64 X]]) (fun b w1 hs=>?_) ?_
   ·exact(HF2.out _ (HTB.out.below (hB8.trans (hs.mono hB8.size)))).mono fun e w2 hr=>⟨hr.1,hs.trans (hr.2.mono hs.size)⟩
   refine sv (.string (U4++F2)) (fun b w1 hs=>?_) ?_
   ·go_simp
   rw[HU5.out]
   refine sv (.string (U5++(⟨#[10]⟩:ByteArray))) (fun b w1 hs=>?_) ?_
   ·go_simp
   rw[HU6.out]
   refine sk (.string BT) ?_
   refine sv (.string (U6++BT)) (fun b w1 hs=>?_) ?_
   ·go_simp
   rw[HU7.out]
   refine sv (.string (U7++(⟨#[10]⟩:ByteArray))) (fun b w1 hs=>?_) ?_
   ·go_simp
   rw[HU8.out]
   refine sv (.agg #[.int .i64 a,.int .i64 b,.int .i64 c]) (fun b w1 hs=>?_) ?_
   ·have q:=hZ8.below hs hZ8.lt;have q0:=q.cell (i:=0) rfl;have q1:=q.cell (i:=1) rfl;have q2:=q.cell (i:=2) rfl
    go_simp
   refine sc (.string F3) 29 (#[.agg #[.int .i64 a,.int .i64 b,.int .i64 c]]) (fun b w1 hs=>?_) ?_
   ·exact(HF3.out _ (HTB.out.below (hB8.trans (hs.mono hB8.size)))).mono fun e w2 hr=>⟨hr.1,hs.trans (hr.2.mono hs.size)⟩
   refine sv (.string (U8++F3)) (fun b w1 hs=>?_) ?_
   ·go_simp
   rw[HU9.out]
   refine sv (.string (U9++(⟨#[10]⟩:ByteArray))) (fun b w1 hs=>?_) ?_
   ·go_simp
   rw[HU10.out]
   refine sk (.slice ao nh ch) ?_
   refine sc (.string NH) 15 (#[.slice ao nh ch]) (fun b w1 hs=>?_) ?_
   ·exact(HNH.out _ _ _ _ (hr8.below hs) hnh).mono fun e w2 hr=>⟨hr.1,hs.trans (hr.2.mono hs.size)⟩
   refine sv (.string (U10++NH)) (fun b w1 hs=>?_) ?_
   ·go_simp
   rw[HU11.out]
   refine sv (.string (U11++(⟨#[10]⟩:ByteArray))) (fun b w1 hs=>?_) ?_
   ·go_simp
   rw[HU12.out]
   refine sk (.string U12) ?_
   refine Zbo fun w9 hs=>?_
   have hB9:=hB8.trans (hs.mono hB8.size)
   have hoo:(U12.toList==U12.toList)=true:=by simp
   clear hs hA8 hX8 hZ8 hr8 hB8
   go_wp2_with fail
   refine(HIP.out _ _ (HTB.out.below hB9) (HMX.out.below hB9) (HFO.out.below hB9) (by omega)).mono ?_;rintro e w10 ⟨rfl,hb10⟩
   have hB10:=hB9.trans (hb10.mono hB9.size)
   rw[HSD.out]
   go_wp2_with fail
   go_ret
   exact⟨rfl,hB10⟩
 ·have hle:(1048576:Int)<(len0:Int):=by omega
  clear hmax htab hforms
  go_enter Tryz.func6,Tryz.ntmps6
  go_wp2_with fail
  go_ret
  exact⟨rfl,Below.refl _ _⟩
def laidL:List (String×DataW Unit):=[("math/bits.deBruijn32tab",Rows.laid_math_bits_deBruijn32tab),("math/bits.deBruijn64tab",Rows.laid_math_bits_deBruijn64tab),("internal/strconv.uint64pow10",Rows.laid_internal_strconv_uint64pow10),("unicode/utf8.acceptRanges",Rows.laid_unicode_utf8_acceptRanges),("loop.example/spreadspectrum/impl.forms",Rows.laid_loop_example_spreadspectrum_impl_forms),("unicode/utf8.first",Rows.laid_unicode_utf8_first)]
theorem Zfs {H:Type} {enc:TypeId×Value→H} {a:Assume} {C:Checked} {os:Os} {f:FuncId} {fn:Func} {s:ChangeSpec} {conds:List PathCond} {Zdt fresh handsOn again:Bool} {X:World→Array Value→Prop}
 (hX:∀(w w':World) (args:Array Value),w.heap=w'.heap→X w args→X w' args)
 (own:ownKnob C.prog.godebug=none) (started:os.Started) (noInit:C.prog.inits.idxOf? f=none) (hfn:C.prog.funcs[f]?=some fn)
 (witness:∃(w:World) (tape:Tape) (i:Input),w.os=os∧(w.forCall tape i).Shaped C.prog∧i.vars=[]∧Input.okWide C.prog (w.forCall tape i) .any w.heap.size f i∧
   ((s.pre enc C.prog fn conds Zdt (w.forCall tape i).memory i.args∧X (w.forCall tape i).memory i.args)∧sizedMet enc C.prog fn (OpenSpec.ofChange s) Zdt (w.forCall tape i).memory i.args)∧a.holds C.prog (lone (Frame.enter C.prog f i.args .normal) [] (w.forCall tape i)))
 (contract:∀(W:World) (base:Nat) (args:Array Value) (ds gs:List (DataW H)) (before:List MemPlace),
   (∀(j:Nat) t v,fn.params[j]?=some t→args[j]?=some v→Value.okWide C.prog W .any base t v)→
   DataW.Whole enc C.prog fn.params.toList s.vars Zdt W args.toList ds gs before→
   conds.all (PathCond.test C.prog ⟨fn.params.toList,ds,s.plain.varTypes C.prog,gs⟩)=true→
   X W args→W.ShapedOpen C.prog→
   Calls C.prog f args W fun e W'=>∃v,e= .returned v∧s.post enc C.prog fn Zdt fresh handsOn again W args v W'):
 ReturnsInHanded a C os f .any (fun w args=>(s.pre enc C.prog fn conds Zdt w args∧X w args)∧sizedMet enc C.prog fn (OpenSpec.ofChange s) Zdt w args) (s.post enc C.prog fn Zdt fresh handsOn again):=by
 refine returnsInHanded_of_calls own started noInit witness ?_
 intro w tape i _ hsh _ hok hpre hholds
 obtain⟨_,_,_,fn',hfn',_,_,_,_,hval⟩:=hok
 have e:fn'=fn:=Option.some.inj (hfn'.symm.trans hfn)
 subst e
 obtain⟨⟨⟨ds,gs,before,hw,hc⟩,hx⟩,hz⟩:=hpre
 have hw':=DataW.Whole.of_heap (w':=w.forCall tape i) (by rfl) hw
 refine(contract (w.forCall tape i) w.heap.size i.args ds gs before hval hw' hc (hX _ _ _ (by rfl) hx) hsh).mono fun e W' ⟨v,he,hp⟩=>?_
 subst he
 exact ChangeSpec.post_blind hp
theorem Zgr {W:World} (h:laidMetH Tryz.prog laidL W):Lib.TabIs Tryz.prog W "internal/strconv.uint64pow10" .u64 Lib.pow10Tab:=by
 have h1:=h.filter (fun x=>x.1== "internal/strconv.uint64pow10")
 rw[show laidL.filter (fun x=>x.1== "internal/strconv.uint64pow10")=[("internal/strconv.uint64pow10",Lib.tabData .u64 Lib.pow10Tab)]by kernel_rfl,MakeChecks.laidMetH_plain _ _ _ (by kernel_rfl)]at h1
 exact Lib.tabIs_of_head (g:=1) (t:=218) (e:=192) (n:=20) (by kernel_rfl) (by kernel_rfl) Tryz.underlying218 Tryz.underlying192 (by kernel_rfl) (by kernel_rfl) h1
theorem Zez {W:World} (h:laidMetH Tryz.prog laidL W):FormsW W∧∃b off c,W.var? Tryz.prog "loop.example/spreadspectrum/impl.forms" =some #[.slice (some ⟨b,off,none⟩) 28 c]:=by
 have h1:=h.filter (fun x=>x.1== "loop.example/spreadspectrum/impl.forms")
 rw[show laidL.filter (fun x=>x.1== "loop.example/spreadspectrum/impl.forms")=[("loop.example/spreadspectrum/impl.forms",Zqg)]by kernel_rfl,MakeChecks.laidMetH_plain _ _ _ (by kernel_rfl)]at h1
 exact Zll h1
theorem lifted (os:Os) (started:os.Started) (H:Type) (enc:TypeId×Value→H):
 ReturnsInHanded {} Tryz.checked os 6 .any (fun w args=>(Rows.fnScriptRegisterSpec.pre enc Tryz.prog Tryz.f6 [] false w args∧laidMetH Tryz.prog laidL w)∧sizedMet enc Tryz.prog Tryz.f6 (OpenSpec.ofChange Rows.fnScriptRegisterSpec) false w args)
  (Rows.fnScriptRegisterSpec.post enc Tryz.prog Tryz.f6 false true false false):=by
 refine Zfs (C:=Tryz.checked) (X:=fun w _=>laidMetH Tryz.prog laidL w) (fun _ _ _ hh h=>h.of_heap hh) own started (by kernel_rfl) Tryz.func6
  (ChangeSpec.witness_shaped (enc:=enc) (C:=Tryz.checked) (os:=os) (X:=fun w _=>laidMetH Tryz.prog laidL w) false (World.laidAll Tryz.prog os laidL) #[.slice none 0 0] 8 (World.laidAll_os _ _ _)
    (World.shaped_of_ZipB (by kernel_rfl) (by kernel_rfl)) (by kernel_rfl) (by kernel_rfl) (by kernel_rfl)
    (by rw[MakeChecks.laidMetH_plain _ _ _ (by kernel_rfl)];exact laidMet_laidAll _ (by kernel_rfl) (by kernel_rfl))) ?_
 intro W base args ds gs before hval0 hW hcnd hLd hSh
 have hval:∀(j:Nat) t v,Tryz.f6.params[j]?=some t→args[j]?=some v→Value.okWide Tryz.prog W .any base t v:=hval0
 have hW':=hW
 obtain⟨p,q,hA0,hV,rfl,hfz,hnd⟩:=hW
 have hA:DataW.TrodAll enc Tryz.prog W 0 (fun _=>true) true Tryz.f6.params.toList args.toList ds p:=hA0
 rw[Tryz.params6]at hA hval
 obtain⟨v0,vs0,d0,ds0,p0,q0,hargs,rfl,rfl,h0,r0⟩:=trodAll_cons hA
 obtain⟨rfl,rfl,rfl⟩:=trodAll_nil r0
 obtain rfl:args= #[v0]:=by cases args;simp_all
 have hV2:DataW.TrodVars enc Tryz.prog W (fun _=>true) ["loop.example/spreadspectrum/impl.forms"] gs q:=hV
 obtain⟨gv,tv,csv,fuv,dv,pv,rfl,hgv,htv,hvarv,hdv,rfl⟩:=trodVars_one hV2
 obtain rfl:=Option.some.inj (forms_g.symm.trans hgv)
 obtain rfl:=Option.some.inj (forms_t.symm.trans htv)
 have k0:=h0
 have lt0:∀x∈p0,x.block<W.heap.size:=by obtain⟨m,hm⟩:=k0;exact DataW.trod_lt m _ _ _ hm
 obtain⟨a0,len0,cap0,rfl⟩:=okWide_slice Tryz.underlying22 (hval 0 22 v0 rfl rfl)
 obtain⟨z0,w0⟩:∃zs,Zy6 .u8 W a0 len0 cap0 zs:=by
  obtain⟨fuel,hf⟩:=h0
  rcases open_ints Tryz.underlying22 Tryz.underlying5 (by kernel_rfl) hf with ⟨hcs,_⟩|⟨x,l,c,zs,hcs,_,hl,hm,hz,_,hcell,hwz⟩
  ·simp[Value.cells]at hcs
   obtain⟨rfl,rfl,rfl⟩:=hcs
   exact⟨[],.inl ⟨rfl,rfl,rfl,rfl⟩⟩
  ·simp[Value.cells]at hcs
   obtain⟨rfl,rfl,rfl⟩:=hcs
   exact⟨zs,.inr ⟨_,rfl,hl,hm,by simpa using hz,hcell,hwz⟩⟩
 have hmax:∃m,W.cell? ⟨2,0,none⟩=some (.int .i64 m):=cell_of_shapedOpen_int (zero:= #[.int .i64 0]) (t:=3) hSh (of_decide_eq_true (by kernel_rfl)) (by kernel_rfl) rfl (by kernel_rfl) (by kernel_rfl) Tryz.underlying3
 have htab:=Zgr hLd
 obtain⟨hforms,bv,ofv,cv,hvv⟩:=Zez hLd
 obtain rfl:=Option.some.inj (hvarv.symm.trans hvv)
 have hltv:∀x∈pv,x.block<W.heap.size:=fun x hx=>hW'.lt x (List.mem_append_right _ (List.mem_append_right _ hx))
 have hgvlt:0<W.heap.size:=hW'.lt (.cell 0 0) (List.mem_append_right _ (List.mem_append_left _ (MemPlace.mem_row.2 ⟨0,by simp,rfl⟩)))
 clear hA0 hval0
 refine(walk a0 len0 cap0 z0 W hmax htab hforms w0).mono fun e W' ⟨he,bel⟩=>?_
 subst he
 obtain⟨fv',hdv'⟩:=Below.trod Zij (by kernel_rfl) (of_decide_eq_true (by kernel_rfl)) (v:=.slice (some ⟨bv,ofv,none⟩) 28 cv) (⟨fuv,by simpa[Value.cells]using hdv⟩:DataW.Trod enc Tryz.prog W 0 (fun _=>true) true 170 (.slice (some ⟨bv,ofv,none⟩) 28 cv) dv pv) bel hltv
 have hv':=trodVars_mk1 (enc:=enc) (spare:=fun b=>decide (b<W.heap.size)) hgv htv (var?_below bel hgv hgvlt hvarv) (by simpa[Value.cells]using hdv')
 exact⟨_,rfl,_,_,_,[],_,_,hW',trodAll_mk1 (shut_bool Tryz.underlying4 _),(trodAll_cons_mk (Below.trod Zij (by kernel_rfl) (of_decide_eq_true (by kernel_rfl)) k0 bel lt0) trodAll_mk0),hv',bel.frame _,fun h=>by cases h⟩
theorem f_ip:Tryz.prog.inPlace 6=Rows.fnScriptRegisterRow.inPlace:=by kernel_rfl
theorem f_un:Tryz.prog.unfollowed 6=Rows.fnScriptRegisterRow.unfollowed:=by kernel_rfl
theorem f_re:Tryz.prog.recurses 6=Rows.fnScriptRegisterRow.recurses:=by kernel_rfl
theorem f_vn:Tryz.prog.varsNamed 6=Rows.fnScriptRegisterRow.named:=by kernel_rfl
theorem Z87:joinedFacts Tryz.prog 6 Tryz.f6 Rows.fnScriptRegisterSpec Rows.fnScriptRegisterRow=true:=by
 unfold joinedFacts
 rw[f_ip,f_un,f_re,f_vn]
 kernel_rfl
theorem c_wf:Rows.fnScriptRegisterRow.wfByText (OpenSpec.ofChange Rows.fnScriptRegisterSpec)=true:=by kernel_rfl
theorem Zw1:Tryz.pinned.checked.prog.mainIs=some (((true, "5111a62a6ce459847250542d3812908d26069b192767d26f2024162e5316690b"):Bool×String).1,((true, "5111a62a6ce459847250542d3812908d26069b192767d26f2024162e5316690b"):Bool×String).2.toList):=by kernel_rfl
theorem Zrr:false=Tryz.pinned.checked.prog.looks []:=by kernel_rfl
theorem Zxm:false=Rows.fnScriptRegisterRow.goesBy Tryz.pinned.checked.prog:=by kernel_rfl
theorem over:Rows.fnScriptRegisterRow.holds Tryz.pinned (OpenSpec.ofChange Rows.fnScriptRegisterSpec):=
 OpenClaim.holds_of_wide 6 Tryz.f6 rfl rfl rfl rfl rfl rfl rfl ⟨rfl,rfl,rfl,rfl,rfl⟩ rfl rfl rfl rfl rfl (by kernel_rfl) Tryz.func6 Z87
  (of_decide_eq_true (by kernel_rfl)) (by unfold Func.isWrapper;first|(rw[if_pos (by decide+kernel)];kernel_rfl)|(rw[if_neg (by decide+kernel)];exact⟨rfl,rfl⟩))
  (fun os started H enc _=>lifted os started H enc)
theorem card_holds:Rows.FnScriptRegisterCardSaid:=
 Claim7.holds_tied_plain_at .later [] [.data,.data,.data,.data,.data,.pinned] true (true, "5111a62a6ce459847250542d3812908d26069b192767d26f2024162e5316690b") false
  over (fun _ h=>by cases h) c_wf (fun _ h=>by cases h) fnScriptRegister_row_tie rfl ⟨rfl,rfl⟩ Zw1 rfl
  (fun f fn hf hfn=>by
    obtain rfl:f=6:=Option.some.inj ((show Tryz.prog.funcNamed "loop.example/spreadspectrum/laws.FnScriptRegister" =some 6 by kernel_rfl).symm.trans hf) |>.symm
    obtain rfl:fn=Tryz.f6:=(Option.some.inj (Tryz.func6.symm.trans hfn)).symm
    exact⟨Zrr,fun j t ht=>by
     rw[Tryz.params6]at ht
     have hm:t∈([22]:List TypeId):=by simpa using Array.mem_of_getElem? ht
     have hall:(([22]:List TypeId).all fun u=>!Tryz.prog.wantsStandIn u)=true:=by kernel_rfl
     exact(show Tryz.prog.wantsStandIn t=false by simpa using List.all_eq_true.1 hall t hm)⟩)
  Zxm
#print axioms card_holds
end Go.Proofs.YtcjihfongfefoaaGreatDoor.fnScriptRegister
