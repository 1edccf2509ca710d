/- The law FnScriptSpread holds for every input that the given row lets in: the program's answer is the reference's. No condition of its own. -/
import Derived.Test.YtcjihfongfefoaaGreatDoorRows
import Derived.WalkKit
import Derived.ProofKit
import Derived.OpenShut
import Derived.ShutString
import Derived.ChangeOld
import Derived.Below
import Derived.Lib.SmallJoins
import Derived.ChangeVars
import Derived.WalkSmall
import Derived.LaidMore
import Derived.Lay
import Derived.Stop.Joined
import Derived.SevenTiedAt
import Derived.Shelf.Vars
import Derived.Test.YtcjihfongfefoaaGreatDoorCards
import Derived.Test.YtcjihfongfefoaaGreatDoorTie
import Derived.Test.YtcjihfongfefoaaGreatDoorJ12
import Derived.Test.YtcjihfongfefoaaGreatDoorJ16
import Derived.Test.YtcjihfongfefoaaGreatDoorJ23
import Derived.Test.YtcjihfongfefoaaGreatDoorJ24
import Derived.Test.YtcjihfongfefoaaGreatDoorJ37
import Derived.Test.YtcjihfongfefoaaGreatDoorJ38
import Derived.Test.YtcjihfongfefoaaGreatDoorJ50
import Derived.Test.YtcjihfongfefoaaGreatDoorJ53
import Derived.Test.YtcjihfongfefoaaGreatDoorJ54
import Derived.Test.YtcjihfongfefoaaGreatDoorJ57
namespace Go.Proofs.YtcjihfongfefoaaGreatDoor.fnScriptSpread
open Go.ChangeShapes Go.WideShapes Go.ChangeAt Go.RowKit
open Go.ChangeMaps (open_string shut_string)
set_option maxHeartbeats 25600000
set_option maxRecDepth 100000
set_option linter.unusedVariables false
theorem own:ownKnob Tryz.prog.godebug=none:=by kernel_rfl
theorem Zij:laidOutB Tryz.prog=true:=by kernel_rfl
def Zy6 (k:IntKind) (w:World) (a:Option Addr) (len cap:Nat) (zs:List Int):Prop:=
 (a=none∧len=0∧cap=0∧zs=[])∨
 ∃x,a=some x∧len≤cap∧cap≤maxLen∧zs.length=cap∧(∀i,i<zs.length→w.cell? (x.add i)=some (.int k (zs.getD i 0)))∧∀n∈zs,(Lit.int k n).wf=true
theorem sameB_self (l:List Int):Zz7 l l=true:=by simp[Zz7]
theorem spr_law {d c:ByteArray} {L:List Int} (h:sprR d c=some L) (hl:L.length≤800):∃D2 Z:List Int,dspR L c (d.size:Int)=some D2∧sclR L (-2)=some Z∧(∀y∈L,I63 y)∧(∀y∈D2,I63 y)∧(∀y∈Z,I63 y)∧D2.length≤600∧Z.length≤800∧
 ((nmsT L).size≤20000∧(nmsT D2).size≤20000∧(nmsT Z).size≤20000∧(Zaf d).size≤601∧c.size≤600∧(decT (d.size:Int)).size≤21∧d.size≤600)∧
 Zb4 ((⟨#[115,112,114,101,97,100,32]⟩:ByteArray)++Zaf d++(⟨#[32]⟩:ByteArray)++c++(⟨#[10,100,101,115,112,114,101,97,100,32]⟩:ByteArray)++c++(⟨#[32]⟩:ByteArray)++decT (d.size:Int)++(⟨#[10,114,101,99,101,105,118,101,32]⟩:ByteArray)++c++(⟨#[32,48,32]⟩:ByteArray)++decT (d.size:Int)++(⟨#[10,103,97,105,110,32,45,50,10,115,105,103,110,97,108,10]⟩:ByteArray))=nmsT L++(⟨#[10]⟩:ByteArray)++nmsT D2++(⟨#[10]⟩:ByteArray)++Zaf d++(⟨#[10]⟩:ByteArray)++nmsT Z++(⟨#[10]⟩:ByteArray)++nmsT Z++(⟨#[10]⟩:ByteArray):=by
 obtain⟨hd,hc,hz,hL⟩:=Zp8 h
 have hs:=Zno h
 have hd6:=Zem hd
 have hc2:=Zbg hc
 have hb1:bdL 1 L:=by rw[hL];exact Zib _ _
 have hsc:=Zacs h
 have hdsp:dspR L c (d.size:Int)=some (Zes L (Zab c) 0 d.size):=by
  rw[Zpa (by unfold Zi8;rw[hs,hc,Zax (by omega) (by omega)];rfl),Int.toNat_natCast]
 have hbz:∀x∈Zb9 (-2) L, -2≤x∧x≤2:=fun x hx=>by
  unfold Zb9 at hx
  obtain⟨y,hy,rfl⟩:=List.mem_map.1 hx
  have:=hb1 y hy
  omega
 have hbd:∀x∈Zes L (Zab c) 0 d.size,I63 x:=fun y hy=>by
  unfold Zes at hy
  obtain⟨i,_,rfl⟩:=List.mem_map.1 hy
  have:=Zvv hs (Zab c) (0+i*(Zab c).length) (Zab c).length
  rw[Zac]at this
  rw[Zac]
  exact⟨by omega,by omega⟩
 have l3:(Zb9 (-2) L).length=L.length:=Zh5 _ _
 obtain⟨e1,e2⟩:=Zxs hdsp
 refine⟨_,_,hdsp,hsc,fun y hy=>by have:=hb1 y hy;exact⟨by omega,by omega⟩,hbd,fun y hy=>by have:=hbz y hy;exact⟨by omega,by omega⟩,e1,by omega,⟨?_,?_,?_,by have:=Ze2 d;omega,by omega,Zde ⟨by omega,by omega⟩,by omega⟩,?_⟩
 ·have:=Zhn hl (fun y hy=>by have:=hb1 y hy;exact(⟨by omega,by omega⟩:I64 y));omega
 ·have:=Zhn e1 e2;omega
 ·have:=Zhn (l:=Zb9 (-2) L) (n:=800) (by omega) (fun y hy=>by have:=hbz y hy;exact(⟨by omega,by omega⟩:I64 y));omega
 ·rw[←spr_text d c L (Zes L (Zab c) 0 d.size) (Zb9 (-2) L),←spr_out d c L (Zes L (Zab c) 0 d.size) (Zb9 (-2) L)]
  exact spr_script h hl
set_option maxRecDepth 100000
theorem walk (a0:Option Addr) (len0 cap0:Nat) (z0:List Int) (w:World) (hmax:∃m,w.cell? ⟨2,0,none⟩=some (.int .i64 m)) (htab:Lib.TabIs Tryz.prog w "internal/strconv.uint64pow10" .u64 Lib.pow10Tab) (hforms:FormsW w) (w0:Zy6 .u8 w a0 len0 cap0 z0):
 Calls Tryz.prog 8 #[.slice a0 len0 cap0] w fun e w'=>e= .returned (.bool true)∧Below w.heap.size w w':=by
 by_cases hn:len0≤1048576
 ·have hC:=Zoe w0 (by omega)
  have HMX:=Lib.hid (show MaxW w from hmax)
  have HTB:=Lib.hid (show TabW w from htab)
  have HFO:=Lib.hid hforms
  clear w0 hmax htab hforms
  go_enter Tryz.func8,Tryz.ntmps8
  go_wp2_with fail
  refine(Z7a hC).mono ?_;rintro e w1 ⟨d,c,rfl,hdz,hcz,hB1⟩
  clear hC
  have HSP:=Lib.hid (fun w=>Zjz d c w)
  have HSS:=Lib.hid (fun w=>Zvf d c w (by omega) (by omega))
  cases hsp:sprR d c with
  |none=>
   rw[hsp]at HSP HSS
   go_wp2_with fail
   refine(HSP.out _).mono ?_;rintro e w2 ⟨a2,n2,c2,rfl,ho2,hb2⟩
   simp only[Option.getD_none,Option.isSome_none]at ho2 ⊢
   have hB2:=hB1.trans (hb2.mono hB1.size)
   have hr2:=ho2.rd
   clear ho2 hB1 hb2
   go_wp2_with fail
   refine(HSS.out _).mono ?_;rintro e w3 ⟨a3,n3,c3,rfl,ho3,hb3⟩
   simp only[Option.getD_none,Option.isSome_none]at ho3 ⊢
   have hB3:=hB2.trans (hb3.mono hB2.size)
   have hr3:=ho3.rd
   have hs3:=hr2.below hb3
   clear ho3 hB2 hb3 hr2
   go_wp2_with fail
   refine(ssInts_c hs3 hr3).mono ?_;rintro e w4 ⟨rfl,hq4⟩
   rw[sameB_self]
   have hB4:=hB3.trans (hq4.below _)
   have hr4:=hr3.qw hq4
   have hs4:=hs3.qw hq4
   clear hB3 hr3 hs3 hq4
   go_wp2_with fail
   refine(ssInts_c hs4 hr4).mono ?_;rintro e w5 ⟨rfl,hq5⟩
   rw[sameB_self]
   have hB5:=hB4.trans (hq5.below _)
   go_wp2_with fail
   go_ret
   exact⟨by first|rfl|simp,hB5⟩
  |some L=>
   rw[hsp]at HSP HSS
   go_wp2_with fail
   refine(HSP.out _).mono ?_;rintro e w2 ⟨a2,n2,c2,rfl,ho2,hb2⟩
   simp only[Option.getD_some,Option.isSome_some]at ho2 ⊢
   have hB2:=hB1.trans (hb2.mono hB1.size)
   have hr2:=ho2.rd
   clear ho2 hB1 hb2
   go_wp2_with fail
   refine(HSS.out _).mono ?_;rintro e w3 ⟨a3,n3,c3,rfl,ho3,hb3⟩
   simp only[Option.getD_some,Option.isSome_some]at ho3 ⊢
   have hB3:=hB2.trans (hb3.mono hB2.size)
   have hr3:=ho3.rd
   have hs3:=hr2.below hb3
   clear ho3 hB2 hb3 hr2
   go_wp2_with fail
   refine(ssInts_c hs3 hr3).mono ?_;rintro e w4 ⟨rfl,hq4⟩
   rw[sameB_self]
   have hB4:=hB3.trans (hq4.below _)
   have hr4:=hr3.qw hq4
   have hs4:=hs3.qw hq4
   clear hB3 hr3 hs3 hq4
   have hn2:=hs4.1
   by_cases hl:L.length≤800
   ·have hl':¬(800:Int)<(n2:Int):=by omega
    have hm2:n2≤800:=by omega
    clear hn2
    obtain⟨D2,Z,hds,hsc,hI1,hI2,hI3,l2,l3,⟨z1,z2,z3,z4,z5,z6,z7⟩,hscr⟩:=spr_law hsp hl
    have HDS:=Lib.hid (fun ao n' c' w h=>@Zi4 ao n' c' L w c (d.size:Int) h)
    have HSC:=Lib.hid (fun ao n' c' w h=>@Ziw ao n' c' L w (-2) h)
    rw[hds]at HDS
    rw[hsc]at HSC
    have HND:=Lib.hid (fun w=>Zgj (d.size:Int) w ⟨by omega,by omega⟩)
    have HDA:=Lib.hid (fun w=>Z3j d w)
    have HN1:=Lib.hid (fun ao n' c' w h h6=>@Z0q ao n' c' L w h hI1 h6)
    have HN2:=Lib.hid (fun ao n' c' w h h6=>@Z0q ao n' c' D2 w h hI2 h6)
    have HN3:=Lib.hid (fun ao n' c' w h h6=>@Z0q ao n' c' Z w h hI3 h6)
    have HIP:=Lib.hid (fun(x:ByteArray) c (ht:TabW c) (hm:MaxW c) (hf:FormsW c) (hs:x.size≤1099511627776)=>Zln x c ht hm hf hs)
    have HSD:=Lib.hid hscr
    clear hds hsc hI1 hI2 hI3 hscr hsp HSP HSS
    generalize Zaf d=D at*
    generalize decT (d.size:Int)=N at*
    generalize nmsT L=NL at*
    generalize nmsT D2=ND at*
    generalize nmsT Z=NZ at*
    have v1:((⟨#[115,112,114,101,97,100,32]⟩:ByteArray)++D:ByteArray).size=((⟨#[115,112,114,101,97,100,32]⟩:ByteArray):ByteArray).size+(D:ByteArray).size:=Zap _ _
    have v2:((⟨#[115,112,114,101,97,100,32]⟩:ByteArray)++D++(⟨#[32]⟩:ByteArray):ByteArray).size=((⟨#[115,112,114,101,97,100,32]⟩:ByteArray)++D:ByteArray).size+((⟨#[32]⟩:ByteArray):ByteArray).size:=Zap _ _
    have v3:((⟨#[115,112,114,101,97,100,32]⟩:ByteArray)++D++(⟨#[32]⟩:ByteArray)++c:ByteArray).size=((⟨#[115,112,114,101,97,100,32]⟩:ByteArray)++D++(⟨#[32]⟩:ByteArray):ByteArray).size+(c:ByteArray).size:=Zap _ _
    have v4:((⟨#[115,112,114,101,97,100,32]⟩:ByteArray)++D++(⟨#[32]⟩:ByteArray)++c++(⟨#[10,100,101,115,112,114,101,97,100,32]⟩:ByteArray):ByteArray).size=((⟨#[115,112,114,101,97,100,32]⟩:ByteArray)++D++(⟨#[32]⟩:ByteArray)++c:ByteArray).size+((⟨#[10,100,101,115,112,114,101,97,100,32]⟩:ByteArray):ByteArray).size:=Zap _ _
    have v5:((⟨#[115,112,114,101,97,100,32]⟩:ByteArray)++D++(⟨#[32]⟩:ByteArray)++c++(⟨#[10,100,101,115,112,114,101,97,100,32]⟩:ByteArray)++c:ByteArray).size=((⟨#[115,112,114,101,97,100,32]⟩:ByteArray)++D++(⟨#[32]⟩:ByteArray)++c++(⟨#[10,100,101,115,112,114,101,97,100,32]⟩:ByteArray):ByteArray).size+(c:ByteArray).size:=Zap _ _
    have v6:((⟨#[115,112,114,101,97,100,32]⟩:ByteArray)++D++(⟨#[32]⟩:ByteArray)++c++(⟨#[10,100,101,115,112,114,101,97,100,32]⟩:ByteArray)++c++(⟨#[32]⟩:ByteArray):ByteArray).size=((⟨#[115,112,114,101,97,100,32]⟩:ByteArray)++D++(⟨#[32]⟩:ByteArray)++c++(⟨#[10,100,101,115,112,114,101,97,100,32]⟩:ByteArray)++c:ByteArray).size+((⟨#[32]⟩:ByteArray):ByteArray).size:=Zap _ _
    have v7:((⟨#[115,112,114,101,97,100,32]⟩:ByteArray)++D++(⟨#[32]⟩:ByteArray)++c++(⟨#[10,100,101,115,112,114,101,97,100,32]⟩:ByteArray)++c++(⟨#[32]⟩:ByteArray)++N:ByteArray).size=((⟨#[115,112,114,101,97,100,32]⟩:ByteArray)++D++(⟨#[32]⟩:ByteArray)++c++(⟨#[10,100,101,115,112,114,101,97,100,32]⟩:ByteArray)++c++(⟨#[32]⟩:ByteArray):ByteArray).size+(N:ByteArray).size:=Zap _ _
    have v8:((⟨#[115,112,114,101,97,100,32]⟩:ByteArray)++D++(⟨#[32]⟩:ByteArray)++c++(⟨#[10,100,101,115,112,114,101,97,100,32]⟩:ByteArray)++c++(⟨#[32]⟩:ByteArray)++N++(⟨#[10,114,101,99,101,105,118,101,32]⟩:ByteArray):ByteArray).size=((⟨#[115,112,114,101,97,100,32]⟩:ByteArray)++D++(⟨#[32]⟩:ByteArray)++c++(⟨#[10,100,101,115,112,114,101,97,100,32]⟩:ByteArray)++c++(⟨#[32]⟩:ByteArray)++N:ByteArray).size+((⟨#[10,114,101,99,101,105,118,101,32]⟩:ByteArray):ByteArray).size:=Zap _ _
    have v9:((⟨#[115,112,114,101,97,100,32]⟩:ByteArray)++D++(⟨#[32]⟩:ByteArray)++c++(⟨#[10,100,101,115,112,114,101,97,100,32]⟩:ByteArray)++c++(⟨#[32]⟩:ByteArray)++N++(⟨#[10,114,101,99,101,105,118,101,32]⟩:ByteArray)++c:ByteArray).size=((⟨#[115,112,114,101,97,100,32]⟩:ByteArray)++D++(⟨#[32]⟩:ByteArray)++c++(⟨#[10,100,101,115,112,114,101,97,100,32]⟩:ByteArray)++c++(⟨#[32]⟩:ByteArray)++N++(⟨#[10,114,101,99,101,105,118,101,32]⟩:ByteArray):ByteArray).size+(c:ByteArray).size:=Zap _ _
    have v10:((⟨#[115,112,114,101,97,100,32]⟩:ByteArray)++D++(⟨#[32]⟩:ByteArray)++c++(⟨#[10,100,101,115,112,114,101,97,100,32]⟩:ByteArray)++c++(⟨#[32]⟩:ByteArray)++N++(⟨#[10,114,101,99,101,105,118,101,32]⟩:ByteArray)++c++(⟨#[32,48,32]⟩:ByteArray):ByteArray).size=((⟨#[115,112,114,101,97,100,32]⟩:ByteArray)++D++(⟨#[32]⟩:ByteArray)++c++(⟨#[10,100,101,115,112,114,101,97,100,32]⟩:ByteArray)++c++(⟨#[32]⟩:ByteArray)++N++(⟨#[10,114,101,99,101,105,118,101,32]⟩:ByteArray)++c:ByteArray).size+((⟨#[32,48,32]⟩:ByteArray):ByteArray).size:=Zap _ _
    have v11:((⟨#[115,112,114,101,97,100,32]⟩:ByteArray)++D++(⟨#[32]⟩:ByteArray)++c++(⟨#[10,100,101,115,112,114,101,97,100,32]⟩:ByteArray)++c++(⟨#[32]⟩:ByteArray)++N++(⟨#[10,114,101,99,101,105,118,101,32]⟩:ByteArray)++c++(⟨#[32,48,32]⟩:ByteArray)++N:ByteArray).size=((⟨#[115,112,114,101,97,100,32]⟩:ByteArray)++D++(⟨#[32]⟩:ByteArray)++c++(⟨#[10,100,101,115,112,114,101,97,100,32]⟩:ByteArray)++c++(⟨#[32]⟩:ByteArray)++N++(⟨#[10,114,101,99,101,105,118,101,32]⟩:ByteArray)++c++(⟨#[32,48,32]⟩:ByteArray):ByteArray).size+(N:ByteArray).size:=Zap _ _
    have v12:((⟨#[115,112,114,101,97,100,32]⟩:ByteArray)++D++(⟨#[32]⟩:ByteArray)++c++(⟨#[10,100,101,115,112,114,101,97,100,32]⟩:ByteArray)++c++(⟨#[32]⟩:ByteArray)++N++(⟨#[10,114,101,99,101,105,118,101,32]⟩:ByteArray)++c++(⟨#[32,48,32]⟩:ByteArray)++N++(⟨#[10,103,97,105,110,32,45,50,10,115,105,103,110,97,108,10]⟩:ByteArray):ByteArray).size=((⟨#[115,112,114,101,97,100,32]⟩:ByteArray)++D++(⟨#[32]⟩:ByteArray)++c++(⟨#[10,100,101,115,112,114,101,97,100,32]⟩:ByteArray)++c++(⟨#[32]⟩:ByteArray)++N++(⟨#[10,114,101,99,101,105,118,101,32]⟩:ByteArray)++c++(⟨#[32,48,32]⟩:ByteArray)++N:ByteArray).size+((⟨#[10,103,97,105,110,32,45,50,10,115,105,103,110,97,108,10]⟩:ByteArray):ByteArray).size:=Zap _ _
    have y1:(NL++(⟨#[10]⟩:ByteArray):ByteArray).size=(NL:ByteArray).size+((⟨#[10]⟩:ByteArray):ByteArray).size:=Zap _ _
    have y2:(NL++(⟨#[10]⟩:ByteArray)++ND:ByteArray).size=(NL++(⟨#[10]⟩:ByteArray):ByteArray).size+(ND:ByteArray).size:=Zap _ _
    have y3:(NL++(⟨#[10]⟩:ByteArray)++ND++(⟨#[10]⟩:ByteArray):ByteArray).size=(NL++(⟨#[10]⟩:ByteArray)++ND:ByteArray).size+((⟨#[10]⟩:ByteArray):ByteArray).size:=Zap _ _
    have y4:(NL++(⟨#[10]⟩:ByteArray)++ND++(⟨#[10]⟩:ByteArray)++D:ByteArray).size=(NL++(⟨#[10]⟩:ByteArray)++ND++(⟨#[10]⟩:ByteArray):ByteArray).size+(D:ByteArray).size:=Zap _ _
    have y5:(NL++(⟨#[10]⟩:ByteArray)++ND++(⟨#[10]⟩:ByteArray)++D++(⟨#[10]⟩:ByteArray):ByteArray).size=(NL++(⟨#[10]⟩:ByteArray)++ND++(⟨#[10]⟩:ByteArray)++D:ByteArray).size+((⟨#[10]⟩:ByteArray):ByteArray).size:=Zap _ _
    have y6:(NL++(⟨#[10]⟩:ByteArray)++ND++(⟨#[10]⟩:ByteArray)++D++(⟨#[10]⟩:ByteArray)++NZ:ByteArray).size=(NL++(⟨#[10]⟩:ByteArray)++ND++(⟨#[10]⟩:ByteArray)++D++(⟨#[10]⟩:ByteArray):ByteArray).size+(NZ:ByteArray).size:=Zap _ _
    have y7:(NL++(⟨#[10]⟩:ByteArray)++ND++(⟨#[10]⟩:ByteArray)++D++(⟨#[10]⟩:ByteArray)++NZ++(⟨#[10]⟩:ByteArray):ByteArray).size=(NL++(⟨#[10]⟩:ByteArray)++ND++(⟨#[10]⟩:ByteArray)++D++(⟨#[10]⟩:ByteArray)++NZ:ByteArray).size+((⟨#[10]⟩:ByteArray):ByteArray).size:=Zap _ _
    have y8:(NL++(⟨#[10]⟩:ByteArray)++ND++(⟨#[10]⟩:ByteArray)++D++(⟨#[10]⟩:ByteArray)++NZ++(⟨#[10]⟩:ByteArray)++NZ:ByteArray).size=(NL++(⟨#[10]⟩:ByteArray)++ND++(⟨#[10]⟩:ByteArray)++D++(⟨#[10]⟩:ByteArray)++NZ++(⟨#[10]⟩:ByteArray):ByteArray).size+(NZ:ByteArray).size:=Zap _ _
    have y9:(NL++(⟨#[10]⟩:ByteArray)++ND++(⟨#[10]⟩:ByteArray)++D++(⟨#[10]⟩:ByteArray)++NZ++(⟨#[10]⟩:ByteArray)++NZ++(⟨#[10]⟩:ByteArray):ByteArray).size=(NL++(⟨#[10]⟩:ByteArray)++ND++(⟨#[10]⟩:ByteArray)++D++(⟨#[10]⟩:ByteArray)++NZ++(⟨#[10]⟩:ByteArray)++NZ:ByteArray).size+((⟨#[10]⟩:ByteArray):ByteArray).size:=Zap _ _
    have lt0:((⟨#[32,48,32]⟩:ByteArray):ByteArray).size=3:=rfl
    have lt1:((⟨#[32]⟩:ByteArray):ByteArray).size=1:=rfl
    have lt2:((⟨#[10,100,101,115,112,114,101,97,100,32]⟩:ByteArray):ByteArray).size=10:=rfl
    have lt3:((⟨#[10,103,97,105,110,32,45,50,10,115,105,103,110,97,108,10]⟩:ByteArray):ByteArray).size=16:=rfl
    have lt4:((⟨#[10,114,101,99,101,105,118,101,32]⟩:ByteArray):ByteArray).size=9:=rfl
    have lt5:((⟨#[10]⟩:ByteArray):ByteArray).size=1:=rfl
    have lt6:((⟨#[115,112,114,101,97,100,32]⟩:ByteArray):ByteArray).size=7:=rfl
    go_wp2_with fail
    refine(HND.out _).mono ?_;rintro e w5 ⟨rfl,hb5⟩
    have hB5:=hB4.trans (hb5.mono hB4.size)
    have hs5:=hs4.below hb5
    clear hB4 hs4 hr4 hb5
    go_wp2_with fail
    refine(HDS.out _ _ _ _ hs5).mono ?_;rintro e w6 ⟨a6,n6,c6,rfl,ho6,hb6⟩
    simp only[Option.getD_some,Option.isSome_some]at ho6 ⊢
    have hB6:=hB5.trans (hb6.mono hB5.size)
    have hs6:=hs5.below hb6
    have hd6:=ho6.rd
    clear hB5 hs5 hb6 ho6
    go_wp2_with fail
    refine(HSC.out _ _ _ _ hs6).mono ?_;rintro e w7 ⟨a7,n7,c7,rfl,ho7,hb7⟩
    simp only[Option.getD_some,Option.isSome_some]at ho7 ⊢
    have hB7:=hB6.trans (hb7.mono hB6.size)
    have hs7:=hs6.below hb7
    have hd7:=hd6.below hb7
    have hz7:=ho7.rd
    clear hB6 hs6 hb7 hd6 ho7
    go_wp2_with fail
    refine(HDA.out _).mono ?_;rintro e w8 ⟨rfl,rfl⟩
    have hm6:n6≤600:=by have:=hd7.1;omega
    have hmz:n7≤800:=by have:=hz7.1;omega
    go_wp2_with fail
    refine(HN1.out _ _ _ _ hs7 (by omega)).mono ?_;rintro e w8 ⟨rfl,hb8⟩
    have hB8:=hB7.trans (hb8.mono hB7.size)
    have hd8:=hd7.below hb8
    have hz8:=hz7.below hb8
    clear hB7 hs7 hd7 hz7 hb8
    go_wp2_with fail
    refine(HN2.out _ _ _ _ hd8 (by omega)).mono ?_;rintro e w9 ⟨rfl,hb9⟩
    have hB9:=hB8.trans (hb9.mono hB8.size)
    have hz9:=hz8.below hb9
    clear hB8 hd8 hz8 hb9
    go_wp2_with fail
    refine(HDA.out _).mono ?_;rintro e w10 ⟨rfl,rfl⟩
    go_wp2_with fail
    refine(HN3.out _ _ _ _ hz9 (by omega)).mono ?_;rintro e w10 ⟨rfl,hb10⟩
    have hB10:=hB9.trans (hb10.mono hB9.size)
    have hz10:=hz9.below hb10
    clear hB9 hz9 hb10
    go_wp2_with fail
    refine(HN3.out _ _ _ _ hz10 (by omega)).mono ?_;rintro e w11 ⟨rfl,hb11⟩
    have hB11:=hB10.trans (hb11.mono hB10.size)
    clear hB10 hz10 hb11
    go_wp2_with fail
    refine(HIP.out _ _ (HTB.out.below hB11) (HMX.out.below hB11) (HFO.out.below hB11) (by omega)).mono ?_;rintro e w12 ⟨rfl,hb12⟩
    have hB12:=hB11.trans (hb12.mono hB11.size)
    rw[HSD.out]
    generalize hO:(NL++(⟨#[10]⟩:ByteArray)++ND++(⟨#[10]⟩:ByteArray)++D++(⟨#[10]⟩:ByteArray)++NZ++(⟨#[10]⟩:ByteArray)++NZ++(⟨#[10]⟩:ByteArray):ByteArray)=O at*
    have hoo:(O.toList==O.toList)=true:=by simp
    clear hO
    go_wp2_with fail
    go_ret
    exact⟨rfl,hB12⟩
   ·have hl':(800:Int)<(n2:Int):=by omega
    clear hn2
    go_wp2_with fail
    refine(ssInts_c hs4 hr4).mono ?_;rintro e w5 ⟨rfl,hq5⟩
    rw[sameB_self]
    have hB5:=hB4.trans (hq5.below _)
    go_wp2_with fail
    go_ret
    exact⟨by first|rfl|simp,hB5⟩
 ·have hle:(1048576:Int)<(len0:Int):=by omega
  clear hmax htab hforms
  go_enter Tryz.func8,Tryz.ntmps8
  go_wp2_with fail
  go_ret
  exact⟨rfl,Below.refl _ _⟩
def laidL:List (String×DataW Unit):=[("math/bits.deBruijn32tab",Rows.laid_math_bits_deBruijn32tab),("math/bits.deBruijn64tab",Rows.laid_math_bits_deBruijn64tab),("internal/strconv.uint64pow10",Rows.laid_internal_strconv_uint64pow10),("unicode/utf8.acceptRanges",Rows.laid_unicode_utf8_acceptRanges),("loop.example/spreadspectrum/impl.forms",Rows.laid_loop_example_spreadspectrum_impl_forms),("unicode/utf8.first",Rows.laid_unicode_utf8_first)]
theorem Zfs {H:Type} {enc:TypeId×Value→H} {a:Assume} {C:Checked} {os:Os} {f:FuncId} {fn:Func} {s:ChangeSpec} {conds:List PathCond} {Zdt fresh handsOn again:Bool} {X:World→Array Value→Prop}
 (hX:∀(w w':World) (args:Array Value),w.heap=w'.heap→X w args→X w' args)
 (own:ownKnob C.prog.godebug=none) (started:os.Started) (noInit:C.prog.inits.idxOf? f=none) (hfn:C.prog.funcs[f]?=some fn)
 (witness:∃(w:World) (tape:Tape) (i:Input),w.os=os∧(w.forCall tape i).Shaped C.prog∧i.vars=[]∧Input.okWide C.prog (w.forCall tape i) .any w.heap.size f i∧
   ((s.pre enc C.prog fn conds Zdt (w.forCall tape i).memory i.args∧X (w.forCall tape i).memory i.args)∧sizedMet enc C.prog fn (OpenSpec.ofChange s) Zdt (w.forCall tape i).memory i.args)∧a.holds C.prog (lone (Frame.enter C.prog f i.args .normal) [] (w.forCall tape i)))
 (contract:∀(W:World) (base:Nat) (args:Array Value) (ds gs:List (DataW H)) (before:List MemPlace),
   (∀(j:Nat) t v,fn.params[j]?=some t→args[j]?=some v→Value.okWide C.prog W .any base t v)→
   DataW.Whole enc C.prog fn.params.toList s.vars Zdt W args.toList ds gs before→
   conds.all (PathCond.test C.prog ⟨fn.params.toList,ds,s.plain.varTypes C.prog,gs⟩)=true→
   X W args→W.ShapedOpen C.prog→
   Calls C.prog f args W fun e W'=>∃v,e= .returned v∧s.post enc C.prog fn Zdt fresh handsOn again W args v W'):
 ReturnsInHanded a C os f .any (fun w args=>(s.pre enc C.prog fn conds Zdt w args∧X w args)∧sizedMet enc C.prog fn (OpenSpec.ofChange s) Zdt w args) (s.post enc C.prog fn Zdt fresh handsOn again):=by
 refine returnsInHanded_of_calls own started noInit witness ?_
 intro w tape i _ hsh _ hok hpre hholds
 obtain⟨_,_,_,fn',hfn',_,_,_,_,hval⟩:=hok
 have e:fn'=fn:=Option.some.inj (hfn'.symm.trans hfn)
 subst e
 obtain⟨⟨⟨ds,gs,before,hw,hc⟩,hx⟩,hz⟩:=hpre
 have hw':=DataW.Whole.of_heap (w':=w.forCall tape i) (by rfl) hw
 refine(contract (w.forCall tape i) w.heap.size i.args ds gs before hval hw' hc (hX _ _ _ (by rfl) hx) hsh).mono fun e W' ⟨v,he,hp⟩=>?_
 subst he
 exact ChangeSpec.post_blind hp
theorem Zgr {W:World} (h:laidMetH Tryz.prog laidL W):Lib.TabIs Tryz.prog W "internal/strconv.uint64pow10" .u64 Lib.pow10Tab:=by
 have h1:=h.filter (fun x=>x.1== "internal/strconv.uint64pow10")
 rw[show laidL.filter (fun x=>x.1== "internal/strconv.uint64pow10")=[("internal/strconv.uint64pow10",Lib.tabData .u64 Lib.pow10Tab)]by kernel_rfl,MakeChecks.laidMetH_plain _ _ _ (by kernel_rfl)]at h1
 exact Lib.tabIs_of_head (g:=1) (t:=218) (e:=192) (n:=20) (by kernel_rfl) (by kernel_rfl) Tryz.underlying218 Tryz.underlying192 (by kernel_rfl) (by kernel_rfl) h1
theorem Zez {W:World} (h:laidMetH Tryz.prog laidL W):FormsW W∧∃b off c,W.var? Tryz.prog "loop.example/spreadspectrum/impl.forms" =some #[.slice (some ⟨b,off,none⟩) 28 c]:=by
 have h1:=h.filter (fun x=>x.1== "loop.example/spreadspectrum/impl.forms")
 rw[show laidL.filter (fun x=>x.1== "loop.example/spreadspectrum/impl.forms")=[("loop.example/spreadspectrum/impl.forms",Zqg)]by kernel_rfl,MakeChecks.laidMetH_plain _ _ _ (by kernel_rfl)]at h1
 exact Zll h1
theorem lifted (os:Os) (started:os.Started) (H:Type) (enc:TypeId×Value→H):
 ReturnsInHanded {} Tryz.checked os 8 .any (fun w args=>(Rows.fnScriptSpreadSpec.pre enc Tryz.prog Tryz.f8 [] false w args∧laidMetH Tryz.prog laidL w)∧sizedMet enc Tryz.prog Tryz.f8 (OpenSpec.ofChange Rows.fnScriptSpreadSpec) false w args)
  (Rows.fnScriptSpreadSpec.post enc Tryz.prog Tryz.f8 false true false false):=by
 refine Zfs (C:=Tryz.checked) (X:=fun w _=>laidMetH Tryz.prog laidL w) (fun _ _ _ hh h=>h.of_heap hh) own started (by kernel_rfl) Tryz.func8
  (ChangeSpec.witness_shaped (enc:=enc) (C:=Tryz.checked) (os:=os) (X:=fun w _=>laidMetH Tryz.prog laidL w) false (World.laidAll Tryz.prog os laidL) #[.slice none 0 0] 8 (World.laidAll_os _ _ _)
    (World.shaped_of_ZipB (by kernel_rfl) (by kernel_rfl)) (by kernel_rfl) (by kernel_rfl) (by kernel_rfl)
    (by rw[MakeChecks.laidMetH_plain _ _ _ (by kernel_rfl)];exact laidMet_laidAll _ (by kernel_rfl) (by kernel_rfl))) ?_
 intro W base args ds gs before hval0 hW hcnd hLd hSh
 have hval:∀(j:Nat) t v,Tryz.f8.params[j]?=some t→args[j]?=some v→Value.okWide Tryz.prog W .any base t v:=hval0
 have hW':=hW
 obtain⟨p,q,hA0,hV,rfl,hfz,hnd⟩:=hW
 have hA:DataW.TrodAll enc Tryz.prog W 0 (fun _=>true) true Tryz.f8.params.toList args.toList ds p:=hA0
 rw[Tryz.params8]at hA hval
 obtain⟨v0,vs0,d0,ds0,p0,q0,hargs,rfl,rfl,h0,r0⟩:=trodAll_cons hA
 obtain⟨rfl,rfl,rfl⟩:=trodAll_nil r0
 obtain rfl:args= #[v0]:=by cases args;simp_all
 have hV2:DataW.TrodVars enc Tryz.prog W (fun _=>true) ["loop.example/spreadspectrum/impl.forms"] gs q:=hV
 obtain⟨gv,tv,csv,fuv,dv,pv,rfl,hgv,htv,hvarv,hdv,rfl⟩:=trodVars_one hV2
 obtain rfl:=Option.some.inj (forms_g.symm.trans hgv)
 obtain rfl:=Option.some.inj (forms_t.symm.trans htv)
 have k0:=h0
 have lt0:∀x∈p0,x.block<W.heap.size:=by obtain⟨m,hm⟩:=k0;exact DataW.trod_lt m _ _ _ hm
 obtain⟨a0,len0,cap0,rfl⟩:=okWide_slice Tryz.underlying22 (hval 0 22 v0 rfl rfl)
 obtain⟨z0,w0⟩:∃zs,Zy6 .u8 W a0 len0 cap0 zs:=by
  obtain⟨fuel,hf⟩:=h0
  rcases open_ints Tryz.underlying22 Tryz.underlying5 (by kernel_rfl) hf with ⟨hcs,_⟩|⟨x,l,c,zs,hcs,_,hl,hm,hz,_,hcell,hwz⟩
  ·simp[Value.cells]at hcs
   obtain⟨rfl,rfl,rfl⟩:=hcs
   exact⟨[],.inl ⟨rfl,rfl,rfl,rfl⟩⟩
  ·simp[Value.cells]at hcs
   obtain⟨rfl,rfl,rfl⟩:=hcs
   exact⟨zs,.inr ⟨_,rfl,hl,hm,by simpa using hz,hcell,hwz⟩⟩
 have hmax:∃m,W.cell? ⟨2,0,none⟩=some (.int .i64 m):=cell_of_shapedOpen_int (zero:= #[.int .i64 0]) (t:=3) hSh (of_decide_eq_true (by kernel_rfl)) (by kernel_rfl) rfl (by kernel_rfl) (by kernel_rfl) Tryz.underlying3
 have htab:=Zgr hLd
 obtain⟨hforms,bv,ofv,cv,hvv⟩:=Zez hLd
 obtain rfl:=Option.some.inj (hvarv.symm.trans hvv)
 have hltv:∀x∈pv,x.block<W.heap.size:=fun x hx=>hW'.lt x (List.mem_append_right _ (List.mem_append_right _ hx))
 have hgvlt:0<W.heap.size:=hW'.lt (.cell 0 0) (List.mem_append_right _ (List.mem_append_left _ (MemPlace.mem_row.2 ⟨0,by simp,rfl⟩)))
 clear hA0 hval0
 refine(walk a0 len0 cap0 z0 W hmax htab hforms w0).mono fun e W' ⟨he,bel⟩=>?_
 subst he
 obtain⟨fv',hdv'⟩:=Below.trod Zij (by kernel_rfl) (of_decide_eq_true (by kernel_rfl)) (v:=.slice (some ⟨bv,ofv,none⟩) 28 cv) (⟨fuv,by simpa[Value.cells]using hdv⟩:DataW.Trod enc Tryz.prog W 0 (fun _=>true) true 170 (.slice (some ⟨bv,ofv,none⟩) 28 cv) dv pv) bel hltv
 have hv':=trodVars_mk1 (enc:=enc) (spare:=fun b=>decide (b<W.heap.size)) hgv htv (var?_below bel hgv hgvlt hvarv) (by simpa[Value.cells]using hdv')
 exact⟨_,rfl,_,_,_,[],_,_,hW',trodAll_mk1 (shut_bool Tryz.underlying4 _),(trodAll_cons_mk (Below.trod Zij (by kernel_rfl) (of_decide_eq_true (by kernel_rfl)) k0 bel lt0) trodAll_mk0),hv',bel.frame _,fun h=>by cases h⟩
theorem f_ip:Tryz.prog.inPlace 8=Rows.fnScriptSpreadRow.inPlace:=by kernel_rfl
theorem f_un:Tryz.prog.unfollowed 8=Rows.fnScriptSpreadRow.unfollowed:=by kernel_rfl
theorem f_re:Tryz.prog.recurses 8=Rows.fnScriptSpreadRow.recurses:=by kernel_rfl
theorem f_vn:Tryz.prog.varsNamed 8=Rows.fnScriptSpreadRow.named:=by kernel_rfl
theorem Z87:joinedFacts Tryz.prog 8 Tryz.f8 Rows.fnScriptSpreadSpec Rows.fnScriptSpreadRow=true:=by
 unfold joinedFacts
 rw[f_ip,f_un,f_re,f_vn]
 kernel_rfl
theorem c_wf:Rows.fnScriptSpreadRow.wfByText (OpenSpec.ofChange Rows.fnScriptSpreadSpec)=true:=by kernel_rfl
theorem Zw1:Tryz.pinned.checked.prog.mainIs=some (((true, "5111a62a6ce459847250542d3812908d26069b192767d26f2024162e5316690b"):Bool×String).1,((true, "5111a62a6ce459847250542d3812908d26069b192767d26f2024162e5316690b"):Bool×String).2.toList):=by kernel_rfl
theorem Zrr:false=Tryz.pinned.checked.prog.looks []:=by kernel_rfl
theorem Zxm:false=Rows.fnScriptSpreadRow.goesBy Tryz.pinned.checked.prog:=by kernel_rfl
theorem over:Rows.fnScriptSpreadRow.holds Tryz.pinned (OpenSpec.ofChange Rows.fnScriptSpreadSpec):=
 OpenClaim.holds_of_wide 8 Tryz.f8 rfl rfl rfl rfl rfl rfl rfl ⟨rfl,rfl,rfl,rfl,rfl⟩ rfl rfl rfl rfl rfl (by kernel_rfl) Tryz.func8 Z87
  (of_decide_eq_true (by kernel_rfl)) (by unfold Func.isWrapper;first|(rw[if_pos (by decide+kernel)];kernel_rfl)|(rw[if_neg (by decide+kernel)];exact⟨rfl,rfl⟩))
  (fun os started H enc _=>lifted os started H enc)
theorem card_holds:Rows.FnScriptSpreadCardSaid:=
 Claim7.holds_tied_plain_at .later [] [.data,.data,.data,.data,.data,.pinned] true (true, "5111a62a6ce459847250542d3812908d26069b192767d26f2024162e5316690b") false
  over (fun _ h=>by cases h) c_wf (fun _ h=>by cases h) fnScriptSpread_row_tie rfl ⟨rfl,rfl⟩ Zw1 rfl
  (fun f fn hf hfn=>by
    obtain rfl:f=8:=Option.some.inj ((show Tryz.prog.funcNamed "loop.example/spreadspectrum/laws.FnScriptSpread" =some 8 by kernel_rfl).symm.trans hf) |>.symm
    obtain rfl:fn=Tryz.f8:=(Option.some.inj (Tryz.func8.symm.trans hfn)).symm
    exact⟨Zrr,fun j t ht=>by
     rw[Tryz.params8]at ht
     have hm:t∈([22]:List TypeId):=by simpa using Array.mem_of_getElem? ht
     have hall:(([22]:List TypeId).all fun u=>!Tryz.prog.wantsStandIn u)=true:=by kernel_rfl
     exact(show Tryz.prog.wantsStandIn t=false by simpa using List.all_eq_true.1 hall t hm)⟩)
  Zxm
#print axioms card_holds
end Go.Proofs.YtcjihfongfefoaaGreatDoor.fnScriptSpread
