/- The law FnScriptCell holds for every input that the given row lets in: the program's answer is the reference's. No condition of its own. -/
import Derived.Test.YtcjihfongfefoaaGreatDoorRows
import Derived.WalkKit
import Derived.ProofKit
import Derived.OpenShut
import Derived.ShutString
import Derived.ChangeOld
import Derived.Below
import Derived.Lib.SmallJoins
import Derived.ChangeVars
import Derived.WalkSmall
import Derived.LaidMore
import Derived.Lay
import Derived.Stop.Joined
import Derived.SevenTiedAt
import Derived.Shelf.Vars
import Derived.Test.YtcjihfongfefoaaGreatDoorCards
import Derived.Test.YtcjihfongfefoaaGreatDoorTie
import Derived.Test.YtcjihfongfefoaaGreatDoorJ12
import Derived.Test.YtcjihfongfefoaaGreatDoorJ22
import Derived.Test.YtcjihfongfefoaaGreatDoorJ23
import Derived.Test.YtcjihfongfefoaaGreatDoorJ24
import Derived.Test.YtcjihfongfefoaaGreatDoorJ27
import Derived.Test.YtcjihfongfefoaaGreatDoorJ37
import Derived.Test.YtcjihfongfefoaaGreatDoorJ38
import Derived.Test.YtcjihfongfefoaaGreatDoorJ50
import Derived.Test.YtcjihfongfefoaaGreatDoorJ53
import Derived.Test.YtcjihfongfefoaaGreatDoorJ54
import Derived.Test.YtcjihfongfefoaaGreatDoorJ56
namespace Go.Proofs.YtcjihfongfefoaaGreatDoor.fnScriptCell
open Go.ChangeShapes Go.WideShapes Go.ChangeAt Go.RowKit
open Go.ChangeMaps (open_string shut_string)
set_option maxHeartbeats 25600000
set_option maxRecDepth 100000
set_option linter.unusedVariables false
theorem own:ownKnob Tryz.prog.godebug=none:=by kernel_rfl
theorem Zij:laidOutB Tryz.prog=true:=by kernel_rfl
def Zy6 (k:IntKind) (w:World) (a:Option Addr) (len cap:Nat) (zs:List Int):Prop:=
 (a=none∧len=0∧cap=0∧zs=[])∨
 ∃x,a=some x∧len≤cap∧cap≤maxLen∧zs.length=cap∧(∀i,i<zs.length→w.cell? (x.add i)=some (.int k (zs.getD i 0)))∧∀n∈zs,(Lit.int k n).wf=true
theorem sameB_self (l:List Int):Zz7 l l=true:=by simp[Zz7]
theorem sp_snoc (T:ByteArray) {ds:List ByteArray} {k:Nat} (hk:k<ds.length):T++spT' ((ds.take (k+1)).map Zaf)=T++spT' ((ds.take k).map Zaf)++(⟨#[32]⟩:ByteArray)++Zaf ds[k]:=by
 rw[List.take_succ_eq_append_getElem hk,List.map_append,Zajr]
 apply Zae
 simp only[List.map_cons,List.map_nil,spT',Zbw,Zfy,List.append_assoc,List.append_nil]
theorem cel_law {l nx rs:List Stn} {ds:List ByteArray} {L:List Int} {t:Int} (h:csgR l ds=some L) (hl:0<l.length) (h8:∀s∈ds,s.size≤8) (ht:0≤t∧t≤8) (hn:Zfq l t=some nx) (hr:relR nx (l.getD 0 zstn).nm=some rs):
 Zb4 (Zb0 ((Zt1 l ds L).map Prod.fst)++Zb0 ((Zmj l ds L l.length).map Prod.fst)++(⟨#[112,111,119,101,114,32]⟩:ByteArray)++decT t++(⟨#[10,114,101,108,101,97,115,101,32]⟩:ByteArray)++(l.getD 0 zstn).nm++(⟨#[10,99,101,108,108,10]⟩:ByteArray))=
 Zb0 ((Zt1 l ds L).map Prod.snd)++Zb0 ((Zmj l ds L l.length).map Prod.snd)++fmtT nx++(⟨#[10]⟩:ByteArray)++fmtT rs++(⟨#[10]⟩:ByteArray)++fmtT rs++(⟨#[10]⟩:ByteArray):=by
 rw[←cel_text2 _ l nx rs t,←cel_out2 _ l nx rs t]
 have:=cel_script h hl h8 ht hn hr
 rw[List.map_append,List.map_append,Zd1,Zd1,List.map_append,List.map_append,Zd1,Zd1]at this
 exact this
theorem hear_dash {l:List Stn} {ds:List ByteArray} {L:List Int} (h:csgR l ds=some L) (h8:∀s∈ds,s.size≤8) {k:Nat} (hk:k<l.length) (h4:l.length≤4):(Zaf (Z6v l ds L k)).size≤160:=by
 have h1:=(Z4y h h8 (k+1) hk).2
 have h2:=congrArg ByteArray.size (cel_out1 ⟨#[]⟩ l ds L k)
 simp only[ByteArray.size_append]at h2
 omega
theorem nms_csg {l:List Stn} {ds:List ByteArray} {L:List Int} (h:csgR l ds=some L) (h8:∀s∈ds,s.size≤8):(nmsT L).size≤12000∧(∀x∈L,I63 x)∧L.length≤512:=by
 have h1:=Zado h h8
 have hs:=(Zg3 h).2.2.2.2
 have h2:∀x∈L,I63 x:=fun x hx=>by have:=Zabr hs x hx;exact⟨by omega,by omega⟩
 have:=Zhn h1 (fun x hx=>by have:=h2 x hx;exact(⟨by have:=this.1;omega,this.2⟩:I64 x))
 exact⟨by omega,h2,h1⟩
theorem ds_getD {ds:List ByteArray} {k:Nat} (h:k<ds.length):ds.getD k ⟨#[]⟩=ds[k]:=by simp[List.getD,h]
set_option maxRecDepth 100000
theorem walk (a0:Option Addr) (len0 cap0:Nat) (z0:List Int) (a1:Option Addr) (len1 cap1:Nat) (z1:List Int) (w:World) (hmax:∃m,w.cell? ⟨2,0,none⟩=some (.int .i64 m)) (htab:Lib.TabIs Tryz.prog w "internal/strconv.uint64pow10" .u64 Lib.pow10Tab) (hforms:FormsW w) (w0:Zy6 .u8 w a0 len0 cap0 z0) (w1:Zy6 .u8 w a1 len1 cap1 z1):
 Calls Tryz.prog 3 #[.slice a0 len0 cap0,.slice a1 len1 cap1] w fun e w'=>e= .returned (.bool true)∧Below w.heap.size w w':=by
 by_cases hn:len0≤1048576
 ·by_cases hn1:len1≤1048576
  ·have hC:=Zoe w0 (by omega)
   have HMX:=Lib.hid (show MaxW w from hmax)
   have HTB:=Lib.hid (show TabW w from htab)
   have HFO:=Lib.hid hforms
   clear w0 w1 hmax htab hforms
   go_enter Tryz.func3,Tryz.ntmps3
   go_wp2_with fail
   refine(Z69 hC).mono ?_;rintro e w1 ⟨a1,n1,c1,l,b1,m1,d1,ds,rfl,ho1,h4,ht,hds,hmd,hd0,hd5,hd8,hdb,hB1⟩
   have hS:=ho1.rd
   have hcap:=ho1.cap'.1
   have HT:=Lib.hid ht
   have HD8:=Lib.hid hd8
   have HN:=Lib.hid hS.1
   have H4:=Lib.hid h4
   have hn4:n1≤4:=by have:=HN.out;omega
   clear hC ho1 ht hd8 hdb hd0 hd5 h4 hmd
   have HCS:=Lib.hid (fun w (h:RdS w a1 n1 l) (h':RdT w b1 m1 ds)=>@Zod a1 b1 n1 c1 m1 d1 l ds w h hcap h')
   have HSS:=Lib.hid (fun w (h:RdS w a1 n1 l) (h':RdT w b1 m1 ds)=>@Zu2 a1 b1 n1 c1 m1 d1 l ds w h h' HT.out.big (fun i hi=>by have:=HD8.out _ (List.getElem_mem hi);omega))
   cases hq:csgR l ds with
   |none=>
    rw[hq]at HCS HSS
    go_wp2_with fail
    refine(HCS.out _ hS hds).mono ?_;rintro e w2 ⟨a2,n2,c2,rfl,ho2,hb2⟩
    simp only[Option.getD_none,Option.isSome_none]at ho2 ⊢
    have hB2:=hB1.trans (hb2.mono hB1.size)
    have hS2:=hS.below hb2
    have hds2:=hds.below hb2
    have hr2:=ho2.rd
    clear hS hds ho2 hB1 hb2
    go_wp2_with fail
    refine(HSS.out _ hS2 hds2).mono ?_;rintro e w3 ⟨a3,n3,c3,rfl,ho3,hb3⟩
    simp only[Option.getD_none,Option.isSome_none]at ho3 ⊢
    have hB3:=hB2.trans (hb3.mono hB2.size)
    have hS3:=hS2.below hb3
    have hds3:=hds2.below hb3
    have hs3:=hr2.below hb3
    have hr3:=ho3.rd
    clear hS2 hds2 ho3 hB2 hb3 hr2
    go_wp2_with fail
    refine(ssInts_c hs3 hr3).mono ?_;rintro e w4 ⟨rfl,hq4⟩
    rw[sameB_self]
    have hB4:=hB3.trans (hq4.below _)
    have hS4:=hS3.qw hq4
    have hds4:=hds3.below (hq4.below _)
    have hs4:=hs3.qw hq4
    have hr4:=hr3.qw hq4
    clear hS3 hds3 hB3 hs3 hr3 hq4
    go_wp2_with fail
    refine(ssInts_c hs4 hr4).mono ?_;rintro e w5 ⟨rfl,hq5⟩
    rw[sameB_self]
    have hB5:=hB4.trans (hq5.below _)
    go_wp2_with fail
    go_ret
    exact⟨by first|rfl|simp,hB5⟩
   |some L=>
    rw[hq]at HCS HSS
    go_wp2_with fail
    refine(HCS.out _ hS hds).mono ?_;rintro e w2 ⟨a2,n2,c2,rfl,ho2,hb2⟩
    simp only[Option.getD_some,Option.isSome_some]at ho2 ⊢
    have hB2:=hB1.trans (hb2.mono hB1.size)
    have hS2:=hS.below hb2
    have hds2:=hds.below hb2
    have hr2:=ho2.rd
    clear hS hds ho2 hB1 hb2
    go_wp2_with fail
    refine(HSS.out _ hS2 hds2).mono ?_;rintro e w3 ⟨a3,n3,c3,rfl,ho3,hb3⟩
    simp only[Option.getD_some,Option.isSome_some]at ho3 ⊢
    have hB3:=hB2.trans (hb3.mono hB2.size)
    have hS3:=hS2.below hb3
    have hds3:=hds2.below hb3
    have hs3:=hr2.below hb3
    have hr3:=ho3.rd
    clear hS2 hds2 ho3 hB2 hb3 hr2
    go_wp2_with fail
    refine(ssInts_c hs3 hr3).mono ?_;rintro e w4 ⟨rfl,hq4⟩
    rw[sameB_self]
    have hB4:=hB3.trans (hq4.below _)
    have hS4:=hS3.qw hq4
    have hds4:=hds3.below (hq4.below _)
    have hs4:=hs3.qw hq4
    have hr4:=hr3.qw hq4
    clear hS3 hds3 hB3 hs3 hr3 hq4
    by_cases h0:0<n1
    ·have hz0:((n1:Int)==0)=false:=by rw[beq_eq_false_iff_ne];omega
     have hll:0<l.length:=by have:=HN.out;omega
     have HDL:=Lib.hid (Zg3 hq).2.1
     have HDN:=Lib.hid hds4.1
     have HM1:=Lib.hid (show m1=n1 by have:=HDL.out;have:=HDN.out;have:=HN.out;omega)
     have hne:ds≠[]:=fun e=>by have:=HDL.out;rw[e]at this;simp at this;omega
     obtain⟨bs,os,rfl,_,p0,_⟩:=hS4.at h0
     obtain⟨bd,od,rfl,_,_⟩:=hds4.at (i:=0) (by have:=HM1.out;omega)
     clear p0
     obtain⟨A,hA⟩:∃A,A=len1%9:=⟨_,rfl⟩
     have m1':(len1:Int).tmod 9=(A:Int):=by rw[hA];rfl
     have m2':(len1:Int)%9=(A:Int):=by rw[hA];rfl
     have hA9:A<9:=by rw[hA];exact Nat.mod_lt _ (by omega)
     clear hA
     obtain⟨nx,rs,hnx,hrs⟩:=step_rel (t:=(A:Int)) (Zg3 hq).1 hll ⟨by omega,by omega⟩
     have HL:=Lib.hid (cel_law hq hll HD8.out ⟨by omega,by omega⟩ hnx hrs)
     have e0:l.getD 0 zstn=l[0]:=Zcv hll
     rw[e0]at hrs HL
     obtain⟨zNL,hI63,_⟩:=nms_csg hq HD8.out
     have HI:=Lib.hid hI63
     have HPS:=Lib.hid (fun w (h:RdS w (some ⟨bs,os,none⟩) n1 l)=>Zqj (c:=c1) (A:Int) h hcap)
     rw[hnx]at HPS
     have HRS:=Lib.hid (fun ao n c w (h:RdS w ao n nx) (hc:n≤c)=>@Zi3 ao n c nx w l[0].nm h hc)
     rw[hrs]at HRS
     have HFM:=Lib.hid (fun ao n c (l:List Stn) w (h:RdS w ao n l) (hc:n≤c) (ht:TabW w)=>@Zoq ao n c l w h hc ht)
     have HNA:=Lib.hid (fun w=>Zgj (A:Int) w ⟨by omega,by omega⟩)
     have HNS:=Lib.hid (fun ao n c w h h6=>@Z0q ao n c L w h HI.out h6)
     have HIP:=Lib.hid (fun(x:ByteArray) c (ht:TabW c) (hm:MaxW c) (hf:FormsW c) (hs:x.size≤1099511627776)=>Zln x c ht hm hf hs)
     have HQ:=Lib.hid hq
     have zF:=Zle l
     have zX:=Zle nx
     have zR:=Zle rs
     have zA:(decT (A:Int)).size≤21:=Zde ⟨by omega,by omega⟩
     have zM0:l[0].nm.size≤8:=Z33 (Zg3 hq).1 hll
     have HT0:=Lib.hid (cel_text0 l L hne)
     have HO0:=Lib.hid (cel_out0 l ds L)
     obtain⟨T0,hT0⟩:∃T0,Zb0 ((Zt1 l ds L).map Prod.fst)=T0:=⟨_,rfl⟩
     obtain⟨O0,hO0⟩:∃O0,Zb0 ((Zt1 l ds L).map Prod.snd)=O0:=⟨_,rfl⟩
     rw[hT0]at HT0 HL
     rw[hO0]at HO0 HL
     clear hT0 hO0 hI63 hnx hrs e0 hq HCS HSS hne
     have HF:=Lib.hid (show ∃F,F=fmtT l from⟨_,rfl⟩)
     go_wp2_with fail
     refine(HFM.out _ _ _ l _ hS4 hcap (HTB.out.below hB4)).mono ?_;rintro e w5 ⟨rfl,hb5⟩
     have hB5:=hB4.trans (hb5.mono hB4.size)
     have hS5:=hS4.below hb5
     have hds5:=hds4.below hb5
     have hs5:=hs4.below hb5
     clear hB4 hS4 hds4 hs4 hr4 hb5
     obtain⟨F,hF⟩:∃F,fmtT l=F:=⟨_,rfl⟩
     rw[hF]at zF HT0 ⊢
     clear HF
     have lc:((⟨#[99,101,108,108,32]⟩:ByteArray):ByteArray).size=5:=rfl
     have f1:((⟨#[99,101,108,108,32]⟩:ByteArray)++F:ByteArray).size=((⟨#[99,101,108,108,32]⟩:ByteArray):ByteArray).size+F.size:=Zap _ _
     have f2:((⟨#[99,101,108,108,32]⟩:ByteArray)++F++(⟨#[10,115,101,110,100]⟩:ByteArray):ByteArray).size=((⟨#[99,101,108,108,32]⟩:ByteArray)++F:ByteArray).size+5:=Zap _ _
     have HF1:=Lib.hid (show(⟨#[99,101,108,108,32]⟩:ByteArray)++F++(⟨#[10,115,101,110,100]⟩:ByteArray)=(⟨#[99,101,108,108,32]⟩:ByteArray)++F++(⟨#[10,115,101,110,100]⟩:ByteArray)++spT' ((ds.take 0).map Zaf)from(Zqz _).symm)
     have HDS:=Lib.hid hds5
     clear hds5
     go_wp2_with fail
     go_loopw [11,12] (fun v i wr=>∃(k:Nat) (x:ByteArray),k≤n1∧i= .int .i64 (k:Nat)∧v= .string x∧x.size≤500+10*k∧Hid (x=(⟨#[99,101,108,108,32]⟩:ByteArray)++F++(⟨#[10,115,101,110,100]⟩:ByteArray)++spT' ((ds.take k).map Zaf))∧wr=w5) (fun _ i _=>n1-(intOf i).toNat)
     case atStart=>exact⟨0,_,Nat.zero_le _,rfl,rfl,by omega,HF1,rfl⟩
     case round=>
      obtain⟨k,x,hk,rfl,rfl,hxz,HX,rfl⟩:=hrel
      by_cases hlt:k<n1
      ·have hkd:k<ds.length:=by have:=HDN.out;have:=HM1.out;omega
       have hlm:k<m1:=by have:=HM1.out;omega
       have hlt':(k:Int)<(m1:Int):=by omega
       obtain⟨b',o',e,_,t0⟩:=HDS.out.at (i:=k) hlm
       cases e
       have hd8:=HD8.out _ (List.getElem_mem hkd)
       have zD:(Zaf ds[k]).size≤ds[k].size+1:=Ze2 _
       have HX2:=Lib.hid (show x++(⟨#[32]⟩:ByteArray)++Zaf ds[k]=(⟨#[99,101,108,108,32]⟩:ByteArray)++F++(⟨#[10,115,101,110,100]⟩:ByteArray)++spT' ((ds.take (k+1)).map Zaf)by rw[sp_snoc _ hkd,←HX.out])
       have HDA:=Lib.hid (fun w=>Z3j ds[k] w)
       generalize Zaf ds[k]=DK at*
       generalize ds[k]=DD at*
       have g1:(x++(⟨#[32]⟩:ByteArray):ByteArray).size=x.size+1:=Zap _ _
       have g2:(x++(⟨#[32]⟩:ByteArray)++DK:ByteArray).size=(x++(⟨#[32]⟩:ByteArray):ByteArray).size+DK.size:=Zap _ _
       go_wp2_with fail
       refine(HDA.out _).mono ?_;rintro e w6 ⟨rfl,rfl⟩
       go_wp2_with fail
       go_roundw
       case rel=>exact⟨k+1,_,by omega,by go_num,rfl,by omega,HX2,by first|rfl|trivial⟩
       case measure=>simp[intOf];omega
      have hlm:¬k<m1:=by have:=HM1.out;omega
      have hlt':¬(k:Int)<(m1:Int):=by omega
      have HE:=Lib.hid (show x++(⟨#[10]⟩:ByteArray)=T0 by rw[HX.out,List.take_of_length_le (by have:=HDN.out;have:=HM1.out;omega)];exact HT0.out.symm)
      have g1:(x++(⟨#[10]⟩:ByteArray):ByteArray).size=x.size+1:=Zap _ _
      have zT0:T0.size≤600:=by rw[←HE.out];omega
      have hn2:n2≤1000000:=by have:=hs5.1;have:=Zado HQ.out HD8.out;omega
      clear HX HF1 HT0 f1 f2 lc
      go_wp2_with fail
      refine(HNS.out _ _ _ _ hs5 hn2).mono ?_;rintro e w6 ⟨rfl,hb6⟩
      rw[HE.out]
      have hB6:=hB5.trans (hb6.mono hB5.size)
      have hS6:=hS5.below hb6
      have hds6:=HDS.out.below hb6
      have hs6:=hs5.below hb6
      clear hB5 hS5 hs5 hb6 HDS HE g1 hxz
      obtain⟨NL,hNL⟩:∃N,nmsT L=N:=⟨_,rfl⟩
      rw[hNL]at zNL HO0 ⊢
      clear hNL
      have lo:((⟨#[111,107,10]⟩:ByteArray):ByteArray).size=3:=rfl
      have f1:((⟨#[111,107,10]⟩:ByteArray)++NL:ByteArray).size=((⟨#[111,107,10]⟩:ByteArray):ByteArray).size+NL.size:=Zap _ _
      have f2:((⟨#[111,107,10]⟩:ByteArray)++NL++(⟨#[10]⟩:ByteArray):ByteArray).size=((⟨#[111,107,10]⟩:ByteArray)++NL:ByteArray).size+1:=Zap _ _
      have zO0:O0.size≤12100:=by rw[HO0.out];omega
      have HS6:=Lib.hid hS6
      have HD6:=Lib.hid hds6
      have HR6:=Lib.hid hs6
      clear hS6 hds6 hs6
      have HA1:=Lib.hid (show T0=T0++Zb0 ((Zmj l ds L 0).map Prod.fst)from(Zqz _).symm)
      have HA2:=Lib.hid (show(⟨#[111,107,10]⟩:ByteArray)++NL++(⟨#[10]⟩:ByteArray)=O0++Zb0 ((Zmj l ds L 0).map Prod.snd)from HO0.out.symm.trans (Zqz _).symm)
      go_wp2_with fail
      go_loopw [11,13,14] (fun v u i wr=>∃(k:Nat) (x y:ByteArray),k≤n1∧i= .int .i64 (k:Nat)∧v= .string x∧u= .string y∧x.size≤600+50*k∧y.size≤12200+170*k∧Hid (x=T0++Zb0 ((Zmj l ds L k).map Prod.fst))∧Hid (y=O0++Zb0 ((Zmj l ds L k).map Prod.snd))∧Below w6.heap.size w6 wr) (fun _ _ i _=>n1-(intOf i).toNat)
      case atStart=>exact⟨0,_,_,Nat.zero_le _,rfl,rfl,rfl,by omega,by omega,HA1,HA2,Below.refl _ _⟩
      case round=>
       clear f1 f2 lo
       obtain⟨k,x,y,hk,rfl,rfl,rfl,hxz,hyz,HX,HY,hb⟩:=hrel
       by_cases hlt:k<n1
       ·have hkd:k<ds.length:=by have:=HDN.out;have:=HM1.out;omega
        have hkl:k<l.length:=by have:=HN.out;omega
        have hlt':(k:Int)<(n1:Int):=by omega
        have hlm:k<m1:=by have:=HM1.out;omega
        have hlm':(k:Int)<(m1:Int):=by omega
        obtain⟨b',o',e,_,s0,_⟩:=(HS6.out.below hb).at hlt
        cases e
        obtain⟨b',o',e,_,t0⟩:=(HD6.out.below hb).at hlm
        cases e
        have hd8:=HD8.out _ (List.getElem_mem hkd)
        have zM:l[k].nm.size≤8:=Z33 (Zg3 HQ.out).1 hkl
        have zW:=hear_dash HQ.out HD8.out hkl H4.out
        have zN:(decT (ds[k].size:Int)).size≤21:=Zde ⟨by omega,by omega⟩
        have HX2:=Lib.hid (show x++(⟨#[104,101,97,114,32]⟩:ByteArray)++l[k].nm++(⟨#[32]⟩:ByteArray)++decT (ds[k].size:Int)++(⟨#[10]⟩:ByteArray)=T0++Zb0 ((Zmj l ds L (k+1)).map Prod.fst)by rw[cel_text1,←HX.out,Zcv hkl,ds_getD hkd])
        have HY2:=Lib.hid (show y++Zaf (Z6v l ds L k)++(⟨#[10]⟩:ByteArray)=O0++Zb0 ((Zmj l ds L (k+1)).map Prod.snd)by rw[cel_out1,←HY.out])
        have hX:(crcR l L l[k].nm (ds[k].size:Int)).getD ByteArray.empty=Z6v l ds L k:=by unfold Z6v;rw[Zcv hkl,ds_getD hkd]
        have HDA:=Lib.hid (fun w=>Z3j (Z6v l ds L k) w)
        have HND:=Lib.hid (fun w=>Zgj (ds[k].size:Int) w ⟨by omega,by omega⟩)
        have HCR:=Lib.hid (fun w' (h:RdS w' (some ⟨bs,os,none⟩) n1 l) (h':Rd w' a2 n2 L)=>Zl0 (c:=c1) (cb:=c2) l[k].nm (ds[k].size:Int) h hcap h')
        unfold Zdx at HCR
        rw[hX]at HCR
        clear hX
        generalize (crcR l L l[k].nm (ds[k].size:Int)).isSome=B at*
        generalize Zaf (Z6v l ds L k)=W at*
        generalize Z6v l ds L k=X at*
        generalize decT (ds[k].size:Int)=DN at*
        generalize ds[k]=DD at*
        generalize l[k].nm=NM at*
        obtain⟨U1,hU1⟩:∃U,(x++(⟨#[104,101,97,114,32]⟩:ByteArray):ByteArray)=U:=⟨_,rfl⟩
        have yy1:U1.size≤x.size+5:=by rw[←hU1,ByteArray.size_append];exact Nat.le_refl _
        have nn1:¬9223372036854775807<x.size+5:=by omega
        have HU1:=Lib.hid hU1
        clear hU1
        obtain⟨U2,hU2⟩:∃U,(U1++NM:ByteArray)=U:=⟨_,rfl⟩
        have yy2:U2.size≤U1.size+NM.size:=by rw[←hU2,ByteArray.size_append];exact Nat.le_refl _
        have nn2:¬9223372036854775807<U1.size+NM.size:=by omega
        have HU2:=Lib.hid hU2
        clear hU2
        obtain⟨U3,hU3⟩:∃U,(U2++(⟨#[32]⟩:ByteArray):ByteArray)=U:=⟨_,rfl⟩
        have yy3:U3.size≤U2.size+1:=by rw[←hU3,ByteArray.size_append];exact Nat.le_refl _
        have nn3:¬9223372036854775807<U2.size+1:=by omega
        have HU3:=Lib.hid hU3
        clear hU3
        obtain⟨U4,hU4⟩:∃U,(U3++DN:ByteArray)=U:=⟨_,rfl⟩
        have yy4:U4.size≤U3.size+DN.size:=by rw[←hU4,ByteArray.size_append];exact Nat.le_refl _
        have nn4:¬9223372036854775807<U3.size+DN.size:=by omega
        have HU4:=Lib.hid hU4
        clear hU4
        obtain⟨U5,hU5⟩:∃U,(U4++(⟨#[10]⟩:ByteArray):ByteArray)=U:=⟨_,rfl⟩
        have yy5:U5.size≤U4.size+1:=by rw[←hU5,ByteArray.size_append];exact Nat.le_refl _
        have nn5:¬9223372036854775807<U4.size+1:=by omega
        have HU5:=Lib.hid hU5
        clear hU5
        have g1:(y++W:ByteArray).size=y.size+W.size:=Zap _ _
        have g2:(y++W++(⟨#[10]⟩:ByteArray):ByteArray).size=(y++W:ByteArray).size+1:=Zap _ _
        have hE:x++(⟨#[104,101,97,114,32]⟩:ByteArray)++NM++(⟨#[32]⟩:ByteArray)++DN++(⟨#[10]⟩:ByteArray)=U5:=by rw[HU1.out,HU2.out,HU3.out,HU4.out,HU5.out]
        rw[hE]at HX2
        clear hE
        go_wp2_with fail
        refine Zau 100 (fun _ w'=>Below wr.heap.size wr w') (by kernel_rfl) (by kernel_rfl) (Below.refl _ _).drew ?_
        refine sk (.slice (some ⟨bs,os,none⟩) n1 c1) ?_
        refine sk (.slice a2 n2 c2) ?_
        refine sk (.slice (some ⟨bs,os,none⟩) n1 c1) ?_
        refine sk (.int .i64 k) ?_
        refine sv (.pointer (some ⟨bs,os+k*4,none⟩)) (fun b w1 hs=>?_) ?_
        ·go_simp
        refine sv (.pointer (some ⟨bs,os+k*4,none⟩)) (fun b w1 hs=>?_) ?_
        ·go_simp
        refine sv (.string NM) (fun b w1 hs=>?_) ?_
        ·have q:=(hs.cell (Zaa s0)).trans s0
         go_simp
        refine sk (.slice (some ⟨bd,od,none⟩) m1 d1) ?_
        refine sk (.int .i64 k) ?_
        refine sv (.pointer (some ⟨bd,od+k,none⟩)) (fun b w1 hs=>?_) ?_
        ·go_simp
        refine sv (.string DD) (fun b w1 hs=>?_) ?_
        ·have q:=(hs.cell (Zaa t0)).trans t0
         go_simp
        refine sk (.int .i64 DD.size) ?_
        refine sc (.tuple #[.string X,.bool B]) 16 (#[.slice (some ⟨bs,os,none⟩) n1 c1,.slice a2 n2 c2,.string NM,.int .i64 DD.size]) (fun b w1 hs=>?_) ?_
        ·exact(HCR.out _ (HS6.out.below (hb.trans (hs.mono hb.size))) (HR6.out.below (hb.trans (hs.mono hb.size)))).mono fun e w2 hr=>⟨hr.1,hs.trans (hr.2.mono hs.size)⟩
        refine sk (.tuple #[.string X,.bool B]) ?_
        refine sk (.string X) ?_
        refine sk (.bool B) ?_
        refine sk (.string X) ?_
        refine sk (.bool B) ?_
        refine Zbo fun w7 hs7=>?_
        have hb7:=hb.trans (hs7.mono hb.size)
        have s7:=(hs7.cell (Zaa s0)).trans s0
        have t7:=(hs7.cell (Zaa t0)).trans t0
        clear hs7 hb s0 t0
        go_wp2_with fail
        refine Zau 100 (fun _ w'=>Below w7.heap.size w7 w') (by kernel_rfl) (by kernel_rfl) (Below.refl _ _).drew ?_
        refine sk (.string x) ?_
        refine sv (.string (x++(⟨#[104,101,97,114,32]⟩:ByteArray))) (fun b w1 hs=>?_) ?_
        ·go_simp
        rw[HU1.out]
        refine sk (.slice (some ⟨bs,os,none⟩) n1 c1) ?_
        refine sk (.int .i64 k) ?_
        refine sv (.pointer (some ⟨bs,os+k*4,none⟩)) (fun b w1 hs=>?_) ?_
        ·go_simp
        refine sv (.pointer (some ⟨bs,os+k*4,none⟩)) (fun b w1 hs=>?_) ?_
        ·go_simp
        refine sv (.string NM) (fun b w1 hs=>?_) ?_
        ·have q:=(hs.cell (Zaa s7)).trans s7
         go_simp
        refine sv (.string (U1++NM)) (fun b w1 hs=>?_) ?_
        ·go_simp
        rw[HU2.out]
        refine sv (.string (U2++(⟨#[32]⟩:ByteArray))) (fun b w1 hs=>?_) ?_
        ·go_simp
        rw[HU3.out]
        refine sk (.slice (some ⟨bd,od,none⟩) m1 d1) ?_
        refine sk (.int .i64 k) ?_
        refine sv (.pointer (some ⟨bd,od+k,none⟩)) (fun b w1 hs=>?_) ?_
        ·go_simp
        refine sv (.string DD) (fun b w1 hs=>?_) ?_
        ·have q:=(hs.cell (Zaa t7)).trans t7
         go_simp
        refine sk (.int .i64 DD.size) ?_
        refine sc (.string DN) 17 (#[.int .i64 DD.size]) (fun b w1 hs=>?_) ?_
        ·exact(HND.out _).mono fun e w2 hr=>⟨hr.1,hs.trans (hr.2.mono hs.size)⟩
        refine sv (.string (U3++DN)) (fun b w1 hs=>?_) ?_
        ·go_simp
        rw[HU4.out]
        refine sv (.string (U4++(⟨#[10]⟩:ByteArray))) (fun b w1 hs=>?_) ?_
        ·go_simp
        rw[HU5.out]
        refine sk (.string U5) ?_
        refine Zbo fun w8 hs8=>?_
        have hb8:=hb7.trans (hs8.mono hb7.size)
        clear hs8 hb7 s7 t7
        go_wp2_with fail
        refine(HDA.out _).mono ?_;rintro e w9 ⟨rfl,rfl⟩
        go_wp2_with fail
        go_roundw
        case rel=>exact⟨k+1,_,_,by omega,by go_num,rfl,rfl,by omega,by omega,HX2,HY2,hb8⟩
        case measure=>simp[intOf];omega
       have hlt':¬(k:Int)<(n1:Int):=by omega
       obtain rfl:k=l.length:=by have:=HN.out;omega
       rw[←HX.out,←HY.out]at HL
       have hB7:=hB6.trans (hb.mono hB6.size)
       have hS7:=HS6.out.below hb
       have hn14:l.length≤4:=H4.out
       obtain⟨b',o',e,_,s0',_⟩:=hS7.at h0
       cases e
       have s0:wr.cell? ⟨bs,os,none⟩=some (.string l[0].nm):=by simpa using s0'
       clear HX HY hB6 hb HA1 HA2 HO0 s0' HS6 HD6 HR6
       go_wp2_with fail
       refine(HPS.out _ hS7).mono ?_;rintro e w8 ⟨a8,n8,c8,rfl,ho8,hb8⟩
       simp only[Option.getD_some,Option.isSome_some]at ho8 ⊢
       have hcap8:=ho8.cap'.1
       have hr8:=ho8.rd
       have hB8:=hB7.trans (hb8.mono hB7.size)
       have s8:=(hb8.cell (Zaa s0)).trans s0
       clear ho8 hB7 hS7 hb8 s0
       go_wp2_with fail
       refine(HRS.out _ _ _ _ hr8 hcap8).mono ?_;rintro e w9 ⟨a9,n9,c9,rfl,ho9,hb9⟩
       simp only[Option.getD_some,Option.isSome_some]at ho9 ⊢
       have hcap9:=ho9.cap'.1
       have hr9:=ho9.rd
       have hB9:=hB8.trans (hb9.mono hB8.size)
       have s9:=(hb9.cell (Zaa s8)).trans s8
       have hq9:=hr8.below hb9
       clear ho9 hB8 hr8 hb9 s8
       have HFX:=Lib.hid (fun ao n c w (h:RdS w ao n nx) hc ht=>HFM.out ao n c nx w h hc ht)
       have HFR:=Lib.hid (fun ao n c w (h:RdS w ao n rs) hc ht=>HFM.out ao n c rs w h hc ht)
       clear HFM
       generalize l[0].nm=M0 at*
       generalize decT (A:Int)=NA at*
       generalize fmtT nx=FX at*
       generalize fmtT rs=FR at*
       obtain⟨V1,hV1⟩:∃U,(x++(⟨#[112,111,119,101,114,32]⟩:ByteArray):ByteArray)=U:=⟨_,rfl⟩
       have zz1:V1.size≤x.size+6:=by rw[←hV1,ByteArray.size_append];exact Nat.le_refl _
       have nn1:¬9223372036854775807<x.size+6:=by omega
       have HV1:=Lib.hid hV1
       clear hV1
       obtain⟨V2,hV2⟩:∃U,(V1++NA:ByteArray)=U:=⟨_,rfl⟩
       have zz2:V2.size≤V1.size+NA.size:=by rw[←hV2,ByteArray.size_append];exact Nat.le_refl _
       have nn2:¬9223372036854775807<V1.size+NA.size:=by omega
       have HV2:=Lib.hid hV2
       clear hV2
       obtain⟨V3,hV3⟩:∃U,(V2++(⟨#[10,114,101,108,101,97,115,101,32]⟩:ByteArray):ByteArray)=U:=⟨_,rfl⟩
       have zz3:V3.size≤V2.size+9:=by rw[←hV3,ByteArray.size_append];exact Nat.le_refl _
       have nn3:¬9223372036854775807<V2.size+9:=by omega
       have HV3:=Lib.hid hV3
       clear hV3
       obtain⟨V4,hV4⟩:∃U,(V3++M0:ByteArray)=U:=⟨_,rfl⟩
       have zz4:V4.size≤V3.size+M0.size:=by rw[←hV4,ByteArray.size_append];exact Nat.le_refl _
       have nn4:¬9223372036854775807<V3.size+M0.size:=by omega
       have HV4:=Lib.hid hV4
       clear hV4
       obtain⟨V5,hV5⟩:∃U,(V4++(⟨#[10,99,101,108,108,10]⟩:ByteArray):ByteArray)=U:=⟨_,rfl⟩
       have zz5:V5.size≤V4.size+6:=by rw[←hV5,ByteArray.size_append];exact Nat.le_refl _
       have nn5:¬9223372036854775807<V4.size+6:=by omega
       have HV5:=Lib.hid hV5
       clear hV5
       rw[HV1.out,HV2.out,HV3.out,HV4.out,HV5.out]at HL
       go_wp2_with fail
       refine Zau 100 (fun _ w'=>Below w9.heap.size w9 w') (by kernel_rfl) (by kernel_rfl) (Below.refl _ _).drew ?_
       refine sk (.string x) ?_
       refine sv (.string (x++(⟨#[112,111,119,101,114,32]⟩:ByteArray))) (fun b w1 hs=>?_) ?_
       ·go_simp
       rw[HV1.out]
       refine sk (.int .i64 A) ?_
       refine sc (.string NA) 17 (#[.int .i64 A]) (fun b w1 hs=>?_) ?_
       ·exact(HNA.out _).mono fun e w2 hr=>⟨hr.1,hs.trans (hr.2.mono hs.size)⟩
       refine sv (.string (V1++NA)) (fun b w1 hs=>?_) ?_
       ·go_simp
       rw[HV2.out]
       refine sv (.string (V2++(⟨#[10,114,101,108,101,97,115,101,32]⟩:ByteArray))) (fun b w1 hs=>?_) ?_
       ·go_simp
       rw[HV3.out]
       refine sk (.slice (some ⟨bs,os,none⟩) n1 c1) ?_
       refine sv (.pointer (some ⟨bs,os,none⟩)) (fun b w1 hs=>?_) ?_
       ·go_simp
       refine sv (.pointer (some ⟨bs,os,none⟩)) (fun b w1 hs=>?_) ?_
       ·go_simp
       refine sv (.string M0) (fun b w1 hs=>?_) ?_
       ·have q:=(hs.cell (Zaa s9)).trans s9
        go_simp
       refine sv (.string (V3++M0)) (fun b w1 hs=>?_) ?_
       ·go_simp
       rw[HV4.out]
       refine sv (.string (V4++(⟨#[10,99,101,108,108,10]⟩:ByteArray))) (fun b w1 hs=>?_) ?_
       ·go_simp
       rw[HV5.out]
       refine sk (.string V5) ?_
       refine Zbo fun w10 hs=>?_
       have hB10:=hB9.trans (hs.mono hB9.size)
       have hx10:=hq9.below hs
       have hy10:=hr9.below hs
       clear hs hB9 hq9 hr9 s9
       have g1:(y++FX:ByteArray).size=(y:ByteArray).size+(FX:ByteArray).size:=Zap _ _
       have g2:(y++FX++(⟨#[10]⟩:ByteArray):ByteArray).size=(y++FX:ByteArray).size+((⟨#[10]⟩:ByteArray):ByteArray).size:=Zap _ _
       have g3:(y++FX++(⟨#[10]⟩:ByteArray)++FR:ByteArray).size=(y++FX++(⟨#[10]⟩:ByteArray):ByteArray).size+(FR:ByteArray).size:=Zap _ _
       have g4:(y++FX++(⟨#[10]⟩:ByteArray)++FR++(⟨#[10]⟩:ByteArray):ByteArray).size=(y++FX++(⟨#[10]⟩:ByteArray)++FR:ByteArray).size+((⟨#[10]⟩:ByteArray):ByteArray).size:=Zap _ _
       have g5:(y++FX++(⟨#[10]⟩:ByteArray)++FR++(⟨#[10]⟩:ByteArray)++FR:ByteArray).size=(y++FX++(⟨#[10]⟩:ByteArray)++FR++(⟨#[10]⟩:ByteArray):ByteArray).size+(FR:ByteArray).size:=Zap _ _
       have g6:(y++FX++(⟨#[10]⟩:ByteArray)++FR++(⟨#[10]⟩:ByteArray)++FR++(⟨#[10]⟩:ByteArray):ByteArray).size=(y++FX++(⟨#[10]⟩:ByteArray)++FR++(⟨#[10]⟩:ByteArray)++FR:ByteArray).size+((⟨#[10]⟩:ByteArray):ByteArray).size:=Zap _ _
       have ln:((⟨#[10]⟩:ByteArray):ByteArray).size=1:=rfl
       go_wp2_with fail
       refine(HFX.out _ _ _ _ hx10 hcap8 (HTB.out.below hB10)).mono ?_;rintro e w11 ⟨rfl,hb11⟩
       have hB11:=hB10.trans (hb11.mono hB10.size)
       have hy11:=hy10.below hb11
       clear hB10 hx10 hy10 hb11
       go_wp2_with fail
       refine(HFR.out _ _ _ _ hy11 hcap9 (HTB.out.below hB11)).mono ?_;rintro e w12 ⟨rfl,hb12⟩
       have hB12:=hB11.trans (hb12.mono hB11.size)
       have hy12:=hy11.below hb12
       clear hB11 hy11 hb12
       go_wp2_with fail
       refine(HFR.out _ _ _ _ hy12 hcap9 (HTB.out.below hB12)).mono ?_;rintro e w13 ⟨rfl,hb13⟩
       have hB13:=hB12.trans (hb13.mono hB12.size)
       clear hB12 hy12 hb13
       go_wp2_with fail
       refine(HIP.out _ _ (HTB.out.below hB13) (HMX.out.below hB13) (HFO.out.below hB13) (by omega)).mono ?_;rintro e w14 ⟨rfl,hb14⟩
       have hB14:=hB13.trans (hb14.mono hB13.size)
       rw[HL.out]
       generalize hO:(y++FX++(⟨#[10]⟩:ByteArray)++FR++(⟨#[10]⟩:ByteArray)++FR++(⟨#[10]⟩:ByteArray):ByteArray)=O at*
       have hoo:(O.toList==O.toList)=true:=by simp
       clear hO
       go_wp2_with fail
       go_ret
       exact⟨rfl,hB14⟩
    ·have hz0:((n1:Int)==0)=true:=by rw[beq_iff_eq];omega
     go_wp2_with fail
     refine(ssInts_c hs4 hr4).mono ?_;rintro e w5 ⟨rfl,hq5⟩
     rw[sameB_self]
     have hB5:=hB4.trans (hq5.below _)
     go_wp2_with fail
     go_ret
     exact⟨by first|rfl|simp,hB5⟩
  ·have hle:(1048576:Int)<(len1:Int):=by omega
   have hle0:¬(1048576:Int)<(len0:Int):=by omega
   clear hmax htab hforms
   go_enter Tryz.func3,Tryz.ntmps3
   go_wp2_with fail
   go_ret
   exact⟨rfl,Below.refl _ _⟩
 ·have hle:(1048576:Int)<(len0:Int):=by omega
  clear hmax htab hforms
  go_enter Tryz.func3,Tryz.ntmps3
  go_wp2_with fail
  go_ret
  exact⟨rfl,Below.refl _ _⟩
def laidL:List (String×DataW Unit):=[("math/bits.deBruijn32tab",Rows.laid_math_bits_deBruijn32tab),("math/bits.deBruijn64tab",Rows.laid_math_bits_deBruijn64tab),("internal/strconv.uint64pow10",Rows.laid_internal_strconv_uint64pow10),("unicode/utf8.acceptRanges",Rows.laid_unicode_utf8_acceptRanges),("loop.example/spreadspectrum/impl.forms",Rows.laid_loop_example_spreadspectrum_impl_forms),("unicode/utf8.first",Rows.laid_unicode_utf8_first)]
theorem Zfs {H:Type} {enc:TypeId×Value→H} {a:Assume} {C:Checked} {os:Os} {f:FuncId} {fn:Func} {s:ChangeSpec} {conds:List PathCond} {Zdt fresh handsOn again:Bool} {X:World→Array Value→Prop}
 (hX:∀(w w':World) (args:Array Value),w.heap=w'.heap→X w args→X w' args)
 (own:ownKnob C.prog.godebug=none) (started:os.Started) (noInit:C.prog.inits.idxOf? f=none) (hfn:C.prog.funcs[f]?=some fn)
 (witness:∃(w:World) (tape:Tape) (i:Input),w.os=os∧(w.forCall tape i).Shaped C.prog∧i.vars=[]∧Input.okWide C.prog (w.forCall tape i) .any w.heap.size f i∧
   ((s.pre enc C.prog fn conds Zdt (w.forCall tape i).memory i.args∧X (w.forCall tape i).memory i.args)∧sizedMet enc C.prog fn (OpenSpec.ofChange s) Zdt (w.forCall tape i).memory i.args)∧a.holds C.prog (lone (Frame.enter C.prog f i.args .normal) [] (w.forCall tape i)))
 (contract:∀(W:World) (base:Nat) (args:Array Value) (ds gs:List (DataW H)) (before:List MemPlace),
   (∀(j:Nat) t v,fn.params[j]?=some t→args[j]?=some v→Value.okWide C.prog W .any base t v)→
   DataW.Whole enc C.prog fn.params.toList s.vars Zdt W args.toList ds gs before→
   conds.all (PathCond.test C.prog ⟨fn.params.toList,ds,s.plain.varTypes C.prog,gs⟩)=true→
   X W args→W.ShapedOpen C.prog→
   Calls C.prog f args W fun e W'=>∃v,e= .returned v∧s.post enc C.prog fn Zdt fresh handsOn again W args v W'):
 ReturnsInHanded a C os f .any (fun w args=>(s.pre enc C.prog fn conds Zdt w args∧X w args)∧sizedMet enc C.prog fn (OpenSpec.ofChange s) Zdt w args) (s.post enc C.prog fn Zdt fresh handsOn again):=by
 refine returnsInHanded_of_calls own started noInit witness ?_
 intro w tape i _ hsh _ hok hpre hholds
 obtain⟨_,_,_,fn',hfn',_,_,_,_,hval⟩:=hok
 have e:fn'=fn:=Option.some.inj (hfn'.symm.trans hfn)
 subst e
 obtain⟨⟨⟨ds,gs,before,hw,hc⟩,hx⟩,hz⟩:=hpre
 have hw':=DataW.Whole.of_heap (w':=w.forCall tape i) (by rfl) hw
 refine(contract (w.forCall tape i) w.heap.size i.args ds gs before hval hw' hc (hX _ _ _ (by rfl) hx) hsh).mono fun e W' ⟨v,he,hp⟩=>?_
 subst he
 exact ChangeSpec.post_blind hp
theorem Zgr {W:World} (h:laidMetH Tryz.prog laidL W):Lib.TabIs Tryz.prog W "internal/strconv.uint64pow10" .u64 Lib.pow10Tab:=by
 have h1:=h.filter (fun x=>x.1== "internal/strconv.uint64pow10")
 rw[show laidL.filter (fun x=>x.1== "internal/strconv.uint64pow10")=[("internal/strconv.uint64pow10",Lib.tabData .u64 Lib.pow10Tab)]by kernel_rfl,MakeChecks.laidMetH_plain _ _ _ (by kernel_rfl)]at h1
 exact Lib.tabIs_of_head (g:=1) (t:=218) (e:=192) (n:=20) (by kernel_rfl) (by kernel_rfl) Tryz.underlying218 Tryz.underlying192 (by kernel_rfl) (by kernel_rfl) h1
theorem Zez {W:World} (h:laidMetH Tryz.prog laidL W):FormsW W∧∃b off c,W.var? Tryz.prog "loop.example/spreadspectrum/impl.forms" =some #[.slice (some ⟨b,off,none⟩) 28 c]:=by
 have h1:=h.filter (fun x=>x.1== "loop.example/spreadspectrum/impl.forms")
 rw[show laidL.filter (fun x=>x.1== "loop.example/spreadspectrum/impl.forms")=[("loop.example/spreadspectrum/impl.forms",Zqg)]by kernel_rfl,MakeChecks.laidMetH_plain _ _ _ (by kernel_rfl)]at h1
 exact Zll h1
theorem lifted (os:Os) (started:os.Started) (H:Type) (enc:TypeId×Value→H):
 ReturnsInHanded {} Tryz.checked os 3 .any (fun w args=>(Rows.fnScriptCellSpec.pre enc Tryz.prog Tryz.f3 [] false w args∧laidMetH Tryz.prog laidL w)∧sizedMet enc Tryz.prog Tryz.f3 (OpenSpec.ofChange Rows.fnScriptCellSpec) false w args)
  (Rows.fnScriptCellSpec.post enc Tryz.prog Tryz.f3 false true false false):=by
 refine Zfs (C:=Tryz.checked) (X:=fun w _=>laidMetH Tryz.prog laidL w) (fun _ _ _ hh h=>h.of_heap hh) own started (by kernel_rfl) Tryz.func3
  (ChangeSpec.witness_shaped (enc:=enc) (C:=Tryz.checked) (os:=os) (X:=fun w _=>laidMetH Tryz.prog laidL w) false (World.laidAll Tryz.prog os laidL) #[.slice none 0 0,.slice none 0 0] 8 (World.laidAll_os _ _ _)
    (World.shaped_of_ZipB (by kernel_rfl) (by kernel_rfl)) (by kernel_rfl) (by kernel_rfl) (by kernel_rfl)
    (by rw[MakeChecks.laidMetH_plain _ _ _ (by kernel_rfl)];exact laidMet_laidAll _ (by kernel_rfl) (by kernel_rfl))) ?_
 intro W base args ds gs before hval0 hW hcnd hLd hSh
 have hval:∀(j:Nat) t v,Tryz.f3.params[j]?=some t→args[j]?=some v→Value.okWide Tryz.prog W .any base t v:=hval0
 have hW':=hW
 obtain⟨p,q,hA0,hV,rfl,hfz,hnd⟩:=hW
 have hA:DataW.TrodAll enc Tryz.prog W 0 (fun _=>true) true Tryz.f3.params.toList args.toList ds p:=hA0
 rw[Tryz.params3]at hA hval
 obtain⟨v0,vs0,d0,ds0,p0,q0,hargs,rfl,rfl,h0,r0⟩:=trodAll_cons hA
 obtain⟨v1,vs1,d1,ds1,p1,q1,rfl,rfl,rfl,h1,r1⟩:=trodAll_cons r0
 obtain⟨rfl,rfl,rfl⟩:=trodAll_nil r1
 obtain rfl:args= #[v0,v1]:=by cases args;simp_all
 have hV2:DataW.TrodVars enc Tryz.prog W (fun _=>true) ["loop.example/spreadspectrum/impl.forms"] gs q:=hV
 obtain⟨gv,tv,csv,fuv,dv,pv,rfl,hgv,htv,hvarv,hdv,rfl⟩:=trodVars_one hV2
 obtain rfl:=Option.some.inj (forms_g.symm.trans hgv)
 obtain rfl:=Option.some.inj (forms_t.symm.trans htv)
 have k0:=h0
 have lt0:∀x∈p0,x.block<W.heap.size:=by obtain⟨m,hm⟩:=k0;exact DataW.trod_lt m _ _ _ hm
 have k1:=h1
 have lt1:∀x∈p1,x.block<W.heap.size:=by obtain⟨m,hm⟩:=k1;exact DataW.trod_lt m _ _ _ hm
 obtain⟨a0,len0,cap0,rfl⟩:=okWide_slice Tryz.underlying22 (hval 0 22 v0 rfl rfl)
 obtain⟨z0,w0⟩:∃zs,Zy6 .u8 W a0 len0 cap0 zs:=by
  obtain⟨fuel,hf⟩:=h0
  rcases open_ints Tryz.underlying22 Tryz.underlying5 (by kernel_rfl) hf with ⟨hcs,_⟩|⟨x,l,c,zs,hcs,_,hl,hm,hz,_,hcell,hwz⟩
  ·simp[Value.cells]at hcs
   obtain⟨rfl,rfl,rfl⟩:=hcs
   exact⟨[],.inl ⟨rfl,rfl,rfl,rfl⟩⟩
  ·simp[Value.cells]at hcs
   obtain⟨rfl,rfl,rfl⟩:=hcs
   exact⟨zs,.inr ⟨_,rfl,hl,hm,by simpa using hz,hcell,hwz⟩⟩
 obtain⟨a1,len1,cap1,rfl⟩:=okWide_slice Tryz.underlying22 (hval 1 22 v1 rfl rfl)
 obtain⟨z1,w1⟩:∃zs,Zy6 .u8 W a1 len1 cap1 zs:=by
  obtain⟨fuel,hf⟩:=h1
  rcases open_ints Tryz.underlying22 Tryz.underlying5 (by kernel_rfl) hf with ⟨hcs,_⟩|⟨x,l,c,zs,hcs,_,hl,hm,hz,_,hcell,hwz⟩
  ·simp[Value.cells]at hcs
   obtain⟨rfl,rfl,rfl⟩:=hcs
   exact⟨[],.inl ⟨rfl,rfl,rfl,rfl⟩⟩
  ·simp[Value.cells]at hcs
   obtain⟨rfl,rfl,rfl⟩:=hcs
   exact⟨zs,.inr ⟨_,rfl,hl,hm,by simpa using hz,hcell,hwz⟩⟩
 have hmax:∃m,W.cell? ⟨2,0,none⟩=some (.int .i64 m):=cell_of_shapedOpen_int (zero:= #[.int .i64 0]) (t:=3) hSh (of_decide_eq_true (by kernel_rfl)) (by kernel_rfl) rfl (by kernel_rfl) (by kernel_rfl) Tryz.underlying3
 have htab:=Zgr hLd
 obtain⟨hforms,bv,ofv,cv,hvv⟩:=Zez hLd
 obtain rfl:=Option.some.inj (hvarv.symm.trans hvv)
 have hltv:∀x∈pv,x.block<W.heap.size:=fun x hx=>hW'.lt x (List.mem_append_right _ (List.mem_append_right _ hx))
 have hgvlt:0<W.heap.size:=hW'.lt (.cell 0 0) (List.mem_append_right _ (List.mem_append_left _ (MemPlace.mem_row.2 ⟨0,by simp,rfl⟩)))
 clear hA0 hval0
 refine(walk a0 len0 cap0 z0 a1 len1 cap1 z1 W hmax htab hforms w0 w1).mono fun e W' ⟨he,bel⟩=>?_
 subst he
 obtain⟨fv',hdv'⟩:=Below.trod Zij (by kernel_rfl) (of_decide_eq_true (by kernel_rfl)) (v:=.slice (some ⟨bv,ofv,none⟩) 28 cv) (⟨fuv,by simpa[Value.cells]using hdv⟩:DataW.Trod enc Tryz.prog W 0 (fun _=>true) true 170 (.slice (some ⟨bv,ofv,none⟩) 28 cv) dv pv) bel hltv
 have hv':=trodVars_mk1 (enc:=enc) (spare:=fun b=>decide (b<W.heap.size)) hgv htv (var?_below bel hgv hgvlt hvarv) (by simpa[Value.cells]using hdv')
 exact⟨_,rfl,_,_,_,[],_,_,hW',trodAll_mk1 (shut_bool Tryz.underlying4 _),(trodAll_cons_mk (Below.trod Zij (by kernel_rfl) (of_decide_eq_true (by kernel_rfl)) k0 bel lt0) (trodAll_cons_mk (Below.trod Zij (by kernel_rfl) (of_decide_eq_true (by kernel_rfl)) k1 bel lt1) trodAll_mk0)),hv',bel.frame _,fun h=>by cases h⟩
theorem f_ip:Tryz.prog.inPlace 3=Rows.fnScriptCellRow.inPlace:=by kernel_rfl
theorem f_un:Tryz.prog.unfollowed 3=Rows.fnScriptCellRow.unfollowed:=by kernel_rfl
theorem f_re:Tryz.prog.recurses 3=Rows.fnScriptCellRow.recurses:=by kernel_rfl
theorem f_vn:Tryz.prog.varsNamed 3=Rows.fnScriptCellRow.named:=by kernel_rfl
theorem Z87:joinedFacts Tryz.prog 3 Tryz.f3 Rows.fnScriptCellSpec Rows.fnScriptCellRow=true:=by
 unfold joinedFacts
 rw[f_ip,f_un,f_re,f_vn]
 kernel_rfl
theorem c_wf:Rows.fnScriptCellRow.wfByText (OpenSpec.ofChange Rows.fnScriptCellSpec)=true:=by kernel_rfl
theorem Zw1:Tryz.pinned.checked.prog.mainIs=some (((true, "5111a62a6ce459847250542d3812908d26069b192767d26f2024162e5316690b"):Bool×String).1,((true, "5111a62a6ce459847250542d3812908d26069b192767d26f2024162e5316690b"):Bool×String).2.toList):=by kernel_rfl
theorem Zrr:false=Tryz.pinned.checked.prog.looks []:=by kernel_rfl
theorem Zxm:false=Rows.fnScriptCellRow.goesBy Tryz.pinned.checked.prog:=by kernel_rfl
theorem over:Rows.fnScriptCellRow.holds Tryz.pinned (OpenSpec.ofChange Rows.fnScriptCellSpec):=
 OpenClaim.holds_of_wide 3 Tryz.f3 rfl rfl rfl rfl rfl rfl rfl ⟨rfl,rfl,rfl,rfl,rfl⟩ rfl rfl rfl rfl rfl (by kernel_rfl) Tryz.func3 Z87
  (of_decide_eq_true (by kernel_rfl)) (by unfold Func.isWrapper;first|(rw[if_pos (by decide+kernel)];kernel_rfl)|(rw[if_neg (by decide+kernel)];exact⟨rfl,rfl⟩))
  (fun os started H enc _=>lifted os started H enc)
theorem card_holds:Rows.FnScriptCellCardSaid:=
 Claim7.holds_tied_plain_at .later [] [.data,.data,.data,.data,.data,.pinned] true (true, "5111a62a6ce459847250542d3812908d26069b192767d26f2024162e5316690b") false
  over (fun _ h=>by cases h) c_wf (fun _ h=>by cases h) fnScriptCell_row_tie rfl ⟨rfl,rfl⟩ Zw1 rfl
  (fun f fn hf hfn=>by
    obtain rfl:f=3:=Option.some.inj ((show Tryz.prog.funcNamed "loop.example/spreadspectrum/laws.FnScriptCell" =some 3 by kernel_rfl).symm.trans hf) |>.symm
    obtain rfl:fn=Tryz.f3:=(Option.some.inj (Tryz.func3.symm.trans hfn)).symm
    exact⟨Zrr,fun j t ht=>by
     rw[Tryz.params3]at ht
     have hm:t∈([22,22]:List TypeId):=by simpa using Array.mem_of_getElem? ht
     have hall:(([22,22]:List TypeId).all fun u=>!Tryz.prog.wantsStandIn u)=true:=by kernel_rfl
     exact(show Tryz.prog.wantsStandIn t=false by simpa using List.all_eq_true.1 hall t hm)⟩)
  Zxm
#print axioms card_holds
end Go.Proofs.YtcjihfongfefoaaGreatDoor.fnScriptCell
