/- The law FnScriptPrefix holds for every input that the given row lets in: the program's answer is the reference's. No condition of its own. -/
import Derived.Test.YtcjihfongfefoaaGreatDoorRows
import Derived.WalkKit
import Derived.ProofKit
import Derived.OpenShut
import Derived.ShutString
import Derived.ChangeOld
import Derived.Below
import Derived.Lib.SmallJoins
import Derived.ChangeVars
import Derived.WalkSmall
import Derived.LaidMore
import Derived.Lay
import Derived.Stop.Joined
import Derived.SevenTiedAt
import Derived.Shelf.Vars
import Derived.Test.YtcjihfongfefoaaGreatDoorCards
import Derived.Test.YtcjihfongfefoaaGreatDoorTie
import Derived.Test.YtcjihfongfefoaaGreatDoorQ01
import Derived.Test.YtcjihfongfefoaaGreatDoorJ23
import Derived.Test.YtcjihfongfefoaaGreatDoorJ24
import Derived.Test.YtcjihfongfefoaaGreatDoorJ37
import Derived.Test.YtcjihfongfefoaaGreatDoorJ38
import Derived.Test.YtcjihfongfefoaaGreatDoorJ49
namespace Go.Proofs.YtcjihfongfefoaaGreatDoor.fnScriptPrefix
open Go.ChangeShapes Go.WideShapes Go.ChangeAt Go.RowKit
open Go.ChangeMaps (open_string shut_string)
set_option maxHeartbeats 25600000
set_option maxRecDepth 100000
set_option linter.unusedVariables false
theorem own:ownKnob Tryz.prog.godebug=none:=by kernel_rfl
theorem Zij:laidOutB Tryz.prog=true:=by kernel_rfl
def Zy6 (k:IntKind) (w:World) (a:Option Addr) (len cap:Nat) (zs:List Int):Prop:=
 (a=none∧len=0∧cap=0∧zs=[])∨
 ∃x,a=some x∧len≤cap∧cap≤maxLen∧zs.length=cap∧(∀i,i<zs.length→w.cell? (x.add i)=some (.int k (zs.getD i 0)))∧∀n∈zs,(Lit.int k n).wf=true
theorem cut_here {t:ByteArray} {k:Nat} (hk:k<t.size) (h:((t[k].toNat:Int)==10)=true):CutOk t (k+1):=by
 have h1:t[k].toNat=10:=by have:=beq_iff_eq.1 h;omega
 have e:t[k]=10:=UInt8.toNat_inj.1 h1
 refine .inr ⟨by omega,by omega,?_⟩
 show(bts t)[k]?=some 10
 have hl:k<(bts t).length:=by rw[Zbz];exact hk
 rw[List.getElem?_eq_getElem hl]
 exact congrArg some e
set_option maxRecDepth 100000
theorem walk (a0:Option Addr) (len0 cap0:Nat) (z0:List Int) (a1:Option Addr) (len1 cap1:Nat) (z1:List Int) (w:World) (hmax:∃m,w.cell? ⟨2,0,none⟩=some (.int .i64 m)) (htab:Lib.TabIs Tryz.prog w "internal/strconv.uint64pow10" .u64 Lib.pow10Tab) (hforms:FormsW w) (w0:Zy6 .u8 w a0 len0 cap0 z0) (w1:Zy6 .u8 w a1 len1 cap1 z1):
 Calls Tryz.prog 5 #[.slice a0 len0 cap0,.slice a1 len1 cap1] w fun e w'=>e= .returned (.bool true)∧Below w.heap.size w w':=by
 by_cases hn:len0≤1048576
 ·by_cases hn1:len1≤1048576
  ·have hC:=Zoe w0 (by omega)
   have HMX:=Lib.hid (show MaxW w from hmax)
   have HTB:=Lib.hid (show TabW w from htab)
   have HFO:=Lib.hid hforms
   clear w0 w1 hmax htab hforms
   go_enter Tryz.func5,Tryz.ntmps5
   go_wp2_with fail
   refine(Zabm hC).mono ?_;rintro e w1 ⟨t,rfl,ht,hB1⟩
   clear hC
   have HIP:=Lib.hid (fun(x:ByteArray) c (ht:TabW c) (hm:MaxW c) (hf:FormsW c) (hs:x.size≤1099511627776)=>Zln x c ht hm hf hs)
   have HI1:=Lib.hid (fun c (ht':TabW c) (hm:MaxW c) (hf:FormsW c)=>Zln t c ht' hm hf (by omega))
   have HS1:=Lib.hid (fun c=>Zyq t c (by omega))
   have HCU:=Lib.hid (fun(c:Nat) (hc:CutOk t c) (h:t.size≤20000)=>cut_says hc h)
   obtain⟨T,hT⟩:∃T,Zb4 t=T:=⟨_,rfl⟩
   rw[hT]at HI1 HS1 HCU
   clear hT
   have hne:(T.toList != T.toList)=false:=by simp
   obtain⟨A,hA⟩:∃A,A=len1%12:=⟨_,rfl⟩
   have m1:(len1:Int).tmod 12=(A:Int):=by rw[hA];rfl
   have m2:(len1:Int)%12=(A:Int):=by rw[hA];rfl
   have hA12:A<12:=by rw[hA];exact Nat.mod_lt _ (by omega)
   obtain⟨A1,ka,hA1⟩:∃A1:Nat,IntKind.i64.wrap (1+(A:Int))=(A1:Int)∧A1≤12:=⟨A+1,(by rw[IntWalk.i64_in _ (by omega)];omega),(by omega)⟩
   clear hA
   go_wp2_with fail
   refine(HI1.out _ (HTB.out.below hB1) (HMX.out.below hB1) (HFO.out.below hB1)).mono ?_;rintro e w2 ⟨rfl,hb2⟩
   have hB2:=hB1.trans (hb2.mono hB1.size)
   clear hB1 hb2
   go_wp2_with fail
   refine(HS1.out _).mono ?_;rintro e w3 ⟨rfl,hb3⟩
   have hB3:=hB2.trans (hb3.mono hB2.size)
   clear hB2 hb3
   go_wp2_with fail
   go_loopw [7,8,9] (fun l c i wr=>∃(L C k:Nat),l= .int .i64 (L:Nat)∧c= .int .i64 (C:Nat)∧i= .int .i64 (k:Nat)∧L≤k∧k≤t.size∧Hid (CutOk t C)∧C≤k∧wr=w3) (fun _ _ i _=>t.size-(intOf i).toNat)
   case atStart=>exact⟨0,0,0,rfl,rfl,rfl,Nat.le_refl _,Nat.zero_le _,Lib.hid (.inl rfl),Nat.le_refl _,rfl⟩
   case round=>
    obtain⟨L,C,k,rfl,rfl,rfl,hLk,hk,HK,hCk,rfl⟩:=hrel
    by_cases hlt:k<t.size
    ·have hlt':(k:Int)<(t.size:Int):=by omega
     by_cases h10:((t[k].toNat:Int)==10)=true
     ·have HN:=Lib.hid (cut_here hlt h10)
      obtain⟨L1,kl,hL1,hL1'⟩:∃L1:Nat,IntKind.i64.wrap ((L:Int)+1)=(L1:Int)∧L1≤k+1∧L1=L+1:=⟨L+1,(by rw[IntWalk.i64_in _ (by omega)];omega),by omega,rfl⟩
      clear hL1'
      by_cases h1:L1≤A1
      ·have h1':(L1:Int)≤(A1:Int):=by omega
       go_wp2_with fail
       go_roundw
       case rel=>exact⟨L1,k+1,k+1,rfl,by go_num,by go_num,hL1,by omega,HN,Nat.le_refl _,by first|rfl|trivial⟩
       case measure=>simp[intOf];omega
      ·have h1':¬(L1:Int)≤(A1:Int):=by omega
       go_wp2_with fail
       go_roundw
       case rel=>exact⟨L1,C,k+1,rfl,rfl,by go_num,hL1,by omega,HK,by omega,by first|rfl|trivial⟩
       case measure=>simp[intOf];omega
     ·have h10':((t[k].toNat:Int)==10)=false:=by simpa using h10
      clear h10
      go_wp2_with fail
      go_roundw
      case rel=>exact⟨L,C,k+1,rfl,rfl,by go_num,by omega,by omega,HK,by omega,by first|rfl|trivial⟩
      case measure=>simp[intOf];omega
    ·have hlt':¬(k:Int)<(t.size:Int):=by omega
     have hCt:(C:Int)≤(t.size:Int):=by omega
     have hez:(t.extract 0 C).size=C:=Zbc (by omega)
     have HI2:=Lib.hid (fun c (ht':TabW c) (hm:MaxW c) (hf:FormsW c)=>Zln (t.extract 0 C) c ht' hm hf (by omega))
     have HC2:=Lib.hid (fun(h:t.size≤20000)=>HCU.out C HK.out h)
     obtain⟨T1,hT1⟩:∃T1,Zb4 (t.extract 0 C)=T1:=⟨_,rfl⟩
     rw[hT1]at HI2 HC2
     clear hT1 hez HCU m1 m2 ka
     go_wp2_with fail
     refine(HI2.out _ (HTB.out.below hB3) (HMX.out.below hB3) (HFO.out.below hB3)).mono ?_;rintro e w4 ⟨rfl,hb4⟩
     have hB4:=hB3.trans (hb4.mono hB3.size)
     clear hB3 hb4
     by_cases hlong:20000<t.size
     ·have hlong':(20000:Int)<(t.size:Int):=by omega
      go_wp2_with fail
      go_ret
      exact⟨rfl,hB4⟩
     ·have hlong':¬(20000:Int)<(t.size:Int):=by omega
      obtain⟨q1,q2⟩:=HC2.out (by omega)
      have q1':(T1.size:Int)≤(T.size:Int):=by omega
      have hoo:(T1.toList==T1.toList)=true:=by simp
      go_wp2_with fail
      go_ret
      exact⟨rfl,hB4⟩
  ·have hle:(1048576:Int)<(len1:Int):=by omega
   have hle0:¬(1048576:Int)<(len0:Int):=by omega
   clear hmax htab hforms
   go_enter Tryz.func5,Tryz.ntmps5
   go_wp2_with fail
   go_ret
   exact⟨rfl,Below.refl _ _⟩
 ·have hle:(1048576:Int)<(len0:Int):=by omega
  clear hmax htab hforms
  go_enter Tryz.func5,Tryz.ntmps5
  go_wp2_with fail
  go_ret
  exact⟨rfl,Below.refl _ _⟩
def laidL:List (String×DataW Unit):=[("math/bits.deBruijn32tab",Rows.laid_math_bits_deBruijn32tab),("math/bits.deBruijn64tab",Rows.laid_math_bits_deBruijn64tab),("internal/strconv.uint64pow10",Rows.laid_internal_strconv_uint64pow10),("unicode/utf8.acceptRanges",Rows.laid_unicode_utf8_acceptRanges),("loop.example/spreadspectrum/impl.forms",Rows.laid_loop_example_spreadspectrum_impl_forms),("unicode/utf8.first",Rows.laid_unicode_utf8_first)]
theorem Zfs {H:Type} {enc:TypeId×Value→H} {a:Assume} {C:Checked} {os:Os} {f:FuncId} {fn:Func} {s:ChangeSpec} {conds:List PathCond} {Zdt fresh handsOn again:Bool} {X:World→Array Value→Prop}
 (hX:∀(w w':World) (args:Array Value),w.heap=w'.heap→X w args→X w' args)
 (own:ownKnob C.prog.godebug=none) (started:os.Started) (noInit:C.prog.inits.idxOf? f=none) (hfn:C.prog.funcs[f]?=some fn)
 (witness:∃(w:World) (tape:Tape) (i:Input),w.os=os∧(w.forCall tape i).Shaped C.prog∧i.vars=[]∧Input.okWide C.prog (w.forCall tape i) .any w.heap.size f i∧
   ((s.pre enc C.prog fn conds Zdt (w.forCall tape i).memory i.args∧X (w.forCall tape i).memory i.args)∧sizedMet enc C.prog fn (OpenSpec.ofChange s) Zdt (w.forCall tape i).memory i.args)∧a.holds C.prog (lone (Frame.enter C.prog f i.args .normal) [] (w.forCall tape i)))
 (contract:∀(W:World) (base:Nat) (args:Array Value) (ds gs:List (DataW H)) (before:List MemPlace),
   (∀(j:Nat) t v,fn.params[j]?=some t→args[j]?=some v→Value.okWide C.prog W .any base t v)→
   DataW.Whole enc C.prog fn.params.toList s.vars Zdt W args.toList ds gs before→
   conds.all (PathCond.test C.prog ⟨fn.params.toList,ds,s.plain.varTypes C.prog,gs⟩)=true→
   X W args→W.ShapedOpen C.prog→
   Calls C.prog f args W fun e W'=>∃v,e= .returned v∧s.post enc C.prog fn Zdt fresh handsOn again W args v W'):
 ReturnsInHanded a C os f .any (fun w args=>(s.pre enc C.prog fn conds Zdt w args∧X w args)∧sizedMet enc C.prog fn (OpenSpec.ofChange s) Zdt w args) (s.post enc C.prog fn Zdt fresh handsOn again):=by
 refine returnsInHanded_of_calls own started noInit witness ?_
 intro w tape i _ hsh _ hok hpre hholds
 obtain⟨_,_,_,fn',hfn',_,_,_,_,hval⟩:=hok
 have e:fn'=fn:=Option.some.inj (hfn'.symm.trans hfn)
 subst e
 obtain⟨⟨⟨ds,gs,before,hw,hc⟩,hx⟩,hz⟩:=hpre
 have hw':=DataW.Whole.of_heap (w':=w.forCall tape i) (by rfl) hw
 refine(contract (w.forCall tape i) w.heap.size i.args ds gs before hval hw' hc (hX _ _ _ (by rfl) hx) hsh).mono fun e W' ⟨v,he,hp⟩=>?_
 subst he
 exact ChangeSpec.post_blind hp
theorem Zgr {W:World} (h:laidMetH Tryz.prog laidL W):Lib.TabIs Tryz.prog W "internal/strconv.uint64pow10" .u64 Lib.pow10Tab:=by
 have h1:=h.filter (fun x=>x.1== "internal/strconv.uint64pow10")
 rw[show laidL.filter (fun x=>x.1== "internal/strconv.uint64pow10")=[("internal/strconv.uint64pow10",Lib.tabData .u64 Lib.pow10Tab)]by kernel_rfl,MakeChecks.laidMetH_plain _ _ _ (by kernel_rfl)]at h1
 exact Lib.tabIs_of_head (g:=1) (t:=218) (e:=192) (n:=20) (by kernel_rfl) (by kernel_rfl) Tryz.underlying218 Tryz.underlying192 (by kernel_rfl) (by kernel_rfl) h1
theorem Zez {W:World} (h:laidMetH Tryz.prog laidL W):FormsW W∧∃b off c,W.var? Tryz.prog "loop.example/spreadspectrum/impl.forms" =some #[.slice (some ⟨b,off,none⟩) 28 c]:=by
 have h1:=h.filter (fun x=>x.1== "loop.example/spreadspectrum/impl.forms")
 rw[show laidL.filter (fun x=>x.1== "loop.example/spreadspectrum/impl.forms")=[("loop.example/spreadspectrum/impl.forms",Zqg)]by kernel_rfl,MakeChecks.laidMetH_plain _ _ _ (by kernel_rfl)]at h1
 exact Zll h1
theorem lifted (os:Os) (started:os.Started) (H:Type) (enc:TypeId×Value→H):
 ReturnsInHanded {} Tryz.checked os 5 .any (fun w args=>(Rows.fnScriptPrefixSpec.pre enc Tryz.prog Tryz.f5 [] false w args∧laidMetH Tryz.prog laidL w)∧sizedMet enc Tryz.prog Tryz.f5 (OpenSpec.ofChange Rows.fnScriptPrefixSpec) false w args)
  (Rows.fnScriptPrefixSpec.post enc Tryz.prog Tryz.f5 false true false false):=by
 refine Zfs (C:=Tryz.checked) (X:=fun w _=>laidMetH Tryz.prog laidL w) (fun _ _ _ hh h=>h.of_heap hh) own started (by kernel_rfl) Tryz.func5
  (ChangeSpec.witness_shaped (enc:=enc) (C:=Tryz.checked) (os:=os) (X:=fun w _=>laidMetH Tryz.prog laidL w) false (World.laidAll Tryz.prog os laidL) #[.slice none 0 0,.slice none 0 0] 8 (World.laidAll_os _ _ _)
    (World.shaped_of_ZipB (by kernel_rfl) (by kernel_rfl)) (by kernel_rfl) (by kernel_rfl) (by kernel_rfl)
    (by rw[MakeChecks.laidMetH_plain _ _ _ (by kernel_rfl)];exact laidMet_laidAll _ (by kernel_rfl) (by kernel_rfl))) ?_
 intro W base args ds gs before hval0 hW hcnd hLd hSh
 have hval:∀(j:Nat) t v,Tryz.f5.params[j]?=some t→args[j]?=some v→Value.okWide Tryz.prog W .any base t v:=hval0
 have hW':=hW
 obtain⟨p,q,hA0,hV,rfl,hfz,hnd⟩:=hW
 have hA:DataW.TrodAll enc Tryz.prog W 0 (fun _=>true) true Tryz.f5.params.toList args.toList ds p:=hA0
 rw[Tryz.params5]at hA hval
 obtain⟨v0,vs0,d0,ds0,p0,q0,hargs,rfl,rfl,h0,r0⟩:=trodAll_cons hA
 obtain⟨v1,vs1,d1,ds1,p1,q1,rfl,rfl,rfl,h1,r1⟩:=trodAll_cons r0
 obtain⟨rfl,rfl,rfl⟩:=trodAll_nil r1
 obtain rfl:args= #[v0,v1]:=by cases args;simp_all
 have hV2:DataW.TrodVars enc Tryz.prog W (fun _=>true) ["loop.example/spreadspectrum/impl.forms"] gs q:=hV
 obtain⟨gv,tv,csv,fuv,dv,pv,rfl,hgv,htv,hvarv,hdv,rfl⟩:=trodVars_one hV2
 obtain rfl:=Option.some.inj (forms_g.symm.trans hgv)
 obtain rfl:=Option.some.inj (forms_t.symm.trans htv)
 have k0:=h0
 have lt0:∀x∈p0,x.block<W.heap.size:=by obtain⟨m,hm⟩:=k0;exact DataW.trod_lt m _ _ _ hm
 have k1:=h1
 have lt1:∀x∈p1,x.block<W.heap.size:=by obtain⟨m,hm⟩:=k1;exact DataW.trod_lt m _ _ _ hm
 obtain⟨a0,len0,cap0,rfl⟩:=okWide_slice Tryz.underlying22 (hval 0 22 v0 rfl rfl)
 obtain⟨z0,w0⟩:∃zs,Zy6 .u8 W a0 len0 cap0 zs:=by
  obtain⟨fuel,hf⟩:=h0
  rcases open_ints Tryz.underlying22 Tryz.underlying5 (by kernel_rfl) hf with ⟨hcs,_⟩|⟨x,l,c,zs,hcs,_,hl,hm,hz,_,hcell,hwz⟩
  ·simp[Value.cells]at hcs
   obtain⟨rfl,rfl,rfl⟩:=hcs
   exact⟨[],.inl ⟨rfl,rfl,rfl,rfl⟩⟩
  ·simp[Value.cells]at hcs
   obtain⟨rfl,rfl,rfl⟩:=hcs
   exact⟨zs,.inr ⟨_,rfl,hl,hm,by simpa using hz,hcell,hwz⟩⟩
 obtain⟨a1,len1,cap1,rfl⟩:=okWide_slice Tryz.underlying22 (hval 1 22 v1 rfl rfl)
 obtain⟨z1,w1⟩:∃zs,Zy6 .u8 W a1 len1 cap1 zs:=by
  obtain⟨fuel,hf⟩:=h1
  rcases open_ints Tryz.underlying22 Tryz.underlying5 (by kernel_rfl) hf with ⟨hcs,_⟩|⟨x,l,c,zs,hcs,_,hl,hm,hz,_,hcell,hwz⟩
  ·simp[Value.cells]at hcs
   obtain⟨rfl,rfl,rfl⟩:=hcs
   exact⟨[],.inl ⟨rfl,rfl,rfl,rfl⟩⟩
  ·simp[Value.cells]at hcs
   obtain⟨rfl,rfl,rfl⟩:=hcs
   exact⟨zs,.inr ⟨_,rfl,hl,hm,by simpa using hz,hcell,hwz⟩⟩
 have hmax:∃m,W.cell? ⟨2,0,none⟩=some (.int .i64 m):=cell_of_shapedOpen_int (zero:= #[.int .i64 0]) (t:=3) hSh (of_decide_eq_true (by kernel_rfl)) (by kernel_rfl) rfl (by kernel_rfl) (by kernel_rfl) Tryz.underlying3
 have htab:=Zgr hLd
 obtain⟨hforms,bv,ofv,cv,hvv⟩:=Zez hLd
 obtain rfl:=Option.some.inj (hvarv.symm.trans hvv)
 have hltv:∀x∈pv,x.block<W.heap.size:=fun x hx=>hW'.lt x (List.mem_append_right _ (List.mem_append_right _ hx))
 have hgvlt:0<W.heap.size:=hW'.lt (.cell 0 0) (List.mem_append_right _ (List.mem_append_left _ (MemPlace.mem_row.2 ⟨0,by simp,rfl⟩)))
 clear hA0 hval0
 refine(walk a0 len0 cap0 z0 a1 len1 cap1 z1 W hmax htab hforms w0 w1).mono fun e W' ⟨he,bel⟩=>?_
 subst he
 obtain⟨fv',hdv'⟩:=Below.trod Zij (by kernel_rfl) (of_decide_eq_true (by kernel_rfl)) (v:=.slice (some ⟨bv,ofv,none⟩) 28 cv) (⟨fuv,by simpa[Value.cells]using hdv⟩:DataW.Trod enc Tryz.prog W 0 (fun _=>true) true 170 (.slice (some ⟨bv,ofv,none⟩) 28 cv) dv pv) bel hltv
 have hv':=trodVars_mk1 (enc:=enc) (spare:=fun b=>decide (b<W.heap.size)) hgv htv (var?_below bel hgv hgvlt hvarv) (by simpa[Value.cells]using hdv')
 exact⟨_,rfl,_,_,_,[],_,_,hW',trodAll_mk1 (shut_bool Tryz.underlying4 _),(trodAll_cons_mk (Below.trod Zij (by kernel_rfl) (of_decide_eq_true (by kernel_rfl)) k0 bel lt0) (trodAll_cons_mk (Below.trod Zij (by kernel_rfl) (of_decide_eq_true (by kernel_rfl)) k1 bel lt1) trodAll_mk0)),hv',bel.frame _,fun h=>by cases h⟩
theorem f_ip:Tryz.prog.inPlace 5=Rows.fnScriptPrefixRow.inPlace:=by kernel_rfl
theorem f_un:Tryz.prog.unfollowed 5=Rows.fnScriptPrefixRow.unfollowed:=by kernel_rfl
theorem f_re:Tryz.prog.recurses 5=Rows.fnScriptPrefixRow.recurses:=by kernel_rfl
theorem f_vn:Tryz.prog.varsNamed 5=Rows.fnScriptPrefixRow.named:=by kernel_rfl
theorem Z87:joinedFacts Tryz.prog 5 Tryz.f5 Rows.fnScriptPrefixSpec Rows.fnScriptPrefixRow=true:=by
 unfold joinedFacts
 rw[f_ip,f_un,f_re,f_vn]
 kernel_rfl
theorem c_wf:Rows.fnScriptPrefixRow.wfByText (OpenSpec.ofChange Rows.fnScriptPrefixSpec)=true:=by kernel_rfl
theorem Zw1:Tryz.pinned.checked.prog.mainIs=some (((true, "5111a62a6ce459847250542d3812908d26069b192767d26f2024162e5316690b"):Bool×String).1,((true, "5111a62a6ce459847250542d3812908d26069b192767d26f2024162e5316690b"):Bool×String).2.toList):=by kernel_rfl
theorem Zrr:false=Tryz.pinned.checked.prog.looks []:=by kernel_rfl
theorem Zxm:false=Rows.fnScriptPrefixRow.goesBy Tryz.pinned.checked.prog:=by kernel_rfl
theorem over:Rows.fnScriptPrefixRow.holds Tryz.pinned (OpenSpec.ofChange Rows.fnScriptPrefixSpec):=
 OpenClaim.holds_of_wide 5 Tryz.f5 rfl rfl rfl rfl rfl rfl rfl ⟨rfl,rfl,rfl,rfl,rfl⟩ rfl rfl rfl rfl rfl (by kernel_rfl) Tryz.func5 Z87
  (of_decide_eq_true (by kernel_rfl)) (by unfold Func.isWrapper;first|(rw[if_pos (by decide+kernel)];kernel_rfl)|(rw[if_neg (by decide+kernel)];exact⟨rfl,rfl⟩))
  (fun os started H enc _=>lifted os started H enc)
theorem card_holds:Rows.FnScriptPrefixCardSaid:=
 Claim7.holds_tied_plain_at .later [] [.data,.data,.data,.data,.data,.pinned] true (true, "5111a62a6ce459847250542d3812908d26069b192767d26f2024162e5316690b") false
  over (fun _ h=>by cases h) c_wf (fun _ h=>by cases h) fnScriptPrefix_row_tie rfl ⟨rfl,rfl⟩ Zw1 rfl
  (fun f fn hf hfn=>by
    obtain rfl:f=5:=Option.some.inj ((show Tryz.prog.funcNamed "loop.example/spreadspectrum/laws.FnScriptPrefix" =some 5 by kernel_rfl).symm.trans hf) |>.symm
    obtain rfl:fn=Tryz.f5:=(Option.some.inj (Tryz.func5.symm.trans hfn)).symm
    exact⟨Zrr,fun j t ht=>by
     rw[Tryz.params5]at ht
     have hm:t∈([22,22]:List TypeId):=by simpa using Array.mem_of_getElem? ht
     have hall:(([22,22]:List TypeId).all fun u=>!Tryz.prog.wantsStandIn u)=true:=by kernel_rfl
     exact(show Tryz.prog.wantsStandIn t=false by simpa using List.all_eq_true.1 hall t hm)⟩)
  Zxm
#print axioms card_holds
end Go.Proofs.YtcjihfongfefoaaGreatDoor.fnScriptPrefix
