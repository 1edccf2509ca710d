/- Kz Ob Oc Ki La -/
import Derived.Test.YtcjihfongfefoaaGreatDoorJ18
import Derived.Test.YtcjihfongfefoaaGreatDoorJ21
import Derived.Test.YtcjihfongfefoaaGreatDoorShlf
namespace Go.Proofs.YtcjihfongfefoaaGreatDoor
open Go.RowKit
set_option maxHeartbeats 25600000
set_option maxRecDepth 100000
theorem Z2q {ops:Array Oper} {rest:List Oper} {o:Oper} {a:Act} {Q:Exit→Act→World→Prop} (wr:World) (hgd:o.guard=none) (s x:Operand)
 (ho:o.op= .call {callee:=.builtin .append,args:= #[s,x],argTypes:= #[22,22]})
 (lo:Nat) (v:Value) (l r:List Int) (ao:Option Addr) (m c:Nat) (hs:a.eval s=v) (hown:Zg1 wr lo v l) (hx:a.eval x= .slice ao m c) (hr:RdB wr ao m r)
 (hc:ao=none→c=0) (hlen:l.length+m≤1099511627776) (hlo:lo≤wr.heap.size)
 (h:∀v' w',Zg1 w' lo v' (l++r)→Below lo wr w'→wpList Tryz.prog ops Q rest (a.put o.dst v') w'):
 wpList Tryz.prog ops Q (o::rest) a wr:=
 wpList_plain hgd fun _ hK=>Z39 22 5 1 (0:Int) Tryz.underlying22 Zct rfl (by decide) (fun _=>rfl) wr s x ho lo v l r ao m c hs hown hx hr hc hlen hlo fun v' w' h2 _ h4=>hK _ _ (h v' w' h2 h4)
theorem Zs1 {ops:Array Oper} {o:Oper} {a:Act} {K:Act→World→Prop} {Q:Exit→Act→World→Prop} {E:Prop} (wr:World) (hgd:o.guard=none) (s x:Operand)
 (ho:o.op= .call {callee:=.builtin .append,args:= #[s,x],argTypes:= #[22,22]})
 (lo:Nat) (v:Value) (l r:List Int) (ao:Option Addr) (m c:Nat) (hs:a.eval s=v) (hown:Zg1 wr lo v l) (hx:a.eval x= .slice ao m c) (hr:RdB wr ao m r)
 (hc:ao=none→c=0) (hlen:l.length+m≤1099511627776) (hlo:lo≤wr.heap.size)
 (h:∀v' w',Zg1 w' lo v' (l++r)→Below lo wr w'→K (a.put o.dst v') w'):
 if Region.wanted o (yielded ops a.tmps)=true then Oper.wp Tryz.prog o a wr K Q else E:=by
 have hw:Region.wanted o (yielded ops a.tmps)=true:=by simp[Region.wanted,hgd]
 rw[if_pos hw]
 exact Z39 22 5 1 (0:Int) Tryz.underlying22 Zct rfl (by decide) (fun _=>rfl) wr s x ho lo v l r ao m c hs hown hx hr hc hlen hlo fun v' w' h2 _ h4=>h v' w' h2 h4
theorem Zul (w:World) (l:List Int) (t:TypeId) (b n:Nat) (hb:b=w.heap.size) (hn:n=l.length) (hs:l.length≤1099511627776):RdB (w.alloc (.cells (l.map (Value.int .u8)).toArray t)) (some ⟨b,0,none⟩) n l:=by
 subst hb hn
 refine⟨rfl,hs,fun i hi=>⟨w.heap.size,0,rfl,?_⟩⟩
 rw[Nat.zero_add]
 exact(Box.new w _ t).cell (by simp[hi])
theorem xor1 {v:Int} (h:v=48∨v=49):bits .xor .u8 v 1=97-v:=by rcases h with rfl|rfl<;>decide
theorem Z52 (s:ByteArray) (k:Nat) {Y:ByteArray} (hY:Y=fixB (s.extract (k*7) (k*7+7))) (hz:Y.size=7) (h2:2<(Zab Y).length) (h4:4<(Zab Y).length) (h5:5<(Zab Y).length) (h6:6<(Zab Y).length):
 Zab (hdcT s k)++[(Zab Y)[2],(Zab Y)[4],(Zab Y)[5],(Zab Y)[6]]=Zab (hdcT s (k+1)):=by
 rw[hdcT,Zhc,←Zxi hz h2 h4 h5 h6,hY];rfl
theorem list7 {L:List Int} (h:L.length=7):∃a b c d e f g,L=[a,b,c,d,e,f,g]:=by
 match L,h with
 |[a,b,c,d,e,f,g],_=>exact⟨a,b,c,d,e,f,g,rfl⟩
theorem Z3m (s:ByteArray) (k:Nat) {Y:ByteArray} (hY:Y=fixB (s.extract (k*7) (k*7+7))) (hz:Y.size=7) {y0 y1 y2 y3 y4 y5 y6:Int} (h:Zab Y=[y0,y1,y2,y3,y4,y5,y6]):
 Zab (hdcT s k)++[y2,y4,y5,y6]=Zab (hdcT s (k+1)):=by
 have:=Z52 s k hY hz (by rw[h];simp) (by rw[h];simp) (by rw[h];simp) (by rw[h];simp)
 simp only[h]at this
 exact this
theorem Zrw (s:ByteArray) (w:World):Calls Tryz.prog 271 #[.string s] w (Z5q w (hamR s)):=by
 by_cases h1:Zan s=true
 ·have h6:=Zcm h1
  obtain⟨m,hm⟩:∃m,m=s.size%7:=⟨_,rfl⟩
  have e1:(s.size:Int).tmod 7=(m:Int):=by rw[hm];rfl
  have e2:(s.size:Int)%7=(m:Int):=by rw[hm];rfl
  by_cases h2:m=0
  ·have hr:=Lib.hid (Zvl h1 (by omega))
   obtain⟨M,hM⟩:∃M,M=s.size/7:=⟨_,rfl⟩
   rw[←hM]at hr
   have hM7:M*7=s.size:=by omega
   have HM:=Lib.hid hM7
   have HA:=Lib.hid (Zb5 h1)
   have e3:(s.size:Int).tmod 7=0:=by rw[e1,h2];rfl
   have e4:(s.size:Int)%7=0:=by rw[e2,h2];rfl
   have e5:(s.size:Int).tdiv 7=(M:Int):=by rw[hM];rfl
   have e6:(s.size:Int)/7=(M:Int):=by rw[hM];rfl
   have hM86:M≤86:=by omega
   clear hm hM hM7 e1 e2 h2
   go_enter Tryz.func271,Tryz.ntmps271
   go_wp2_with fail
   refine(Za2 _ _).mono ?_;rintro e w' ⟨rfl,rfl⟩
   rw[h1]
   clear h1
   go_wp2_with (at_make;refine Zj0 w rfl _ _ rfl .i64 .i64 (M*4) _ rfl rfl rfl (by omega) ?_;intro w1 ho0 hb0)
   clear e3 e4 e5 e6
   go_wp2_with fail
   go_loopw [5,6,7] (fun o n i wr=>∃k P:Nat,k≤M∧Hid (P=k*7)∧i= .int .i64 P∧Zg1 wr w.heap.size o (Zab (hdcT s k))∧n= .int .i64 (decN s k:Nat)∧Below w.heap.size w wr) (fun _ _ i _=>s.size-(intOf i).toNat)
   case atStart=>exact⟨0,0,Nat.zero_le _,Lib.hid rfl,rfl,ho0,rfl,hb0⟩
   case round=>
    clear ho0 hb0
    obtain⟨k,P,hk,HP,rfl,ho,rfl,hb⟩:=hrel
    have hdn:=Z0p s k
    have hP:=HP.out
    have hMM:=HM.out
    by_cases hlt:k<M
    ·have hPs:P+7≤s.size:=by omega
     have hdz:=Zjh (s:=s) k (by omega)
     obtain⟨Q,hQ⟩:∃Q,Q=P+7:=⟨_,rfl⟩
     have hQI:(P:Int)+7=(Q:Int):=by rw[hQ];rfl
     have HPQ:=Lib.hid (show Q=(k+1)*7 by omega)
     obtain⟨X,hX⟩:∃X,X=s.extract P Q:=⟨_,rfl⟩
     have hXz:X.size=7:=by rw[hX,Zbc (by omega)];omega
     have hXB:allS bitC X=true:=by rw[hX];exact Zeb P Q HA.out
     have hX2:X=s.extract (k*7) (k*7+7):=by rw[hX,hQ,hP]
     have HX:=Lib.hid hX
     have HXB:=Lib.hid hXB
     have HX2:=Lib.hid hX2
     have hsy:=Znj X 7 (Nat.le_refl _)
     have hPQ:P≤Q:=by omega
     have hQs:Q≤s.size:=by omega
     have hzb:=hb.size
     have hk6:k≤600:=by omega
     clear hP hMM hQ hX hXB hX2
     have hcl:(Zab X).length=7:=by rw[Zac];exact hXz
     go_wp2_with (first|(with_reducible refine Z4v 9 22 5 Tryz.underlying9 Tryz.underlying22 Tryz.underlying5 _ rfl (.tmp 34) rfl (s.extract P Q) rfl ?_;rw[←HX.out];intro w2 cc hrow hb2 hsz2 hcc;have hrd2:=hrow.rd (n:=7) hcl.symm (by omega))|(with_reducible refine Zca 22 5 9 Tryz.underlying22 Tryz.underlying5 Tryz.underlying9 _ rfl (.tmp 36) rfl rfl hrd2 ?_;rw[Zc6]))
     refine(Zxk X _ (by omega)).mono ?_;rintro e w' ⟨rfl,rfl⟩
     rw[hXz]
     by_cases hy:0<synK X 7
     ·have HN:=Lib.hid (show decN s (k+1)=decN s k+1 by rw[decN,←HX2.out,if_pos hy])
      have HY:=Lib.hid (show fixB X=Zfv X (synK X 7-1)by unfold fixB;rw[if_pos hy])
      obtain⟨p,hp⟩:∃p,p=synK X 7:=⟨_,rfl⟩
      rw[←hp]at hy hsy HY
      rw[←hp]
      clear hp
      obtain⟨q,rfl⟩:∃q,p=q+1:=⟨p-1,by omega⟩
      have hq:q<(Zab X).length:=by omega
      have hc1:=hrow.cell hq
      have hf1:=hrow.free hq
      have hbit:=Zdc HXB.out _ (List.getElem_mem hq)
      have HFL:=Lib.hid (Zn2 (X:=X) (q:=q) (by omega) HXB.out)
      have HF:=Lib.hid (show fixB X=Zfv X q by rw[HY.out,Nat.add_sub_cancel])
      generalize hvv:(Zab X)[q]=v at*
      have hx1:=xor1 hbit
      have hrow3:=hrow.set (i:=q) (97-v)
      have hb3:=hrow.belowSet hb2 q (.int .u8 (97-v))
      rw[←HFL.out]at hrow3
      have ho3:=OwnVF.below ho hb3
      have hqI:((q+1:Nat):Int)-1=(q:Int):=by omega
      have hq7:(q:Int)<7:=by omega
      clear hvv hbit hrow hb2 ho hrd2
      have hYz:(Zfv X q).size=7:=by rw[Zjn (by omega)];exact hXz
      have HT:Hid (∀y0 y1 y2 y3 y4 y5 y6:Int,Zab (Zfv X q)=[y0,y1,y2,y3,y4,y5,y6]→Zab (hdcT s k)++[y2,y4,y5,y6]=Zab (hdcT s (k+1))):=Lib.hid (fun _ _ _ _ _ _ _ h=>Z3m s k (by rw[←HF.out,HX2.out]) hYz h)
      obtain⟨y0,y1,y2,y3,y4,y5,y6,hL⟩:=list7 (L:=Zab (Zfv X q)) (by rw[Zac];exact hYz)
      have HL:=Lib.hid (HT.out _ _ _ _ _ _ _ hL)
      rw[hL]at hrow3
      clear hL HT hYz HFL HF
      have c2:_=some (Value.int .u8 y2):=hrow3.cell (i:=2) (by simp)
      have c4:_=some (Value.int .u8 y4):=hrow3.cell (i:=4) (by simp)
      have c5:_=some (Value.int .u8 y5):=hrow3.cell (i:=5) (by simp)
      have c6:_=some (Value.int .u8 y6):=hrow3.cell (i:=6) (by simp)
      have hsw:(w2.setCell ⟨wr.heap.size,q,none⟩ (.int .u8 (97-v))).drew.heap.size=wr.heap.size+1:=by simp[hsz2]
      have hlw:w.heap.size≤((w2.setCell ⟨wr.heap.size,q,none⟩ (.int .u8 (97-v))).drew.alloc (.cells #[.int .u8 y2,.int .u8 y4,.int .u8 y5,.int .u8 y6] 5)).heap.size:=by have:=hb.size;simp;omega
      have ho4:Zg1 ((w2.setCell ⟨wr.heap.size,q,none⟩ (.int .u8 (97-v))).drew.alloc (.cells #[.int .u8 y2,.int .u8 y4,.int .u8 y5,.int .u8 y6] 5)) w.heap.size _ (Zab (hdcT s k)):=OwnVF.below ho3 (((Below.refl ((w2.setCell ⟨wr.heap.size,q,none⟩ (.int .u8 (97-v)))).heap.size ((w2.setCell ⟨wr.heap.size,q,none⟩ (.int .u8 (97-v))))).drew).alloc (Nat.le_refl _) _)
      have hrl:RdB ((w2.setCell ⟨wr.heap.size,q,none⟩ (.int .u8 (97-v))).drew.alloc (.cells #[.int .u8 y2,.int .u8 y4,.int .u8 y5,.int .u8 y6] 5)) (some ⟨wr.heap.size+1,0,none⟩) 4 [y2,y4,y5,y6]:=Zul ((w2.setCell ⟨wr.heap.size,q,none⟩ (.int .u8 (97-v)))).drew [y2,y4,y5,y6] 5 _ _ hsw.symm rfl (by simp)
      go_wp2_with fail
      go_region_law (first|(refine Zs1 ((w2.setCell ⟨wr.heap.size,q,none⟩ (.int .u8 (97-v))).drew.alloc (.cells #[.int .u8 y2,.int .u8 y4,.int .u8 y5,.int .u8 y6] 5)) rfl (.tmp 50) (.tmp 63) rfl w.heap.size _ (Zab (hdcT s k)) [y2,y4,y5,y6] _ 4 4 rfl (by exact ho4) rfl (by exact hrl) (by intro e;cases e) (by rw[Zac];omega) (by exact hlw) ?_;intro v5 w5 ho5 hb5))
      all_goals
       rw[HL.out]at ho5
       have hbz:=(((hb.trans (hb3.mono hb.size)).drew).alloc (by rw[hsw];have:=hb.size;omega) _).trans hb5
       go_wp2_with fail
       go_roundw
       case rel=>exact⟨k+1,Q,by omega,HPQ,rfl,ho5,by rw[HN.out];go_num,hbz⟩
       case measure=>simp[intOf];omega
     ·have hy0:synK X 7=0:=by omega
      have HN:=Lib.hid (show decN s (k+1)=decN s k by rw[decN,←HX2.out,if_neg hy])
      have HF:=Lib.hid (show fixB X=X by unfold fixB;rw[if_neg hy])
      rw[hy0]
      clear hy hsy hy0
      have HT:Hid (∀y0 y1 y2 y3 y4 y5 y6:Int,Zab X=[y0,y1,y2,y3,y4,y5,y6]→Zab (hdcT s k)++[y2,y4,y5,y6]=Zab (hdcT s (k+1))):=Lib.hid (fun _ _ _ _ _ _ _ h=>Z3m s k (by rw[←HX2.out,HF.out]) hXz h)
      obtain⟨y0,y1,y2,y3,y4,y5,y6,hL⟩:=list7 (L:=Zab X) hcl
      have HL:=Lib.hid (HT.out _ _ _ _ _ _ _ hL)
      rw[hL]at hrow
      clear hL HT HF hrd2
      have c2:_=some (Value.int .u8 y2):=hrow.cell (i:=2) (by simp)
      have c4:_=some (Value.int .u8 y4):=hrow.cell (i:=4) (by simp)
      have c5:_=some (Value.int .u8 y5):=hrow.cell (i:=5) (by simp)
      have c6:_=some (Value.int .u8 y6):=hrow.cell (i:=6) (by simp)
      have ho3:=OwnVF.below ho hb2
      clear ho
      have hsw:w2.drew.heap.size=wr.heap.size+1:=by simp[hsz2]
      have hlw:w.heap.size≤(w2.drew.alloc (.cells #[.int .u8 y2,.int .u8 y4,.int .u8 y5,.int .u8 y6] 5)).heap.size:=by have:=hb.size;simp;omega
      have hb3:=hb2
      have ho4:Zg1 (w2.drew.alloc (.cells #[.int .u8 y2,.int .u8 y4,.int .u8 y5,.int .u8 y6] 5)) w.heap.size _ (Zab (hdcT s k)):=OwnVF.below ho3 (((Below.refl (w2).heap.size (w2)).drew).alloc (Nat.le_refl _) _)
      have hrl:RdB (w2.drew.alloc (.cells #[.int .u8 y2,.int .u8 y4,.int .u8 y5,.int .u8 y6] 5)) (some ⟨wr.heap.size+1,0,none⟩) 4 [y2,y4,y5,y6]:=Zul (w2).drew [y2,y4,y5,y6] 5 _ _ hsw.symm rfl (by simp)
      go_wp2_with fail
      go_region_law (first|(refine Zs1 (w2.drew.alloc (.cells #[.int .u8 y2,.int .u8 y4,.int .u8 y5,.int .u8 y6] 5)) rfl (.tmp 50) (.tmp 63) rfl w.heap.size _ (Zab (hdcT s k)) [y2,y4,y5,y6] _ 4 4 rfl (by exact ho4) rfl (by exact hrl) (by intro e;cases e) (by rw[Zac];omega) (by exact hlw) ?_;intro v5 w5 ho5 hb5))
      all_goals
       rw[HL.out]at ho5
       have hbz:=(((hb.trans (hb3.mono hb.size)).drew).alloc (by rw[hsw];have:=hb.size;omega) _).trans hb5
       go_wp2_with fail
       go_roundw
       case rel=>exact⟨k+1,Q,by omega,HPQ,rfl,ho5,by rw[HN.out],hbz⟩
       case measure=>simp[intOf];omega
    ·obtain rfl:k=M:=by omega
     have hnl:¬(P:Int)<(s.size:Int):=by omega
     clear hP hMM
     obtain⟨a2,n2,c2,hv,ho2⟩:=OwnVF.own ho (by rw[Zac,Zjh k (by rw[HM.out];exact Nat.le_refl _)];omega)
     subst hv
     have hrd:=ho2.rd
     go_wp2_with (with_reducible refine Zca 22 5 9 Tryz.underlying22 Tryz.underlying5 Tryz.underlying9 _ rfl (.tmp 65) rfl rfl hrd ?_)
     go_ret3
     rw[Zc6]
     exact Zkw hr.out rfl hb
  ·have hr:=Lib.hid (Z2c (s:=s) (by omega))
   have hm0:((m:Int)==0)=false:=by rw[beq_eq_false_iff_ne];omega
   clear hm h2
   go_enter Tryz.func271,Tryz.ntmps271
   go_wp2_with fail
   refine(Za2 _ _).mono ?_;rintro e w' ⟨rfl,rfl⟩
   rw[h1]
   go_wp2_with fail
   go_ret3
   exact Zbr hr.out (Below.refl _ _)
 ·have h1':Zan s=false:=by simpa using h1
  have hr:=Lib.hid (Z4w h1')
  clear h1
  go_enter Tryz.func271,Tryz.ntmps271
  go_wp2_with fail
  refine(Za2 _ _).mono ?_;rintro e w' ⟨rfl,rfl⟩
  rw[h1']
  go_wp2_with fail
  go_ret3
  exact Zbr hr.out (Below.refl _ _)
theorem Zadr {x v:Nat} (hx:x≤1) (hv:v=48∨v=49):bits .xor .i64 (x:Int) ((v:Int)-48)=((x ^^^ ((v:Int)-48).toNat:Nat):Int):=by
 rcases(show x=0∨x=1 by omega)with rfl|rfl<;>rcases hv with rfl|rfl<;>rfl
theorem Zqd {w0 wa wb:World} {o:Obj} (h:Below w0.heap.size w0 wa) (hb:Below (wa.alloc o).heap.size (wa.alloc o) wb):Below w0.heap.size w0 wb:=
 (h.alloc h.size _).trans (hb.mono (by have:=h.size;simp;omega))
theorem Z8j {l:List Int} (h:∀x∈l,Za7 x):allS bitC (text l)=true:=Zjf h
theorem Zp4 (s:ByteArray) (l:List Nat) (w:World) {ao:Option Addr} {n c:Nat} (hb:allS bitC s=true) (hz:s.size≤100) (hl:∀x∈l,1≤x∧x≤s.size) (hn:l.length≤100) (hR:Rd w ao n (l.map fun k:Nat=>(Nat.cast k:Int))):
 Calls Tryz.prog 245 #[.string s,.slice ao n c] w fun e w'=>e= .returned (.string (text [((48+xorK (Zab s) l l.length:Nat):Int)]))∧Below w.heap.size w w':=by
 have hnl:n=l.length:=by rw[hR.1,List.length_map]
 subst hnl
 have HB:=Lib.hid (Zdc hb)
 have HL:=Lib.hid (show ∀x∈l,1≤x∧x≤(Zab s).length from fun x hx=>by rw[Zac];exact hl x hx)
 have HBB:=Lib.hid hb
 have HCL:=Lib.hid (Zac s)
 clear hl hb
 go_enter Tryz.func245,Tryz.ntmps245
 go_wp2_with fail
 go_loop [5,6] (fun x i=>∃k:Nat,k≤l.length∧i= .int .i64 k∧x= .int .i64 (xorK (Zab s) l k:Nat)) (fun _ i=>l.length-(intOf i).toNat)
 case atStart=>exact⟨0,Nat.zero_le _,rfl,rfl⟩
 case round=>
  obtain⟨k,hk,rfl,rfl⟩:=hrel
  have hx1:=Zabp HB.out HL.out k hk
  by_cases hlt:k<l.length
  ·obtain⟨bk,off,hao,hl,hc⟩:=hR.at hlt
   subst hao
   rw[List.getElem_map]at hc
   have hpm:=HL.out l[k] (List.getElem_mem hlt)
   have hg:l.getD k 0=l[k]:=by rw[List.getD_eq_getElem?_getD,List.getElem?_eq_getElem hlt,Option.getD_some]
   obtain⟨q,hq⟩:∃q,l[k]=q+1:=⟨l[k]-1,by omega⟩
   rw[hq]at hc hpm hg
   rw[HCL.out]at hpm
   have hqz:q<s.size:=by omega
   have hbit:=Zgs HBB.out hqz
   have HS:=Lib.hid (show xorK (Zab s) l (k+1)=xorK (Zab s) l k ^^^ ((s[q].toNat:Int)-48).toNat by rw[xorK,hg,Nat.add_sub_cancel,Zgt hqz])
   have HX:=Lib.hid (Zadr hx1 hbit)
   have e1:((q+1:Nat):Int)-1=(q:Int):=by omega
   have hq9:q≤100:=by omega
   generalize xorK (Zab s) l k=x at*
   clear hg hq hpm hR hl
   go_wp2_with fail
   go_round
   case rel=>exact⟨k+1,by omega,by go_num,by rw[HX.out,HS.out]⟩
   case measure=>simp[intOf];omega
  ·obtain rfl:k=l.length:=by omega
   go_wp2_with fail
   refine(Zzx _ _ (by omega)).mono ?_;rintro e w2 ⟨rfl,hb2⟩
   go_wp2_with fail
   go_ret
   exact⟨rfl,hb2⟩
theorem Zabi (X:ByteArray) (w:World) (hz:X.size=4) (hb:allS bitC X=true) {a b c d:Int} (h:Zab X=[a,b,c,d]):Calls Tryz.prog 172 #[.string X] w fun e w'=>e= .returned (.string (text (encL a b c d)))∧Below w.heap.size w w':=by
 have hbs:=Zdc hb
 rw[h]at hbs
 have ha:Za7 a:=hbs a (by simp)
 have hbb:Za7 b:=hbs b (by simp)
 have hc:Za7 c:=hbs c (by simp)
 have hd:Za7 d:=hbs d (by simp)
 have h48:Za7 48:=Or.inl rfl
 have hBL:∀x∈[48,48,a,48,b,c,d],Za7 x:=by
  intro x hx
  simp only[List.mem_cons,List.not_mem_nil,or_false]at hx
  rcases hx with rfl|rfl|rfl|rfl|rfl|rfl|rfl<;>assumption
 obtain⟨T,hT⟩:∃T,T=text [48,48,a,48,b,c,d]:=⟨_,rfl⟩
 have hTz:T.size=7:=by rw[hT,Zaq];rfl
 have hTc:Zab T=[48,48,a,48,b,c,d]:=by rw[hT,Zcf hBL]
 have HTB:=Lib.hid (show allS bitC T=true by rw[hT];exact Z8j hBL)
 have hbt:=Zad7 h
 have hbo:=Zaic h
 rw[hz]at hbt hbo
 have HX:=Lib.hid (show(⟨#[48,48]⟩:ByteArray)++X.extract 0 1++⟨#[48]⟩++X.extract 1 4=T by rw[hT];exact hbt)
 have HO:=Lib.hid hbo
 have H1:=Lib.hid (show text [((48+xorK (Zab T) [3,5,7] [3,5,7].length:Nat):Int)]=text [parB a b d]by rw[show xorK (Zab T) [3,5,7] [3,5,7].length=parN a b d by rw[hTc];exact chk_1 ha hbb hc hd];rfl)
 have H2:=Lib.hid (show text [((48+xorK (Zab T) [3,6,7] [3,6,7].length:Nat):Int)]=text [parB a c d]by rw[show xorK (Zab T) [3,6,7] [3,6,7].length=parN a c d by rw[hTc];exact chk_2 ha hbb hc hd];rfl)
 have H3:=Lib.hid (show text [((48+xorK (Zab T) [5,6,7] [5,6,7].length:Nat):Int)]=text [parB b c d]by rw[show xorK (Zab T) [5,6,7] [5,6,7].length=parN b c d by rw[hTc];exact chk_3 ha hbb hc hd];rfl)
 have hp1:=Zqr a b d
 have hx0:(X.extract 0 1).size=1:=by rw[Zbc (by omega)]
 have hx1:(X.extract 1 4).size=3:=by rw[Zbc (by omega)]
 have hc1:((⟨#[48,48]⟩:ByteArray)++X.extract 0 1).size=3:=by rw[Zap,hx0];rfl
 have hc2:((⟨#[48,48]⟩:ByteArray)++X.extract 0 1++⟨#[48]⟩).size=4:=by rw[Zap,hc1];rfl
 have hd1:¬(⟨#[48,48]⟩:ByteArray).size+(X.extract 0 1).size>9223372036854775807:=by rw[hx0];decide
 have hd2:¬((⟨#[48,48]⟩:ByteArray)++X.extract 0 1).size+(⟨#[48]⟩:ByteArray).size>9223372036854775807:=by rw[hc1];decide
 have hd3:¬((⟨#[48,48]⟩:ByteArray)++X.extract 0 1++⟨#[48]⟩).size+(X.extract 1 4).size>9223372036854775807:=by rw[hc2,hx1];decide
 have h1z:1≤X.size:=by omega
 have h1i:(1:Int)≤(X.size:Int):=by omega
 clear hT hTc hBL hbs h hb hbt hbo
 go_enter Tryz.func172,Tryz.ntmps172
 go_wp2_with fail
 go_quiet (fail)
 rw[HX.out]
 clear hc1 hc2 hd1 hd2 hd3
 go_wp2_with fail
 refine(Zp4 T [3,5,7] _ HTB.out (by omega) (by rw[hTz];decide) (by decide) (rd_lit' _ [3,5,7] 3 _ _ rfl rfl (by decide))).mono ?_;rintro e w1 ⟨rfl,hb1⟩
 rw[H1.out]
 go_wp2_with fail
 refine(Zp4 T [3,6,7] _ HTB.out (by omega) (by rw[hTz];decide) (by decide) (rd_lit' _ [3,6,7] 3 _ _ rfl rfl (by decide))).mono ?_;rintro e w2 ⟨rfl,hb2⟩
 rw[H2.out]
 go_wp2_with fail
 refine(Zp4 T [5,6,7] _ HTB.out (by omega) (by rw[hTz];decide) (by decide) (rd_lit' _ [5,6,7] 3 _ _ rfl rfl (by decide))).mono ?_;rintro e w3 ⟨rfl,hb3⟩
 rw[H3.out]
 have hA:=Zgg (parB a b d)
 have hB:=Zgg (parB a c d)
 have hC:=Zgg (parB b c d)
 generalize text [parB a b d]=A at*
 generalize text [parB a c d]=B at*
 generalize text [parB b c d]=C at*
 have s1:(A++B).size=2:=by rw[Zap,hA,hB]
 have s2:(A++B++X.extract 0 1).size=3:=by rw[Zap,s1,hx0]
 have s3:(A++B++X.extract 0 1++C).size=4:=by rw[Zap,s2,hC]
 have d1:¬A.size+B.size>9223372036854775807:=by rw[hA,hB];decide
 have d2:¬(A++B).size+(X.extract 0 1).size>9223372036854775807:=by rw[s1,hx0];decide
 have d3:¬(A++B++X.extract 0 1).size+C.size>9223372036854775807:=by rw[s2,hC];decide
 have d4:¬(A++B++X.extract 0 1++C).size+(X.extract 1 4).size>9223372036854775807:=by rw[s3,hx1];decide
 go_wp2_with fail
 go_quiet (fail)
 rw[HO.out]
 clear s1 s2 s3 d1 d2 d3 d4
 go_wp2_with fail
 go_ret
 exact⟨rfl,(Zqd (Zqd (Zqd ((Qw.drewN w _).below _) hb1) hb2) hb3).trans ((Qw.drewN _ _).below _)⟩
theorem Zox (s:ByteArray) (w:World) (hs:s.size≤1099511627776):Calls Tryz.prog 96 #[.string s] w (Zdx w (encR s)):=by
 by_cases h1:Zan s=true
 ·have h6:=Zcm h1
  obtain⟨m,hm⟩:∃m,m=s.size%4:=⟨_,rfl⟩
  obtain⟨M,hM⟩:∃M,M=s.size/4:=⟨_,rfl⟩
  have e1:(s.size:Int).tmod 4=(m:Int):=by rw[hm];rfl
  have e2:(s.size:Int)%4=(m:Int):=by rw[hm];rfl
  have e5:(s.size:Int).tdiv 4=(M:Int):=by rw[hM];rfl
  have e6:(s.size:Int)/4=(M:Int):=by rw[hM];rfl
  have hM2:M≤600:=by omega
  by_cases h2:m=0
  ·by_cases h3:M*7≤600
   ·have hr:=Lib.hid (Zvx h1 (by omega) (by rw[←hM];exact h3))
    have hM4:M*4=s.size:=by omega
    have HM:=Lib.hid hM4
    have HE:=Lib.hid (show text (encK (Zab s) M)=encT s by rw[hM];rfl)
    have HA:=Lib.hid (Zb5 h1)
    have hg:decide ((M:Int)*7>600)=false:=by rw[decide_eq_false_iff_not];omega
    subst h2
    clear hm hM hM4
    go_enter Tryz.func96,Tryz.ntmps96
    go_wp2_with fail
    refine(Za0 _ _ hs).mono ?_;rintro e w' ⟨rfl,rfl⟩
    rw[h1]
    clear h1
    go_wp2_with fail
    clear e1 e2 e5 e6 hg
    go_loopw [4,5] (fun o i wr=>∃k P:Nat,k≤M∧Hid (P=k*4)∧i= .int .i64 P∧o= .string (text (encK (Zab s) k))∧Below w.heap.size w wr) (fun _ i _=>s.size-(intOf i).toNat)
    case atStart=>exact⟨0,0,Nat.zero_le _,Lib.hid rfl,rfl,rfl,Below.refl _ _⟩
    case round=>
     obtain⟨k,P,hk,HP,rfl,rfl,hb⟩:=hrel
     have hP:=HP.out
     have hMM:=HM.out
     by_cases hlt:k<M
     ·have hPs:P+4≤s.size:=by omega
      have hdz:(text (encK (Zab s) k)).size=7*k:=by rw[Zaq,Zkc]
      obtain⟨Q,hQ⟩:∃Q,Q=P+4:=⟨_,rfl⟩
      have hQI:(P:Int)+4=(Q:Int):=by rw[hQ];rfl
      have hQs1:Q≤s.size:=by omega
      have HPQ:=Lib.hid (show Q=(k+1)*4 by omega)
      obtain⟨X,hX⟩:∃X,X=s.extract P Q:=⟨_,rfl⟩
      have hXz:X.size=4:=by rw[hX,Zbc hQs1,hQ,Nat.add_sub_cancel_left]
      have HXB:=Lib.hid (show allS bitC X=true by rw[hX];exact Zeb P Q HA.out)
      have HC:=Lib.hid (show Zab X=[(Zab s).getD P 0,(Zab s).getD (P+1) 0,(Zab s).getD (P+2) 0,(Zab s).getD (P+3) 0]by rw[hX];exact Z67 hQ hQs1)
      have HT:=Lib.hid (show text (encK (Zab s) k)++text (encL ((Zab s).getD P 0) ((Zab s).getD (P+1) 0) ((Zab s).getD (P+2) 0) ((Zab s).getD (P+3) 0))=text (encK (Zab s) (k+1))by rw[Ze3,encK,hP])
      have hlz:(text (encL ((Zab s).getD P 0) ((Zab s).getD (P+1) 0) ((Zab s).getD (P+2) 0) ((Zab s).getD (P+3) 0))).size=7:=by rw[Zaq];rfl
      have HX:=Lib.hid hX
      have hPQ:P≤Q:=by omega
      have hQs:Q≤s.size:=by omega
      have hzb:=hb.size
      have hk6:k≤600:=by omega
      clear hP hMM hQ hX
      go_wp2_with fail
      rw[←HX.out]
      refine(Zabi X _ hXz HXB.out HC.out).mono ?_;rintro e w2 ⟨rfl,hb2⟩
      have hb3:=hb.trans (hb2.mono hzb)
      generalize text (encL ((Zab s).getD P 0) ((Zab s).getD (P+1) 0) ((Zab s).getD (P+2) 0) ((Zab s).getD (P+3) 0))=Y at*
      generalize text (encK (Zab s) k)=Z at*
      clear hb hb2
      go_wp2_with fail
      rw[HT.out]
      go_roundw
      case rel=>exact⟨k+1,Q,by omega,HPQ,rfl,rfl,hb3⟩
      case measure=>simp[intOf];omega
     ·obtain rfl:k=M:=by omega
      have hnl:¬(P:Int)<(s.size:Int):=by omega
      clear hP hMM
      rw[HE.out]
      go_wp2_with fail
      go_ret2
      exact Zbb hr.out hb
   ·have hr:=Lib.hid (Z48 (s:=s) (by omega))
    have hg:decide ((M:Int)*7>600)=true:=by rw[decide_eq_true_iff];omega
    subst h2
    clear hm hM
    go_enter Tryz.func96,Tryz.ntmps96
    go_wp2_with fail
    refine(Za0 _ _ hs).mono ?_;rintro e w' ⟨rfl,rfl⟩
    rw[h1]
    go_wp2_with fail
    go_ret2
    exact Zag hr.out (Below.refl _ _)
  ·have hr:=Lib.hid (Z3x (s:=s) (by omega))
   have hm0:((m:Int)==0)=false:=by rw[beq_eq_false_iff_ne];omega
   have hmI:¬(m:Int)=0:=by omega
   clear hm hM
   go_enter Tryz.func96,Tryz.ntmps96
   go_wp2_with fail
   refine(Za0 _ _ hs).mono ?_;rintro e w' ⟨rfl,rfl⟩
   rw[h1]
   go_wp2_with fail
   go_ret2
   exact Zag hr.out (Below.refl _ _)
 ·have h1':Zan s=false:=by simpa using h1
  have hr:=Lib.hid (Z4n h1')
  clear h1
  go_enter Tryz.func96,Tryz.ntmps96
  go_wp2_with fail
  refine(Za0 _ _ hs).mono ?_;rintro e w' ⟨rfl,rfl⟩
  rw[h1']
  go_wp2_with fail
  go_ret2
  exact Zag hr.out (Below.refl _ _)
theorem Zacp (w:World) (l:List Int) (t:TypeId) (b:Nat) (hb:b=w.heap.size) (hl:l.length=7):RdB (w.alloc (.cells (l.map (Value.int .u8)).toArray t)) (some ⟨b,0,none⟩) 7 l:=Zul w l t b 7 hb hl.symm (by omega)
theorem Zaig {a b c:Int} (ha:Za7 a) (hb:Za7 b) (hc:Za7 c):bits .and .i64 (wrap64 (bits .xor .u8 (bits .xor .u8 a b) c)) 1=((parN a b c:Nat):Int):=by
 obtain⟨h1,h2⟩:=Zaip ha hb hc
 have h3:=Zaj5 ha hb hc
 generalize bits .xor .u8 (bits .xor .u8 a b) c=x at*
 obtain⟨n,rfl⟩:=Int.eq_ofNat_of_zero_le h1
 rw[Zmv rfl (by omega)]
 exact h3
theorem Zrp (s:ByteArray) (w:World):Calls Tryz.prog 91 #[.string s] w (Zdx w (encR s)):=by
 by_cases h1:Zan s=true
 ·have h6:=Zcm h1
  obtain⟨m,hm⟩:∃m,m=s.size%4:=⟨_,rfl⟩
  obtain⟨M,hM⟩:∃M,M=s.size/4:=⟨_,rfl⟩
  have e1:(s.size:Int).tmod 4=(m:Int):=by rw[hm];rfl
  have e2:(s.size:Int)%4=(m:Int):=by rw[hm];rfl
  have e5:(s.size:Int).tdiv 4=(M:Int):=by rw[hM];rfl
  have e6:(s.size:Int)/4=(M:Int):=by rw[hM];rfl
  have hM2:M≤600:=by omega
  by_cases h2:m=0
  ·have hM4:M*4=s.size:=by omega
   have HM:=Lib.hid hM4
   have HE:=Lib.hid (show text (encK (Zab s) M)=encT s by rw[hM];rfl)
   have HBR:=Lib.hid (Zac9 h1 (by omega))
   have HA:=Lib.hid (Zb5 h1)
   subst h2
   clear hm hM hM4
   go_enter Tryz.func91,Tryz.ntmps91
   go_wp2_with fail
   refine(Za2 _ _).mono ?_;rintro e w' ⟨rfl,rfl⟩
   rw[h1]
   clear h1
   go_wp2_with (at_make;refine Zj0 w rfl _ _ rfl .i64 .i64 (M*7) _ rfl rfl rfl (by omega) ?_;intro w1 ho0 hb0)
   clear e1 e2 e5 e6
   go_wp2_with fail
   go_loopw [4,5] (fun o i wr=>∃k P:Nat,k≤M∧Hid (P=k*4)∧i= .int .i64 P∧Zg1 wr w.heap.size o (encK (Zab s) k)∧Below w.heap.size w wr) (fun _ i _=>s.size-(intOf i).toNat)
   case atStart=>exact⟨0,0,Nat.zero_le _,Lib.hid rfl,rfl,ho0,hb0⟩
   case round=>
    clear ho0 hb0
    obtain⟨k,P,hk,HP,rfl,ho,hb⟩:=hrel
    have hP:=HP.out
    have hMM:=HM.out
    by_cases hlt:k<M
    ·have hPs:P+4≤s.size:=by omega
     obtain⟨P1,hP1⟩:∃P1,P1=P+1:=⟨_,rfl⟩
     obtain⟨P2,hP2⟩:∃P2,P2=P+2:=⟨_,rfl⟩
     obtain⟨P3,hP3⟩:∃P3,P3=P+3:=⟨_,rfl⟩
     obtain⟨Q,hQ⟩:∃Q,Q=P+4:=⟨_,rfl⟩
     have hI1:(P:Int)+1=(P1:Int):=by rw[hP1];rfl
     have hI2:(P:Int)+2=(P2:Int):=by rw[hP2];rfl
     have hI3:(P:Int)+3=(P3:Int):=by rw[hP3];rfl
     have hQI:(P:Int)+4=(Q:Int):=by rw[hQ];rfl
     have b1:=Zfp hI1 (by omega)
     have b2:=Zfp hI2 (by omega)
     have b3:=Zfp hI3 (by omega)
     have l0:P<s.size:=by omega
     have l1:P1<s.size:=by omega
     have l2:P2<s.size:=by omega
     have l3:P3<s.size:=by omega
     have i0:(P:Int)<(s.size:Int):=by omega
     have i1:(P1:Int)<(s.size:Int):=by omega
     have i2:(P2:Int)<(s.size:Int):=by omega
     have i3:(P3:Int)<(s.size:Int):=by omega
     have HPQ:=Lib.hid (show Q=(k+1)*4 by omega)
     have HT:=Lib.hid (show encK (Zab s) k++encL (s[P].toNat:Int) (s[P1].toNat:Int) (s[P2].toNat:Int) (s[P3].toNat:Int)=encK (Zab s) (k+1)by
      rw[←Zgt l0,←Zgt l1,←Zgt l2,←Zgt l3,hP1,hP2,hP3,hP];rfl)
     have hv0:Za7 (s[P].toNat:Int):=by have:=Zgs HA.out l0;unfold Za7;omega
     have hv1:Za7 (s[P1].toNat:Int):=by have:=Zgs HA.out l1;unfold Za7;omega
     have hv2:Za7 (s[P2].toNat:Int):=by have:=Zgs HA.out l2;unfold Za7;omega
     have hv3:Za7 (s[P3].toNat:Int):=by have:=Zgs HA.out l3;unfold Za7;omega
     have hk6:k≤600:=by omega
     have hzb:=hb.size
     clear hP hMM hQ hP1 hP2 hP3 hI1 hI2 hI3
     go_wp2_with fail
     go_quiet (fail)
     generalize (s[P].toNat:Int)=v0 at*
     generalize (s[P1].toNat:Int)=v1 at*
     generalize (s[P2].toNat:Int)=v2 at*
     generalize (s[P3].toNat:Int)=v3 at*
     clear l0 l1 l2 l3 i0 i1 i2 i3 b1 b2 b3
     obtain⟨wq,hwq⟩:∃wq,wq=wr.drewN nq:=⟨_,rfl⟩
     rw[←hwq]
     have hbq:Below wr.heap.size wr wq:=by rw[hwq];exact(Qw.drewN _ _).below _
     have ho2:=OwnVF.below ho hbq
     have hbw:=hb.trans (hbq.mono hzb)
     have hzw:=hbw.size
     have ho4:Zg1 (wq.alloc (.cells #[.int .u8 (parB v0 v1 v3),.int .u8 (parB v0 v2 v3),.int .u8 v0,.int .u8 (parB v1 v2 v3),.int .u8 v1,.int .u8 v2,.int .u8 v3] 5)) w.heap.size _ (encK (Zab s) k):=OwnVF.below ho2 ((Below.refl wq.heap.size wq).alloc (Nat.le_refl _) _)
     have hrl:RdB (wq.alloc (.cells #[.int .u8 (parB v0 v1 v3),.int .u8 (parB v0 v2 v3),.int .u8 v0,.int .u8 (parB v1 v2 v3),.int .u8 v1,.int .u8 v2,.int .u8 v3] 5)) (some ⟨wq.heap.size,0,none⟩) 7 (encL v0 v1 v2 v3):=Zacp wq (encL v0 v1 v2 v3) 5 _ rfl rfl
     have HP1:=Lib.hid (Zaig hv0 hv1 hv3)
     have HP2:=Lib.hid (Zaig hv0 hv2 hv3)
     have HP3:=Lib.hid (Zaig hv1 hv2 hv3)
     clear hwq hbq ho hb ho2 hzb
     go_wp2_with fail
     rw[HP1.out]
     refine(Zgy _ _ (Zqr _ _ _)).mono ?_;rintro e w' ⟨rfl,rfl⟩
     go_wp2_with fail
     rw[HP2.out]
     refine(Zgy _ _ (Zqr _ _ _)).mono ?_;rintro e w' ⟨rfl,rfl⟩
     go_wp2_with fail
     rw[HP3.out]
     refine(Zgy _ _ (Zqr _ _ _)).mono ?_;rintro e w' ⟨rfl,rfl⟩
     go_wp2_with (at_builtin;refine Z2q (wq.alloc (.cells #[.int .u8 (parB v0 v1 v3),.int .u8 (parB v0 v2 v3),.int .u8 v0,.int .u8 (parB v1 v2 v3),.int .u8 v1,.int .u8 v2,.int .u8 v3] 5)) rfl (.tmp 45) (.tmp 74) rfl w.heap.size _ (encK (Zab s) k) (encL v0 v1 v2 v3) _ 7 7 rfl (by exact ho4) rfl (by exact hrl) (by intro e;cases e) (by rw[Zkc];omega) (by simp;omega) ?_;intro v5 w5 ho5 hb5)
     rw[HT.out]at ho5
     have hbz:=(hbw.alloc hzw (.cells #[.int .u8 (parB v0 v1 v3),.int .u8 (parB v0 v2 v3),.int .u8 v0,.int .u8 (parB v1 v2 v3),.int .u8 v1,.int .u8 v2,.int .u8 v3] 5)).trans hb5
     clear ho4 hrl hbw
     go_roundw
     case rel=>exact⟨k+1,Q,by omega,HPQ,rfl,ho5,hbz⟩
     case measure=>simp[intOf];omega
    ·obtain rfl:k=M:=by omega
     have hnl:¬(P:Int)<(s.size:Int):=by omega
     clear hP hMM
     obtain⟨a2,n2,c2,hv,ho2⟩:=OwnVF.own ho (by rw[Zkc];omega)
     subst hv
     have hrd:=ho2.rd
     go_wp2_with (with_reducible refine Zca 22 5 9 Tryz.underlying22 Tryz.underlying5 Tryz.underlying9 _ rfl (.tmp 76) rfl rfl hrd ?_)
     rw[HE.out]
     refine(Zyy (encT s) _).mono ?_;rintro e w5 ⟨rfl,hb5⟩
     rw[HBR.out]
     have hb6:=hb.trans (hb5.mono hb.size)
     generalize encR s=r at*
     go_wp2_with fail
     go_ret2
     exact⟨rfl,hb6⟩
  ·have hr:=Lib.hid (Z3x (s:=s) (by omega))
   have hm0:((m:Int)==0)=false:=by rw[beq_eq_false_iff_ne];omega
   have hmI:¬(m:Int)=0:=by omega
   clear hm hM
   go_enter Tryz.func91,Tryz.ntmps91
   go_wp2_with fail
   refine(Za2 _ _).mono ?_;rintro e w' ⟨rfl,rfl⟩
   rw[h1]
   go_wp2_with fail
   go_ret2
   exact Zag hr.out (Below.refl _ _)
 ·have h1':Zan s=false:=by simpa using h1
  have hr:=Lib.hid (Z4n h1')
  clear h1
  go_enter Tryz.func91,Tryz.ntmps91
  go_wp2_with fail
  refine(Za2 _ _).mono ?_;rintro e w' ⟨rfl,rfl⟩
  rw[h1']
  go_wp2_with fail
  go_ret2
  exact Zag hr.out (Below.refl _ _)
theorem Zoz (s:ByteArray) (R:Nat) (w:World) (h1:Zan s=true) (h2:inB R 1 40=true) (h3:s.size%R=0):Calls Tryz.prog 93 #[.string s,.int .i64 R] w (Zdx w (some (wvT s R))):=by
 obtain⟨_,hRR,hR1,hR4⟩:=Zoh h2
 cases Int.ofNat.inj hRR
 have h6:=Zcm h1
 have e0:(s.size:Int).tmod (R:Int)=((s.size%R:Nat):Int):=rfl
 have hne:((R:Int)==0)=false:=by rw[beq_eq_false_iff_ne];omega
 obtain⟨C,hC⟩:∃C,C=s.size/R:=⟨_,rfl⟩
 have hCR:C*R=s.size:=by rw[hC];exact Nat.div_mul_cancel (Nat.dvd_of_mod_eq_zero h3)
 have hC6:C≤600:=by rw[hC];exact Nat.le_trans (Nat.div_le_self _ _) h6
 have e1:(s.size:Int).tdiv (R:Int)=(C:Int):=by rw[hC];rfl
 have e2:(s.size:Int)/(R:Int)=(C:Int):=by rw[hC];rfl
 have e3:(s.size:Int).tmod (R:Int)=0:=by rw[e0,h3];rfl
 have e4:(s.size:Int)%(R:Int)=0:=by rw[show(s.size:Int)%(R:Int)=((s.size%R:Nat):Int)from rfl,h3];rfl
 have HCR:=Lib.hid hCR
 have HDT:=Lib.hid (show text (wvL s R C)=wvT s R by rw[hC];rfl)
 have HLL:=Lib.hid (Zld s R C)
 clear hC h3 e0 hCR
 go_enter Tryz.func93,Tryz.ntmps93
 go_wp2_with fail
 refine(Za2 _ _).mono ?_;rintro e w' ⟨rfl,rfl⟩
 rw[h1]
 go_wp2_with fail
 refine(Zeo _ _).mono ?_;rintro e w' ⟨rfl,rfl⟩
 rw[h2]
 clear h1 h2
 go_wp2_with (at_make;refine Zcd 22 5 1 (0:Int) Tryz.underlying22 Zct rfl (by decide) w rfl _ _ rfl .i64 .i64 s.size rfl rfl (by omega) ?_;intro w1 hown hb)
 have hF:=FillF.start hown HLL.out (by simp)
 clear hown e1 e2 e3 e4
 go_loopw [33] (fun i wr=>∃k:Nat,k≤s.size∧i= .int .i64 k∧Zmz wr w.heap.size w.heap.size s.size (wvL s R C) (List.replicate s.size 0) k∧Below w.heap.size w wr) (fun i _=>s.size-(intOf i).toNat)
 case atStart=>exact⟨0,Nat.zero_le _,rfl,hF,hb⟩
 case round=>
  clear hF hb
  obtain⟨k,hk,rfl,hF,hb⟩:=hrel
  by_cases hlt:k<s.size
  ·obtain⟨m,hm⟩:∃m,m=k%R:=⟨_,rfl⟩
   obtain⟨q,hq⟩:∃q,q=k/R:=⟨_,rfl⟩
   obtain⟨P,hP⟩:∃P,P=m*C:=⟨_,rfl⟩
   obtain⟨I,hI⟩:∃I,I=P+q:=⟨_,rfl⟩
   have hII:deiI R C k=I:=by rw[hI,hP,hm,hq];rfl
   have hIs:I<s.size:=by rw[←hII,←HCR.out];exact Zn7 (by omega) (by rw[HCR.out];exact hlt)
   have a1:(k:Int).tmod (R:Int)=(m:Int):=by rw[hm];rfl
   have a2:(k:Int)%(R:Int)=(m:Int):=by rw[hm];rfl
   have a3:(k:Int).tdiv (R:Int)=(q:Int):=by rw[hq];rfl
   have a4:(k:Int)/(R:Int)=(q:Int):=by rw[hq];rfl
   have hPI:(m:Int)*(C:Int)=(P:Int):=by rw[hP,Int.natCast_mul]
   have hIQ:(P:Int)+(q:Int)=(I:Int):=by rw[hI];rfl
   have hP6:P≤100000:=by omega
   have hI6:I≤100000:=by omega
   have hIs2:(I:Int)<(s.size:Int):=by omega
   have hk2:(k:Int)<(s.size:Int):=by omega
   have b1:=Zfp hPI hP6
   have b2:=Zfp hIQ hI6
   have hq6:q≤100000:=by omega
   have b5:IntKind.i64.wrap (q:Int)=(q:Int):=Zfp rfl hq6
   obtain⟨z,hc⟩:=hF.cell hlt
   have hf:=hF.free k
   have hst:=hF.step hlt (y:=.int .u8 (s[I].toNat:Int)) (fun hl=>by rw[Zzp hl,hII,Zgt hIs])
   have hb2:=hF.below hb (.int .u8 (s[I].toNat:Int))
   have hR0:¬(R:Int)=0:=by omega
   have hR00:¬R=0:=by omega
   clear hm hq hP hI hII hPI hIQ hF hb
   go_wp2_with fail
   go_still_tail 14,(by kernel_rfl)
   go_wp2_with fail
   clear a1 a2 a3 a4 b1 b2 b5
   go_roundw
   case rel=>exact⟨k+1,by omega,by go_num,hst,hb2.drew⟩
   case measure=>simp[intOf];omega
  ·obtain rfl:k=s.size:=by omega
   have hd0:=hF.done (Nat.le_refl _)
   obtain⟨a1,n1,c1,e1,ho⟩:=hd0.own (by rw[HLL.out];omega)
   cases e1
   have hrd:=ho.rd
   go_wp2_with (with_reducible refine Zca 22 5 9 Tryz.underlying22 Tryz.underlying5 Tryz.underlying9 _ rfl (.tmp 51) rfl rfl hrd ?_)
   go_ret2
   exact Zbb (by exact congrArg some HDT.out.symm) hb
theorem Z6i (s:ByteArray) (n:Nat) (w:World) (h0:0<n) (hL:s.size≤600) (hn:n≤1000):Calls Tryz.prog 97 #[.string s,.int .i64 n] w fun e w'=>e= .returned (.string (padT s n))∧w=w':=by
 have hp:=Zve (L:=s.size) h0
 have HP:=Lib.hid (show padT s n=s++Zg6 48 (padN s.size n)from rfl)
 have HE:=Lib.hid (Zvr (L:=s.size) h0)
 have hz:=Zh6 48 (padN s.size n)
 go_enter Tryz.func97,Tryz.ntmps97
 go_wp2_with fail
 refine(Z7x (-(s.size:Int)) n _ (by omega) (by omega)).mono ?_;rintro e w' ⟨rfl,rfl⟩
 rw[HE.out]
 generalize padN s.size n=z at*
 go_wp2_with fail
 refine(Z8r 48 z _ (by omega)).mono ?_;rintro e w' ⟨rfl,rfl⟩
 generalize Zg6 48 z=Z at*
 go_wp2_with fail
 go_ret
 exact⟨by rw[HP.out];rfl,rfl⟩
theorem dei_at {R C k j:Nat} (hj:j<R):deiI R C (k*R+j)=j*C+k:=by
 unfold deiI
 rw[Nat.mul_comm k R,Nat.mul_add_mod,Nat.mod_eq_of_lt hj,Nat.mul_add_div (by omega),Nat.div_eq_of_lt hj,Nat.add_zero]
theorem Zaik {s:ByteArray} {R C k j I:Nat} (hj:j<R) (hk:k<C) (hs:C*R=s.size) (hI:I=j*C+k) (h:I<s.size):(wvL s R C).take (k*R+j)++[(s[I].toNat:Int)]=(wvL s R C).take (k*R+(j+1)):=by
 have hlt:k*R+j<(wvL s R C).length:=by
  rw[Zld,←hs]
  have h1:(k+1)*R≤C*R:=Nat.mul_le_mul_right R hk
  rw[Nat.add_mul,Nat.one_mul]at h1;omega
 rw[show k*R+(j+1)=k*R+j+1 from rfl,List.take_succ_eq_append_getElem hlt,Zzp hlt,dei_at hj]
 subst hI
 rw[Zgt h]
theorem wv_lt {R C k j:Nat} (hj:j<R) (hk:k<C):j*C+k<C*R:=by
 have h1:(j+1)*C≤R*C:=Nat.mul_le_mul_right C hj
 rw[Nat.add_mul,Nat.one_mul]at h1
 rw[Nat.mul_comm C R];omega
theorem wv_all {s:ByteArray} {R C:Nat} (hs:C*R=s.size):(wvL s R C).take (C*R)=wvL s R C:=List.take_of_length_le (by rw[Zld,hs];exact Nat.le_refl _)
theorem Zaab (s:ByteArray) (R C:Nat) (w:World) (hCR:C*R=s.size) (hR1:1≤R) (hR4:R≤40) (h6:s.size≤600):Calls Tryz.prog 99 #[.string s,.int .i64 R] w fun e w'=>e= .returned (.string (text (wvL s R C)))∧Below w.heap.size w w':=by
 have hC:s.size/R=C:=by rw[←hCR];exact Nat.mul_div_cancel _ (by omega)
 have hC6:C≤600:=by rw[←hC];exact Nat.le_trans (Nat.div_le_self _ _) h6
 have hne:((R:Int)==0)=false:=by rw[beq_eq_false_iff_ne];omega
 have e1:(s.size:Int).tdiv (R:Int)=(C:Int):=by rw[←hC];rfl
 have e2:(s.size:Int)/(R:Int)=(C:Int):=by rw[←hC];rfl
 have HCR:=Lib.hid hCR
 have hR0:¬(R:Int)=0:=by omega
 have hR00:¬R=0:=by omega
 clear hC hCR
 go_enter Tryz.func99,Tryz.ntmps99
 go_wp2_with (at_make;refine Zj0 w rfl _ _ rfl .i64 .i64 s.size _ rfl rfl rfl (by omega) ?_;intro w1 ho0 hb0)
 go_loopw [5,6] (fun o i wr=>∃k:Nat,k≤C∧i= .int .i64 k∧Zg1 wr w.heap.size o ((wvL s R C).take (k*R))∧Below w.heap.size w wr) (fun _ i _=>C-(intOf i).toNat)
 case atStart=>exact⟨0,Nat.zero_le _,rfl,by rw[Nat.zero_mul];exact ho0,hb0⟩
 case round=>
  clear ho0 hb0
  obtain⟨k,hk,rfl,ho,hb⟩:=hrel
  by_cases hlt:k<C
  ·obtain⟨wo,hwo⟩:∃wo,wo=wr:=⟨_,rfl⟩
   subst hwo
   have hkI:(k:Int)<(C:Int):=by omega
   go_wp2_with fail
   go_loopw [5,7] (fun o i wr=>∃j:Nat,j≤R∧i= .int .i64 j∧Zg1 wr w.heap.size o ((wvL s R C).take (k*R+j))∧Below w.heap.size w wr) (fun _ i _=>R-(intOf i).toNat)
   case atStart=>exact⟨0,Nat.zero_le _,rfl,ho,hb⟩
   case round=>
    clear ho hb
    obtain⟨j,hj,rfl,ho,hb⟩:=hrel
    by_cases hjt:j<R
    ·obtain⟨P,hP⟩:∃P,P=j*C:=⟨_,rfl⟩
     obtain⟨I,hI⟩:∃I,I=P+k:=⟨_,rfl⟩
     have hIs:I<s.size:=by rw[←HCR.out,hI,hP];exact wv_lt hjt hlt
     have HS:=Lib.hid (Zaik hjt hlt HCR.out (by rw[hI,hP]) hIs)
     have hPI:(j:Int)*(C:Int)=(P:Int):=by rw[hP,Int.natCast_mul]
     have hIQ:(P:Int)+(k:Int)=(I:Int):=by rw[hI];rfl
     have hP6:P≤100000:=by omega
     have hI6:I≤100000:=by omega
     have hIs2:(I:Int)<(s.size:Int):=by omega
     have hj2:(j:Int)<(R:Int):=by omega
     have b1:=Zfp hPI hP6
     have b2:=Zfp hIQ hI6
     have b3:=Zmv hPI hP6
     have b4:=Zmv hIQ hI6
     have hzb:=hb.size
     have hln:((wvL s R C).take (k*R+j)).length≤600:=by rw[List.length_take,Zld];omega
     have HL:=Lib.hid hln
     have ho4:Zg1 (wr.alloc (.cells #[.int .u8 (s[I].toNat:Int)] 5)) w.heap.size _ ((wvL s R C).take (k*R+j)):=OwnVF.below ho ((Below.refl wr.heap.size wr).alloc (Nat.le_refl _) _)
     have hrl:RdB (wr.alloc (.cells #[.int .u8 (s[I].toNat:Int)] 5)) (some ⟨wr.heap.size,0,none⟩) 1 [(s[I].toNat:Int)]:=Zul wr [(s[I].toNat:Int)] 5 _ _ rfl rfl (by simp)
     clear hP hI hPI hIQ hln ho
     go_wp2_with (at_builtin;refine Z2q (wr.alloc (.cells #[.int .u8 (s[I].toNat:Int)] 5)) rfl (.tmp 24) (.tmp 35) rfl w.heap.size _ ((wvL s R C).take (k*R+j)) [(s[I].toNat:Int)] _ 1 1 rfl (by exact ho4) rfl (by exact hrl) (by intro e;cases e) (by have:=HL.out;omega) (by simp;omega) ?_;intro v5 w5 ho5 hb5)
     rw[HS.out]at ho5
     have hbz:=(hb.alloc hzb (.cells #[.int .u8 (s[I].toNat:Int)] 5)).trans hb5
     clear ho4 hrl b1 b2 b3 b4
     go_roundw
     case rel=>exact⟨j+1,by omega,by go_num,ho5,hbz⟩
     case measure=>simp[intOf];omega
    ·obtain rfl:j=R:=by omega
     go_wp2_with fail
     go_roundw
     case rel=>exact⟨k+1,by omega,by go_num,by rw[Nat.add_mul,Nat.one_mul];exact ho,hb⟩
     case measure=>simp[intOf];omega
  ·obtain rfl:k=C:=by omega
   rw[wv_all HCR.out]at ho
   obtain⟨a2,n2,c2,hv,ho2⟩:=OwnVF.own ho (by rw[Zld];omega)
   subst hv
   have hrd:=ho2.rd
   go_wp2_with (with_reducible refine Zca 22 5 9 Tryz.underlying22 Tryz.underlying5 Tryz.underlying9 _ rfl (.tmp 37) rfl rfl hrd ?_)
   go_ret
   exact⟨rfl,hb⟩
theorem Zeh (p:ByteArray) (n s t x:Int) (w:World):Calls Tryz.prog 33 #[.string p,.int .i64 n,.agg #[.int .i64 s,.int .i64 t,.int .i64 x]] w (Zdx w (prR p n s t x)):=by
 have hR0:=Za4 w s t x
 have hB0:Below w.heap.size w (w.alloc (.cells #[.int .i64 s,.int .i64 t,.int .i64 x] 46)):=(Below.refl _ _).alloc (Nat.le_refl _) _
 have HZ:=Lib.hid (show(w.alloc (.cells #[.int .i64 s,.int .i64 t,.int .i64 x] 46)).heap.size=w.heap.size+1 by simp)
 have c0:=hR0.c0
 have c1:=hR0.c1
 have c2:=hR0.c2
 by_cases h1:payB p=true
 ·by_cases h2:inB n 1 40=true
  ·by_cases h3:regB s t x=true
   ·obtain⟨N,rfl,hN1,hN4⟩:=Zoh h2
    have hP:=Zo6 h1 hN1 hN4
    have HPR:=Lib.hid (Zo3 h1 h2 h3 hP)
    have hFz:=Zcp p
    have hp1:=(Zn1 h1).1
    have hF9:(Zas p).size≤123:=by omega
    have HMD:=Lib.hid (Zvr (L:=(Zas p).size) (n:=4*N) (by omega))
    have hz0:=Zve (L:=(Zas p).size) (n:=4*N) (by omega)
    have HPT:=Lib.hid (show padT (Zas p) (4*N)=Zas p++Zg6 48 (padN (Zas p).size (4*N))from rfl)
    go_enter Tryz.func33,Tryz.ntmps33
    go_wp2_with fail
    refine(Zfr p _).mono ?_;rintro e w1 ⟨rfl,hb1⟩
    rw[Zda h1]
    simp only[Option.getD_some,Option.isSome_some]
    have hR1:=hR0.below hb1 (by rw[HZ.out];omega)
    have hB1:=hB0.trans (hb1.mono (by rw[HZ.out];omega))
    clear hR0 hB0 hb1 c0 c1 c2
    have c0:=hR1.c0
    have c1:=hR1.c1
    have c2:=hR1.c2
    go_wp2_with fail
    refine(Zeo _ _).mono ?_;rintro e w' ⟨rfl,rfl⟩
    rw[h2]
    go_wp2_with fail
    refine(Zal _ _ _ _).mono ?_;rintro e w2 ⟨rfl,hb2⟩
    rw[h3]
    have hR2:=hR1.below hb2 hR1.lt
    have hB2:=hB1.trans (hb2.mono hB1.size)
    clear hR1 hB1 hb2 c0 c1 c2
    have c0:=hR2.c0
    have c1:=hR2.c1
    have c2:=hR2.c2
    have HI2:=Lib.hid h2
    clear h1 h2 h3 hFz
    have hB:=Lib.hid hP.out
    have hE:=Lib.hid hP.enc
    have hM:=Lib.hid (Z3c hP.rows)
    have hT:=hP.top
    have hT0:=hP.pos
    have hL:=hP.le
    have hBZ:=Lib.hid hP.bits
    clear hP
    obtain⟨Z,hZ⟩:∃Z,Z=padT (Zas p) (4*N):=⟨_,rfl⟩
    rw[←hZ]at hB hE hM hT hT0 hL hBZ HPR HPT
    have HZ2:=Lib.hid hZ
    clear hZ
    generalize Zas p=F at*
    obtain⟨K,hK⟩:∃K,K=4*N:=⟨_,rfl⟩
    have hKI:4*(N:Int)=(K:Int):=by rw[hK];rfl
    have hK9:K≤160:=by omega
    have hK0:0<K:=by omega
    have hNK:4*(N:Nat)=K:=hK.symm
    rw[←hK]at HMD hz0 HPT HZ2
    clear hK hNK
    have kw1:=Zfp hKI (by omega)
    have kw2:=Zmv hKI (by omega)
    obtain⟨z,hz⟩:∃z,z=padN F.size K:=⟨_,rfl⟩
    rw[←hz]at HMD hz0 HPT
    clear hz
    go_wp2_with fail
    refine(Zwf (-(F.size:Int)) K _ (by omega) (by omega)).mono ?_;rintro e w' ⟨rfl,rfl⟩
    rw[HMD.out]
    clear hKI kw1 kw2
    go_wp2_with fail
    refine(Tryz.strings_Repeat (⟨#[48]⟩:ByteArray) z _ (by omega) (by show 1*z≤_;omega)).mono ?_;rintro e w3 ⟨rfl,hb3⟩
    rw[Zaff]
    have hR3:=hR2.below hb3 hR2.lt
    have hB3:=hB2.trans (hb3.mono hB2.size)
    clear hR2 hB2 hb3 c0 c1 c2
    have c0:=hR3.c0
    have c1:=hR3.c1
    have c2:=hR3.c2
    have hmz:=Zh6 48 z
    generalize Zg6 48 z=Y at*
    have hcat:¬F.size+Y.size>9223372036854775807:=by omega
    go_wp2_with fail
    rw[←HPT.out]
    refine(Zrp Z _).mono ?_;rintro e w4 ⟨rfl,hb4⟩
    rw[hE.out]
    simp only[Option.getD_some,Option.isSome_some]
    have hR4:=hR3.below hb4 hR3.lt
    have hB4:=hB3.trans (hb4.mono hB3.size)
    clear hR3 hB3 hb4 c0 c1 c2
    have c0:=hR4.c0
    have c1:=hR4.c1
    have c2:=hR4.c2
    generalize encT Z=B at*
    go_wp2_with fail
    refine(Zoz B N _ hB.out HI2.out hM.out).mono ?_;rintro e w5 ⟨rfl,hb5⟩
    simp only[Option.getD_some,Option.isSome_some]
    have hR5:=hR4.below hb5 hR4.lt
    have hB5:=hB4.trans (hb5.mono hB4.size)
    clear hR4 hB4 hb5 c0 c1 c2
    have c0:=hR5.c0
    have c1:=hR5.c1
    have c2:=hR5.c2
    go_wp2_with fail
    refine(Zk8 (wvT B N) s t x _).mono ?_;rintro e w6 ⟨rfl,hb6⟩
    rw[HPR.out]
    have hB6:=hB5.trans (hb6.mono hB5.size)
    generalize prR p (N:Int) s t x=r at*
    go_wp2_with fail
    go_ret2
    exact⟨rfl,hB6⟩
   ·have h3':regB s t x=false:=by simpa using h3
    have hr:=Lib.hid (Zv5 (p:=p) (n:=n) h3')
    clear h3
    go_enter Tryz.func33,Tryz.ntmps33
    go_wp2_with fail
    refine(Zfr p _).mono ?_;rintro e w1 ⟨rfl,hb1⟩
    rw[Zda h1]
    simp only[Option.getD_some,Option.isSome_some]
    have hR1:=hR0.below hb1 (by rw[HZ.out];omega)
    have hB1:=hB0.trans (hb1.mono (by rw[HZ.out];omega))
    clear hR0 hB0 hb1 c0 c1 c2
    have c0:=hR1.c0
    have c1:=hR1.c1
    have c2:=hR1.c2
    go_wp2_with fail
    refine(Zeo _ _).mono ?_;rintro e w' ⟨rfl,rfl⟩
    rw[h2]
    go_wp2_with fail
    refine(Zal _ _ _ _).mono ?_;rintro e w2 ⟨rfl,hb2⟩
    rw[h3']
    have hR2:=hR1.below hb2 hR1.lt
    have hB2:=hB1.trans (hb2.mono hB1.size)
    clear hR1 hB1 hb2 c0 c1 c2
    have c0:=hR2.c0
    have c1:=hR2.c1
    have c2:=hR2.c2
    go_wp2_with fail
    go_ret2
    exact Zag hr.out hB2
  ·have h2':inB n 1 40=false:=by simpa using h2
   have hr:=Lib.hid (Zv9 (p:=p) (s:=s) (t:=t) (x:=x) h2')
   clear h2
   go_enter Tryz.func33,Tryz.ntmps33
   go_wp2_with fail
   refine(Zfr p _).mono ?_;rintro e w1 ⟨rfl,hb1⟩
   rw[Zda h1]
   simp only[Option.getD_some,Option.isSome_some]
   have hR1:=hR0.below hb1 (by rw[HZ.out];omega)
   have hB1:=hB0.trans (hb1.mono (by rw[HZ.out];omega))
   clear hR0 hB0 hb1 c0 c1 c2
   have c0:=hR1.c0
   have c1:=hR1.c1
   have c2:=hR1.c2
   go_wp2_with fail
   refine(Zeo _ _).mono ?_;rintro e w' ⟨rfl,rfl⟩
   rw[h2']
   go_wp2_with fail
   go_ret2
   exact Zag hr.out hB1
 ·have h1':payB p=false:=by simpa using h1
  have hr:=Lib.hid (Zud (n:=n) (s:=s) (t:=t) (x:=x) h1')
  clear h1
  go_enter Tryz.func33,Tryz.ntmps33
  go_wp2_with fail
  refine(Zfr p _).mono ?_;rintro e w1 ⟨rfl,hb1⟩
  rw[Zjv h1']
  simp only[Option.getD_none,Option.isSome_none]
  have hR1:=hR0.below hb1 (by rw[HZ.out];omega)
  have hB1:=hB0.trans (hb1.mono (by rw[HZ.out];omega))
  clear hR0 hB0 hb1 c0 c1 c2
  have c0:=hR1.c0
  have c1:=hR1.c1
  have c2:=hR1.c2
  go_wp2_with fail
  go_ret2
  exact Zag hr.out hB1
theorem Zd4 (p:ByteArray) (n s t x:Int) (w:World) (hs:p.size≤1099511627776):Calls Tryz.prog 34 #[.string p,.int .i64 n,.agg #[.int .i64 s,.int .i64 t,.int .i64 x]] w (Zdx w (prR p n s t x)):=by
 have hR0:=Za4 w s t x
 have hB0:Below w.heap.size w (w.alloc (.cells #[.int .i64 s,.int .i64 t,.int .i64 x] 46)):=(Below.refl _ _).alloc (Nat.le_refl _) _
 have HZ:=Lib.hid (show(w.alloc (.cells #[.int .i64 s,.int .i64 t,.int .i64 x] 46)).heap.size=w.heap.size+1 by simp)
 have c0:=hR0.c0
 have c1:=hR0.c1
 have c2:=hR0.c2
 by_cases h1:payB p=true
 ·by_cases h2:inB n 1 40=true
  ·by_cases h3:regB s t x=true
   ·obtain⟨N,rfl,hN1,hN4⟩:=Zoh h2
    have hP:=Zo6 h1 hN1 hN4
    have HPR:=Lib.hid (Zo3 h1 h2 h3 hP)
    have hFz:=Zcp p
    have hp1:=(Zn1 h1).1
    have hF9:(Zas p).size≤123:=by omega
    have HMD:=Lib.hid (Zvr (L:=(Zas p).size) (n:=4*N) (by omega))
    have hz0:=Zve (L:=(Zas p).size) (n:=4*N) (by omega)
    have HPT:=Lib.hid (show padT (Zas p) (4*N)=Zas p++Zg6 48 (padN (Zas p).size (4*N))from rfl)
    go_enter Tryz.func34,Tryz.ntmps34
    go_wp2_with fail
    refine(Zh1 p _ hs).mono ?_;rintro e w1 ⟨rfl,hb1⟩
    rw[Zda h1]
    simp only[Option.getD_some,Option.isSome_some]
    have hR1:=hR0.below hb1 (by rw[HZ.out];omega)
    have hB1:=hB0.trans (hb1.mono (by rw[HZ.out];omega))
    clear hR0 hB0 hb1 c0 c1 c2
    have c0:=hR1.c0
    have c1:=hR1.c1
    have c2:=hR1.c2
    go_wp2_with fail
    refine(Zbq _ _ _ _).mono ?_;rintro e w' ⟨rfl,rfl⟩
    rw[h2]
    go_wp2_with fail
    refine(Zao _ _ _ _).mono ?_;rintro e w2 ⟨rfl,hb2⟩
    rw[h3]
    have hR2:=hR1.below hb2 hR1.lt
    have hB2:=hB1.trans (hb2.mono hB1.size)
    clear hR1 hB1 hb2 c0 c1 c2
    have c0:=hR2.c0
    have c1:=hR2.c1
    have c2:=hR2.c2
    clear h1 h2 h3 hFz
    have hB:=Lib.hid hP.out
    have hE:=Lib.hid hP.enc
    have hM:=Lib.hid (Z3c hP.rows)
    have hT:=hP.top
    have hT0:=hP.pos
    have hL:=hP.le
    have hBZ:=Lib.hid hP.bits
    clear hP
    obtain⟨Z,hZ⟩:∃Z,Z=padT (Zas p) (4*N):=⟨_,rfl⟩
    rw[←hZ]at hB hE hM hT hT0 hL hBZ HPR HPT
    have HZ2:=Lib.hid hZ
    clear hZ
    generalize Zas p=F at*
    obtain⟨K,hK⟩:∃K,K=4*N:=⟨_,rfl⟩
    have hKI:4*(N:Int)=(K:Int):=by rw[hK];rfl
    have hK9:K≤160:=by omega
    have hK0:0<K:=by omega
    have hNK:4*(N:Nat)=K:=hK.symm
    rw[←hK]at HMD hz0 HPT HZ2
    clear hK hNK
    have kw1:=Zfp hKI (by omega)
    have kw2:=Zmv hKI (by omega)
    obtain⟨z,hz⟩:∃z,z=padN F.size K:=⟨_,rfl⟩
    rw[←hz]at HMD hz0 HPT
    clear hz
    go_wp2_with fail
    refine(Z6i F K _ hK0 (by omega) (by omega)).mono ?_;rintro e w' ⟨rfl,rfl⟩
    rw[←HZ2.out]
    clear hKI kw1 kw2
    go_wp2_with fail
    refine(Zox Z _ (by omega)).mono ?_;rintro e w4 ⟨rfl,hb4⟩
    rw[hE.out]
    simp only[Option.getD_some,Option.isSome_some]
    have hR4:=hR2.below hb4 hR2.lt
    have hB4:=hB2.trans (hb4.mono hB2.size)
    clear hR2 hB2 hb4 c0 c1 c2
    have c0:=hR4.c0
    have c1:=hR4.c1
    have c2:=hR4.c2
    generalize encT Z=B at*
    have hne:¬B.toList=[]:=by
     intro h
     rw[Lib.toList_data]at h
     have h9:=congrArg List.length h
     rw[Zdz]at h9
     rw[h9]at hT0
     exact absurd hT0 (by decide)
    have hne2:B.toList.isEmpty=false:=by simpa using hne
    have HCR:=Lib.hid (Nat.div_mul_cancel (Nat.dvd_of_mod_eq_zero hM.out))
    have HWV:=Lib.hid (show text (wvL B N (B.size/N))=wvT B N from rfl)
    go_wp2_with fail
    have hwz:(wvT B N).size≤600:=by rw[Zhu];exact hT
    have hR4d:RegAt w4.drew w.heap.size s t x:=hR4
    have hB4d:=hB4.drew
    have C0:w4.drew.cell? ⟨w.heap.size,0,none⟩=some (.int .i64 s)∧w4.drew.cell? ⟨w.heap.size,1,none⟩=some (.int .i64 t)∧w4.drew.cell? ⟨w.heap.size,2,none⟩=some (.int .i64 x):=⟨hR4d.c0,hR4d.c1,hR4d.c2⟩
    clear c0 c1 c2 hR4 hB4
    go_region_held3 (fun w'=>w'.cell? ⟨w.heap.size,0,none⟩=some (.int .i64 s)∧w'.cell? ⟨w.heap.size,1,none⟩=some (.int .i64 t)∧w'.cell? ⟨w.heap.size,2,none⟩=some (.int .i64 x)) (first|with_reducible exact C0|with_reducible exact C1|with_reducible exact C2) (first|(go_at_call 99;refine(Zaab B N (B.size/N) _ HCR.out hN1 hN4 hT).mono ?_;rintro e w5 ⟨rfl,hb5⟩;rw[HWV.out];have hR5:=hR4d.below hb5 hR4d.lt;have hB5:=hB4d.trans (hb5.mono hB4d.size);have C1:=And.intro hR5.c0 (And.intro hR5.c1 hR5.c2))|(go_at_call 98;refine(Zjw (wvT B N) s t x _ (by omega)).mono ?_;rintro e w6 ⟨rfl,hb6⟩;rw[HPR.out];have hB6:=hB5.trans (hb6.mono hB5.size);have hR6:=hR5.below hb6 hR5.lt;have C2:=And.intro hR6.c0 (And.intro hR6.c1 hR6.c2)))
    all_goals
     generalize prR p (N:Int) s t x=r at*
     go_wp2_with fail
     go_ret2
     exact⟨rfl,hB6⟩
   ·have h3':regB s t x=false:=by simpa using h3
    have hr:=Lib.hid (Zv5 (p:=p) (n:=n) h3')
    clear h3
    go_enter Tryz.func34,Tryz.ntmps34
    go_wp2_with fail
    refine(Zh1 p _ hs).mono ?_;rintro e w1 ⟨rfl,hb1⟩
    rw[Zda h1]
    simp only[Option.getD_some,Option.isSome_some]
    have hR1:=hR0.below hb1 (by rw[HZ.out];omega)
    have hB1:=hB0.trans (hb1.mono (by rw[HZ.out];omega))
    clear hR0 hB0 hb1 c0 c1 c2
    have c0:=hR1.c0
    have c1:=hR1.c1
    have c2:=hR1.c2
    go_wp2_with fail
    refine(Zbq _ _ _ _).mono ?_;rintro e w' ⟨rfl,rfl⟩
    rw[h2]
    go_wp2_with fail
    refine(Zao _ _ _ _).mono ?_;rintro e w2 ⟨rfl,hb2⟩
    rw[h3']
    have hR2:=hR1.below hb2 hR1.lt
    have hB2:=hB1.trans (hb2.mono hB1.size)
    clear hR1 hB1 hb2 c0 c1 c2
    have c0:=hR2.c0
    have c1:=hR2.c1
    have c2:=hR2.c2
    go_wp2_with fail
    go_ret2
    exact Zag hr.out hB2
  ·have h2':inB n 1 40=false:=by simpa using h2
   have hr:=Lib.hid (Zv9 (p:=p) (s:=s) (t:=t) (x:=x) h2')
   clear h2
   go_enter Tryz.func34,Tryz.ntmps34
   go_wp2_with fail
   refine(Zh1 p _ hs).mono ?_;rintro e w1 ⟨rfl,hb1⟩
   rw[Zda h1]
   simp only[Option.getD_some,Option.isSome_some]
   have hR1:=hR0.below hb1 (by rw[HZ.out];omega)
   have hB1:=hB0.trans (hb1.mono (by rw[HZ.out];omega))
   clear hR0 hB0 hb1 c0 c1 c2
   have c0:=hR1.c0
   have c1:=hR1.c1
   have c2:=hR1.c2
   go_wp2_with fail
   refine(Zbq _ _ _ _).mono ?_;rintro e w' ⟨rfl,rfl⟩
   rw[h2']
   go_wp2_with fail
   go_ret2
   exact Zag hr.out hB1
 ·have h1':payB p=false:=by simpa using h1
  have hr:=Lib.hid (Zud (n:=n) (s:=s) (t:=t) (x:=x) h1')
  clear h1
  go_enter Tryz.func34,Tryz.ntmps34
  go_wp2_with fail
  refine(Zh1 p _ hs).mono ?_;rintro e w1 ⟨rfl,hb1⟩
  rw[Zjv h1']
  simp only[Option.getD_none,Option.isSome_none]
  have hR1:=hR0.below hb1 (by rw[HZ.out];omega)
  have hB1:=hB0.trans (hb1.mono (by rw[HZ.out];omega))
  clear hR0 hB0 hb1 c0 c1 c2
  have c0:=hR1.c0
  have c1:=hR1.c1
  have c2:=hR1.c2
  go_wp2_with fail
  go_ret2
  exact Zag hr.out hB1
def RetTs (w:World) (l:List ByteArray) (e:Ending) (w':World):Prop:=∃ao n c,e= .returned (.slice ao n c)∧OwnT w' w.heap.size ao n c l∧Below w.heap.size w w'
def atM (z:Nat) (i:Value):Nat:=if intOf i<0 then 0 else z+1-(intOf i).toNat
theorem Zahl {z v:Nat} {y:Int} (hv:v<z) (h:y= -1∨∃v2:Nat,y=v2∧v<v2):atM z (.int .i64 y)<atM z (.int .i64 (v:Int)):=by
 unfold atM
 rw[show intOf (.int .i64 y)=y from rfl,show intOf (.int .i64 (v:Int))=(v:Int)from rfl,if_neg (show ¬((v:Int)<0)by omega)]
 rcases h with rfl|⟨v2,rfl,h⟩
 ·rw[if_pos (by omega)];omega
 ·rw[if_neg (by omega)];omega
theorem Zqt (s:ByteArray) (w:World) (hs:s.size≤1000000):Calls Tryz.prog 210 #[.string s] w (RetTs w (allR s)):=by
 have hov:Zjo (w.alloc (.cells #[] 9)) w.heap.size (.slice (some ⟨w.heap.size,0,none⟩) 0 0) []:=OwnVF.made0 _ _ w (Nat.le_refl _)
 have hb0:Below w.heap.size w (w.alloc (.cells #[] 9)):=(Below.refl _ _).alloc (Nat.le_refl _) _
 go_enter Tryz.func210,Tryz.ntmps210
 go_wp2_with fail
 refine(Zpy s 0 _).mono ?_;rintro e w1 ⟨rfl,hb1⟩
 have ho1:=hov.below hb1
 have hbA:=hb0.trans (hb1.mono hb0.size)
 clear hov hb0 hb1
 go_wp2_with fail
 go_loopw [3,4] (fun v i wr=>∃(a f:Nat) (l:List ByteArray),i= .int .i64 (Zf0 s (a:Nat))∧Hid (allR s=l++allL s f a)∧s.size+1≤f+a∧l.length≤a∧a≤s.size∧Zjo wr w.heap.size v l∧Below w.heap.size w wr) (fun _ i _=>atM s.size i)
 case atStart=>exact⟨0,s.size+1,[],rfl,Lib.hid rfl,by omega,Nat.le_refl _,Nat.zero_le _,ho1,hbA⟩
 case round=>
  clear ho1 hbA
  obtain⟨a,f,l,rfl,HL,hfa,hla,has,ho,hb⟩:=hrel
  have hfi:=Znl (s:=s) (a:=(a:Int))
  rcases hfi with hf|⟨v,p,n,hf,h0,hav,hvs,hq,hn1,hn2,hpay⟩
  ·have HS:=Lib.hid (Zje (s:=s) (a:=a) (by omega) f)
   rw[hf]
   clear hf
   obtain⟨a2,n2,c2,hv,ho2⟩:=ho.own (by omega)
   subst hv
   go_wp2_with fail
   go_ret
   exact⟨a2,n2,c2,rfl,by rw[HL.out,HS.out,List.append_nil];exact ho2,hb⟩
  ·have HS:=Lib.hid (Zj9 (f:=f) (by omega) hf hq)
   have HQ:=Lib.hid hq
   have hbt:Zan s=true:=by obtain⟨_,_,_,_,_,_,h⟩:=Zmt hq;exact h
   have h600:=Zcm hbt
   have hav2:a≤v:=by omega
   rw[hf]
   have hzr:=hb.size
   have hvn:v+23≤n:=by omega
   clear hf hq hpay hbt h0 hav hn1
   go_wp2_with fail
   refine(Zjg s (v:Int) _).mono ?_;rintro e w3 ⟨rfl,hb3⟩
   have ho3:=ho.below hb3
   have hbA:=hb.trans (hb3.mono hzr)
   clear ho hb hb3
   rw[HQ.out]
   simp only[Option.map_some,Option.getD_some,Option.isSome_some]
   have hz3:=hbA.size
   go_wp2_with (at_builtin;refine Zd5 24 9 16 ByteArray.empty Tryz.underlying24 Zd2 rfl (by decide) (fun _=>rfl) w3 rfl _ _ rfl w.heap.size _ _ _ rfl (by exact ho3) rfl (by omega) hz3 ?_;intro v' w4 ho4 _ hb4)
   have hb5:=hbA.trans hb4
   clear hbA hb4 ho3
   go_wp2_with fail
   refine(Zpy s (n:Int) _).mono ?_;rintro e w5 ⟨rfl,hb6⟩
   have ho6:=ho4.below hb6
   have hb7:=hb5.trans (hb6.mono hb5.size)
   clear ho4 hb5 hb6
   go_wp2_with fail
   go_roundw
   case rel=>exact⟨n,f-1,l++[p],rfl,Lib.hid (by rw[HL.out,HS.out];simp),by omega,by simp;omega,hn2,ho6,hb7⟩
   case measure=>
    show atM s.size (.int .i64 (Zf0 s (n:Int)))<atM s.size (.int .i64 (v:Int))
    exact Zahl hvs (by
     rcases Znl (s:=s) (a:=(n:Int))with hf|⟨v2,p2,n2,hf,h0,hav3,hvs2,_⟩
     ·exact .inl hf
     ·exact .inr ⟨v2,hf,by omega⟩)
theorem Zyr (s:ByteArray) (w:World) (hs:s.size≤1000000):Calls Tryz.prog 229 #[.string s] w (RetTs w (allR s)):=by
 have hov:Zjo (w.alloc (.cells #[] 9)) w.heap.size (.slice (some ⟨w.heap.size,0,none⟩) 0 0) []:=OwnVF.made0 _ _ w (Nat.le_refl _)
 have hb0:Below w.heap.size w (w.alloc (.cells #[] 9)):=(Below.refl _ _).alloc (Nat.le_refl _) _
 go_enter Tryz.func229,Tryz.ntmps229
 go_wp2_with fail
 refine(Zof s 0 _ (by omega)).mono ?_;rintro e w1 ⟨rfl,hb1⟩
 have ho1:=hov.below hb1
 have hbA:=hb0.trans (hb1.mono hb0.size)
 clear hov hb0 hb1
 go_wp2_with fail
 go_loopw [3,4] (fun v i wr=>∃(a f:Nat) (l:List ByteArray),i= .int .i64 (Zf0 s (a:Nat))∧Hid (allR s=l++allL s f a)∧s.size+1≤f+a∧l.length≤a∧a≤s.size∧Zjo wr w.heap.size v l∧Below w.heap.size w wr) (fun _ i _=>atM s.size i)
 case atStart=>exact⟨0,s.size+1,[],rfl,Lib.hid rfl,by omega,Nat.le_refl _,Nat.zero_le _,ho1,hbA⟩
 case round=>
  clear ho1 hbA
  obtain⟨a,f,l,rfl,HL,hfa,hla,has,ho,hb⟩:=hrel
  have hfi:=Znl (s:=s) (a:=(a:Int))
  rcases hfi with hf|⟨v,p,n,hf,h0,hav,hvs,hq,hn1,hn2,hpay⟩
  ·have HS:=Lib.hid (Zje (s:=s) (a:=a) (by omega) f)
   rw[hf]
   clear hf
   obtain⟨a2,n2,c2,hv,ho2⟩:=ho.own (by omega)
   subst hv
   go_wp2_with fail
   go_ret
   exact⟨a2,n2,c2,rfl,by rw[HL.out,HS.out,List.append_nil];exact ho2,hb⟩
  ·have HS:=Lib.hid (Zj9 (f:=f) (by omega) hf hq)
   have HQ:=Lib.hid hq
   have hbt:Zan s=true:=by obtain⟨_,_,_,_,_,_,h⟩:=Zmt hq;exact h
   have h600:=Zcm hbt
   have hav2:a≤v:=by omega
   rw[hf]
   have hzr:=hb.size
   have hvn:v+23≤n:=by omega
   clear hf hq hpay hbt h0 hav hn1
   go_wp2_with fail
   refine(Zik s (v:Int) _ (by omega)).mono ?_;rintro e w3 ⟨rfl,hb3⟩
   have ho3:=ho.below hb3
   have hbA:=hb.trans (hb3.mono hzr)
   clear ho hb hb3
   rw[HQ.out]
   simp only[Option.map_some,Option.getD_some,Option.isSome_some]
   have hz3:=hbA.size
   go_wp2_with (at_builtin;refine Zd5 24 9 16 ByteArray.empty Tryz.underlying24 Zd2 rfl (by decide) (fun _=>rfl) w3 rfl _ _ rfl w.heap.size _ _ _ rfl (by exact ho3) rfl (by omega) hz3 ?_;intro v' w4 ho4 _ hb4)
   have hb5:=hbA.trans hb4
   clear hbA hb4 ho3
   go_wp2_with fail
   refine(Zof s (n:Int) _ (by omega)).mono ?_;rintro e w5 ⟨rfl,hb6⟩
   have ho6:=ho4.below hb6
   have hb7:=hb5.trans (hb6.mono hb5.size)
   clear ho4 hb5 hb6
   go_wp2_with fail
   go_roundw
   case rel=>exact⟨n,f-1,l++[p],rfl,Lib.hid (by rw[HL.out,HS.out];simp),by omega,by simp;omega,hn2,ho6,hb7⟩
   case measure=>
    show atM s.size (.int .i64 (Zf0 s (n:Int)))<atM s.size (.int .i64 (v:Int))
    exact Zahl hvs (by
     rcases Znl (s:=s) (a:=(n:Int))with hf|⟨v2,p2,n2,hf,h0,hav3,hvs2,_⟩
     ·exact .inl hf
     ·exact .inr ⟨v2,hf,by omega⟩)
theorem Zmu (b:ByteArray) (n s t x:Int) (w:World):Calls Tryz.prog 211 #[.string b,.int .i64 n,.agg #[.int .i64 s,.int .i64 t,.int .i64 x]] w (Zdx w (opR b n s t x)):=by
 have hR0:=Za4 w s t x
 have hB0:Below w.heap.size w (w.alloc (.cells #[.int .i64 s,.int .i64 t,.int .i64 x] 46)):=(Below.refl _ _).alloc (Nat.le_refl _) _
 have HZ:=Lib.hid (show(w.alloc (.cells #[.int .i64 s,.int .i64 t,.int .i64 x] 46)).heap.size=w.heap.size+1 by simp)
 have c0:=hR0.c0
 have c1:=hR0.c1
 have c2:=hR0.c2
 go_enter Tryz.func211,Tryz.ntmps211
 go_wp2_with fail
 refine(Zk8 b s t x _).mono ?_;rintro e w1 ⟨rfl,hb1⟩
 have hB1:=hB0.trans (hb1.mono (by rw[HZ.out];omega))
 clear hR0 hB0 hb1 c0 c1 c2
 cases hA:scrR b s t x with
 |none=>
  have HA:=Lib.hid hA
  clear hA
  simp only[Option.getD_none,Option.isSome_none]
  go_wp2_with fail
  go_ret2
  exact Zag (by unfold opR;rw[HA.out];rfl) hB1
 |some m=>
  have HA:=Lib.hid hA
  clear hA
  simp only[Option.getD_some,Option.isSome_some]
  go_wp2_with fail
  refine(Zna m n _).mono ?_;rintro e w2 ⟨rfl,hb2⟩
  have hB2:=hB1.trans (hb2.mono hB1.size)
  clear hB1 hb2
  cases hB:deiR m n with
  |none=>
   have HB:=Lib.hid hB
   clear hB
   simp only[Option.getD_none,Option.isSome_none]
   go_wp2_with fail
   go_ret2
   exact Zag (by unfold opR;rw[HA.out,Option.bind_some,HB.out];rfl) hB2
  |some k=>
   have HB:=Lib.hid hB
   clear hB
   simp only[Option.getD_some,Option.isSome_some]
   go_wp2_with fail
   refine(Zrw k _).mono ?_;rintro e w3 ⟨rfl,hb3⟩
   have hB3:=hB2.trans (hb3.mono hB2.size)
   clear hB2 hb3
   cases hC:hamR k with
   |none=>
    have HC:=Lib.hid hC
    clear hC
    simp only[Option.map_none,Option.getD_none,Option.isSome_none]
    go_wp2_with fail
    go_ret2
    exact Zag (by unfold opR;rw[HA.out,Option.bind_some,HB.out,Option.bind_some,HC.out];rfl) hB3
   |some v=>
    obtain⟨d,z⟩:=v
    have hr:=Lib.hid (show opR b n s t x=(Zbn d 0).map Prod.fst by unfold opR;rw[HA.out,Option.bind_some,HB.out,Option.bind_some,hC];rfl)
    clear hC HA HB
    simp only[Option.map_some,Option.getD_some,Option.isSome_some]
    go_wp2_with fail
    refine(Zjg d 0 _).mono ?_;rintro e w4 ⟨rfl,hb4⟩
    have hB4:=hB3.trans (hb4.mono hB3.size)
    cases hp:Zbn d 0 with
    |none=>
     have HP:=Lib.hid hp
     clear hp
     simp only[Option.map_none,Option.getD_none,Option.isSome_none]
     go_wp2_with fail
     go_ret2
     exact Zag (by rw[hr.out,HP.out];rfl) hB4
    |some pn=>
     obtain⟨p,j⟩:=pn
     have HP:=Lib.hid hp
     clear hp
     simp only[Option.map_some,Option.getD_some,Option.isSome_some]
     go_wp2_with fail
     go_ret2
     exact Zbb (by rw[hr.out,HP.out];rfl) hB4
end Go.Proofs.YtcjihfongfefoaaGreatDoor
