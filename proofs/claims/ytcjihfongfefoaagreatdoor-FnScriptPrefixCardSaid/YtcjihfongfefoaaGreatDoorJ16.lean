/- Uc Um Uk Ut -/
import Derived.Test.YtcjihfongfefoaaGreatDoorJ12
import Derived.Test.YtcjihfongfefoaaGreatDoorJ15
namespace Go.Proofs.YtcjihfongfefoaaGreatDoor
open Go.RowKit
set_option maxHeartbeats 25600000
set_option maxRecDepth 100000
def nmsT (l:List Int):ByteArray:=Zaf (Zbi 32 (l.map decT))
def rnR (s t x n:Int):Option ByteArray:=if(regB s t x&&inB n 0 600)=true then some (text (runL s.toNat t.toNat x.toNat n.toNat))else none
theorem Z4c {s t x n:Int} (h:(regB s t x&&inB n 0 600)=false):rnR s t x n=none:=by unfold rnR;rw[h];rfl
theorem Z1i {s t x n:Int} (h:(regB s t x&&inB n 0 600)=true):rnR s t x n=some (text (runL s.toNat t.toNat x.toNat n.toNat)):=by unfold rnR;rw[if_pos h]
def Zef (a b:ByteArray):Bool:=seqB a&&seqB b&&decide (a.size=b.size)
def rotT (s:ByteArray) (k:Nat):ByteArray:=s.extract k s.size++s.extract 0 k
def corN (a b:ByteArray) (k:Nat):Nat→Nat
 |0=>0
 |n+1=>corN a b k n+if(Zab a).getD n 0=(Zab b).getD ((n+k)%b.size) 0 then 1 else 0
theorem Zv1 (a b:ByteArray) (k:Nat):∀n,corN a b k n≤n
 |0=>Nat.le_refl _
 |n+1=>by have:=Zv1 a b k n;unfold corN;split<;>omega
def corV (a b:ByteArray) (k:Nat):Int:=2*(corN a b k a.size:Int)-a.size
def crsR (a b:ByteArray) (k:Int):Option Int:=if Zef a b=true then some (corV a b (k%(b.size:Int)).toNat)else none
theorem Z7o {a b:ByteArray} {k:Int} (h:Zef a b=false):crsR a b k=none:=by unfold crsR;rw[h];rfl
theorem Z4s {a b:ByteArray} {k:Int} (h:Zef a b=true):crsR a b k=some (corV a b (k%(b.size:Int)).toNat):=by unfold crsR;rw[if_pos h]
def crsF (a b:ByteArray) (n:Nat):List Int:=(List.range n).map fun k=>corV a b k
theorem Z8u (a b:ByteArray) (n:Nat):crsF a b (n+1)=crsF a b n++[corV a b n]:=Zht (f:=fun k=>corV a b k) n
theorem Zmb (a b:ByteArray) (n:Nat):(crsF a b n).length=n:=by simp[crsF]
def crsL (a b:ByteArray):List Int:=if Zef a b=true then crsF a b a.size else[]
def bstN (l:List Int):Nat→Int
 |0=> -1
 |k+1=>if bstN l k<0∨l.getD (bstN l k).toNat 0<l.getD k 0 then(k:Int)else bstN l k
theorem Zqc (l:List Int):∀k, -1≤bstN l k∧bstN l k<k∧(0<k→0≤bstN l k)
 |0=>by unfold bstN;omega
 |k+1=>by
  have:=Zqc l k
  unfold bstN
  split
  ·omega
  ·next h=>rw[not_or]at h;omega
def Zhz (a b:ByteArray):Int:=bstN (crsL a b) (crsL a b).length
def mxsT (s t:Nat):ByteArray:=text (runL s t 1 (2^s-1))
def Zil (s a b k:Int):Bool:=decide (s≤6)&&maxB s a&&maxB s b&&inB k (-2) (2^s.toNat-2)
def gldT (s a b k:Int):ByteArray:=
 if k= -2 then mxsT s.toNat a.toNat
 else if k= -1 then mxsT s.toNat b.toNat
 else sumT (mxsT s.toNat a.toNat) (rotT (mxsT s.toNat b.toNat) k.toNat)
def Zgo (s a b k:Int):Option ByteArray:=if Zil s a b k=true then some (gldT s a b k)else none
theorem Zit {s a b k:Int} (h:Zil s a b k=false):Zgo s a b k=none:=by unfold Zgo;rw[h];rfl
theorem Zy4 {s a b k:Int} (h:Zil s a b k=true):Zgo s a b k=some (gldT s a b k):=by unfold Zgo;rw[if_pos h]
def walL (i n:Nat):List Int:=(List.range n).map fun k=>((48+par (i &&& k):Nat):Int)
def Zlq (o i:Int):Bool:=inB o 0 6&&inB i 0 (2^o.toNat-1)
def walR (o i:Int):Option ByteArray:=if Zlq o i=true then some (text (walL i.toNat (2^o.toNat)))else none
theorem Zri {o i:Int} (h:Zlq o i=false):walR o i=none:=by unfold walR;rw[h];rfl
theorem Z3r {o i:Int} (h:Zlq o i=true):walR o i=some (text (walL i.toNat (2^o.toNat))):=by unfold walR;rw[if_pos h]
def treR (p:ByteArray):Option ByteArray:=if Zcq p=true then some (Zfl p)else none
theorem Zaat {p:ByteArray} (h:Zcq p=false):treR p=none:=by unfold treR;rw[h];rfl
theorem Z4a {p:ByteArray} (h:Zcq p=true):treR p=some (Zfl p):=by unfold treR;rw[if_pos h]
def Zi8 (l:List Int) (s:ByteArray) (n:Int):Bool:=sigB l&&seqB s&&inB n 0 600
def dspR (l:List Int) (s:ByteArray) (n:Int):Option (List Int):=if Zi8 l s n=true then some (Zes l (Zab s) 0 n.toNat)else none
theorem Z0i {l:List Int} {s:ByteArray} {n:Int} (h:Zi8 l s n=false):dspR l s n=none:=by unfold dspR;rw[h];rfl
theorem Zpa {l:List Int} {s:ByteArray} {n:Int} (h:Zi8 l s n=true):dspR l s n=some (Zes l (Zab s) 0 n.toNat):=by unfold dspR;rw[if_pos h]
theorem Zss (s t x n:Int) (w:World) (h:(regB s t x&&inB n 0 600)=false):Calls Tryz.prog 81 #[.agg #[.int .i64 s,.int .i64 t,.int .i64 x],.int .i64 n] w (Zdx w (rnR s t x n)):=by
 have hr:=Z4c h
 have hb0:Below w.heap.size w (w.alloc (.cells #[.int .i64 s,.int .i64 t,.int .i64 x] 46)):=(Below.refl _ _).alloc (Nat.le_refl _) _
 by_cases hv:regB s t x=true
 ·have HV:=Lib.hid hv
  have hcase:n<0∨600<n:=by
   rw[hv,Bool.true_and]at h
   have h2:¬(0≤n∧n≤600):=fun e=>by rw[inB_iff.2 e]at h;cases h
   omega
  have HC:=Lib.hid hcase
  have HR:=Lib.hid hr
  clear h hv hcase hr
  rcases HC.out with h1|h1
  ·go_enter Tryz.func81,Tryz.ntmps81
   go_wp2_with fail
   refine(Zal s t x _).mono ?_;rintro e w1 ⟨rfl,hb1⟩
   rw[HV.out]
   have hb:=hb0.trans (hb1.mono hb0.size)
   go_wp2_with fail
   go_ret2
   exact Zag HR.out hb
  ·go_enter Tryz.func81,Tryz.ntmps81
   go_wp2_with fail
   refine(Zal s t x _).mono ?_;rintro e w1 ⟨rfl,hb1⟩
   rw[HV.out]
   have hb:=hb0.trans (hb1.mono hb0.size)
   go_wp2_with fail
   go_ret2
   exact Zag HR.out hb
 ·have HV:=Lib.hid (show regB s t x=false by simpa using hv)
  have HR:=Lib.hid hr
  clear h hv hr
  go_enter Tryz.func81,Tryz.ntmps81
  go_wp2_with fail
  refine(Zal s t x _).mono ?_;rintro e w1 ⟨rfl,hb1⟩
  rw[HV.out]
  have hb:=hb0.trans (hb1.mono hb0.size)
  go_wp2_with fail
  go_ret2
  exact Zag HR.out hb
theorem Zgw (s t x n:Int) (w:World):Calls Tryz.prog 81 #[.agg #[.int .i64 s,.int .i64 t,.int .i64 x],.int .i64 n] w (Zdx w (rnR s t x n)):=by
 by_cases h:(regB s t x&&inB n 0 600)=true
 ·have hr:=Z1i h
  rw[Bool.and_eq_true]at h
  have h2:=inB_iff.1 h.2
  obtain⟨S,T,X,rfl,rfl,rfl,g1,g2,g3⟩:=Zbx h.1
  obtain⟨N,rfl⟩:=Int.eq_ofNat_of_zero_le h2.1
  refine(Zf9 S T X N w h.1 g1 g2.2 g3 (by omega)).mono ?_
  rintro e w' ⟨rfl,hb⟩
  exact Zbb hr hb
 ·exact Zss s t x n w (by simpa using h)
theorem Zsq (s t x n:Int) (w:World):Calls Tryz.prog 219 #[.agg #[.int .i64 s,.int .i64 t,.int .i64 x],.int .i64 n] w (Zdx w (rnR s t x n)):=by
 have hb0:Below w.heap.size w (w.alloc (.cells #[.int .i64 s,.int .i64 t,.int .i64 x] 46)):=(Below.refl _ _).alloc (Nat.le_refl _) _
 have hR0:=Za4 w s t x
 by_cases hv:regB s t x=true
 ·have HV:=Lib.hid hv
  by_cases hi:inB n 0 600=true
  ·have HR:=Lib.hid (Z1i (s:=s) (t:=t) (x:=x) (n:=n) (by rw[hv,hi];rfl))
   have HI:=Lib.hid hi
   have h2:=inB_iff.1 hi
   obtain⟨S,T,X,rfl,rfl,rfl,g1,g2,g3⟩:=Zbx hv
   obtain⟨N,rfl⟩:=Int.eq_ofNat_of_zero_le h2.1
   have HL:=Lib.hid (fun c=>Zlg S T X N c g1 g2.2 g3 (by omega))
   clear hv hi g3
   go_enter Tryz.func219,Tryz.ntmps219
   go_wp2_with fail
   refine(Zao S T X _).mono ?_;rintro e w1 ⟨rfl,hb1⟩
   rw[HV.out]
   have hR:=hR0.below hb1 hR0.lt
   have c0:=hR.c0
   have c1:=hR.c1
   have c2:=hR.c2
   have hb:=hb0.trans (hb1.mono hb0.size)
   go_wp2_with fail
   refine(Zbq _ _ _ _).mono ?_;rintro e w' ⟨rfl,rfl⟩
   rw[HI.out]
   go_wp2_with fail
   refine(HL.out _).mono ?_;rintro e w2 ⟨rfl,hb2⟩
   have hbz:=hb.trans (hb2.mono hb.size)
   go_wp2_with fail
   go_ret2
   exact Zbb HR.out hbz
  ·have hi':inB n 0 600=false:=by simpa using hi
   have HR:=Lib.hid (Z4c (s:=s) (t:=t) (x:=x) (n:=n) (by rw[hi',Bool.and_false]))
   have HI:=Lib.hid hi'
   clear hv hi hi'
   go_enter Tryz.func219,Tryz.ntmps219
   go_wp2_with fail
   refine(Zao s t x _).mono ?_;rintro e w1 ⟨rfl,hb1⟩
   rw[HV.out]
   have hb:=hb0.trans (hb1.mono hb0.size)
   go_wp2_with fail
   refine(Zbq _ _ _ _).mono ?_;rintro e w' ⟨rfl,rfl⟩
   rw[HI.out]
   go_wp2_with fail
   go_ret2
   exact Zag HR.out hb
 ·have hv':regB s t x=false:=by simpa using hv
  have HV:=Lib.hid hv'
  have HR:=Lib.hid (Z4c (s:=s) (t:=t) (x:=x) (n:=n) (by rw[hv',Bool.false_and]))
  clear hv hv'
  go_enter Tryz.func219,Tryz.ntmps219
  go_wp2_with fail
  refine(Zao s t x _).mono ?_;rintro e w1 ⟨rfl,hb1⟩
  rw[HV.out]
  have hb:=hb0.trans (hb1.mono hb0.size)
  go_wp2_with fail
  go_ret2
  exact Zag HR.out hb
theorem Z8o {S T X:Nat} (hs:2≤S∧S≤8) (ht:1≤T∧T<2^S) (hx:X<2^S):regB S T X=true:=by
 have hp:(2:Int)^S=((2^S:Nat):Int):=by rw[Int.natCast_pow];rfl
 unfold regB tapB
 rw[show((S:Int)).toNat=S from rfl,hp,Zax (by omega) (by omega),Zax (by omega) (by omega),Zax (by omega) (by omega)];rfl
theorem Zahv {b:ByteArray} {s t:Nat}:((text (runL s t (frmX b s) b.size)).toList==b.toList)=shG b s t:=by
 unfold shG
 rw[Bool.eq_iff_iff,beq_iff_eq,decide_eq_true_eq]
 constructor
 ·intro h
  have e:text (runL s t (frmX b s) b.size)=b:=Z6h h
  rw[←Zcf (Zki s t (frmX b s) b.size),e]
 ·intro h
  rw[h,Zc6]
theorem Zagy {b:ByteArray} {S t:Nat} (hS:2≤S∧S≤8) (ht:1≤t) (h:shM b (S-2)=none) (h1:shN b S (t-1)=none) (h2:t<2^S) (h3:shG b S t=true):shM b 7=some (S,t):=by
 obtain⟨k,rfl⟩:∃k,S=k+2:=⟨S-2,by omega⟩
 obtain⟨j,rfl⟩:∃j,t=j+1:=⟨t-1,by omega⟩
 exact Zajn h (Zakj h1 h3 (by omega)) (by omega)
theorem Z16 {b:ByteArray} {S t:Nat} (ht:1≤t) (h1:shN b S (t-1)=none) (h3:shG b S t=false):shN b S (t+1-1)=none:=by
 obtain⟨j,rfl⟩:∃j,t=j+1:=⟨t-1,by omega⟩
 exact Zafc h1 h3
theorem Z27 {b:ByteArray} {S:Nat} (hS:2≤S) (h:shM b (S-2)=none) (h1:shN b S (2^S-1)=none):shM b (S+1-2)=none:=by
 obtain⟨k,rfl⟩:∃k,S=k+2:=⟨S-2,by omega⟩
 exact Zafq h h1
theorem Ztv {b:ByteArray} (h:shOk b=true):Zan b=true∧8≤b.size∧b.size≤64:=by
 unfold shOk at h
 rw[Bool.and_eq_true]at h
 have:=inB_iff.1 h.2
 exact⟨h.1,by omega,by omega⟩
theorem Zzi (b:ByteArray) (w:World) (h:shOk b=true):Calls Tryz.prog 27 #[.string b] w (Zey w (shR b)):=by
 have hr:=Lib.hid (Z0d h)
 obtain⟨hbt,hz1,hz2⟩:=Ztv h
 have HBT:=Lib.hid hbt
 have HB:=Lib.hid (Zkf hbt)
 have HL:=Lib.hid (Zp3 HB.out)
 clear h hbt
 have hU0:=Za4 w 0 0 0
 have hb0:Below w.heap.size w (w.alloc (.cells #[.int .i64 0,.int .i64 0,.int .i64 0] 46)):=(Below.refl _ _).alloc (Nat.le_refl _) _
 go_enter Tryz.func27,Tryz.ntmps27
 go_wp2_with fail
 refine(Za2 _ _).mono ?_;rintro e w' ⟨rfl,rfl⟩
 rw[HBT.out]
 go_wp2_with fail
 go_loopw [4] (fun i wr=>∃S:Nat,2≤S∧S≤9∧i= .int .i64 S∧Hid (shM b (S-2)=none)∧RegAt wr w.heap.size 0 0 0∧Below w.heap.size w wr) (fun i _=>9-(intOf i).toNat)
 case atStart=>exact⟨2,Nat.le_refl _,by omega,rfl,Lib.hid rfl,hU0,hb0⟩
 case round=>
  clear hU0 hb0
  obtain⟨S,hS1,hS2,rfl,HM,hU,hbw⟩:=hrel
  by_cases hlt:S≤8
  ·have hp:=Zaw hlt
   have hd8:decide ((S:Int)≤8)=true:=decide_eq_true (by omega)
   have hc1:=Zuq hlt
   have hc2:=wrp2 hlt
   obtain⟨P,hP⟩:∃P,2^S=P:=⟨_,rfl⟩
   rw[hP]at hp hc1 hc2
   have HP:=Lib.hid hP
   clear hP
   have hlS:=Lib.hid (HL.out S)
   go_wp2_with fail
   go_loopw [5] (fun i ws=>∃t:Nat,1≤t∧t≤P∧i= .int .i64 t∧Hid (shN b S (t-1)=none)∧RegAt ws w.heap.size 0 0 0∧Below w.heap.size w ws) (fun i _=>P-(intOf i).toNat)
   case atStart=>exact⟨1,Nat.le_refl _,hp.1,rfl,Lib.hid rfl,hU,hbw⟩
   case round=>
    clear hU hbw
    obtain⟨t,ht1,ht2,rfl,HN,hU,hbw⟩:=hrel
    by_cases htl:t<P
    ·have hlt0:=hU.lt
     have HRB:=Lib.hid (Z8o (S:=S) (T:=t) (X:=frmX b S) ⟨hS1,hlt⟩ ⟨ht1,by rw[HP.out];exact htl⟩ hlS.out)
     have HST:=Lib.hid (Zahv (b:=b) (s:=S) (t:=t))
     go_wp2_with fail
     refine(Zw0 S t b _ ⟨hS1,hlt⟩ (by omega) (by omega) HB.out).mono ?_;rintro e w2 ⟨rfl,hb2⟩
     have hU2:=(hU.below hb2 hlt0).alloc (.cells #[.int .i64 S,.int .i64 t,.int .i64 (frmX b S:Nat)] 46)
     have hR2:=Za4 w2 S t (frmX b S:Nat)
     have hb3:=(hbw.trans (hb2.mono hbw.size)).alloc (by have:=hb2.size;have:=hbw.size;omega) (.cells #[.int .i64 S,.int .i64 t,.int .i64 (frmX b S:Nat)] 46)
     have c0:=hR2.c0
     have c1:=hR2.c1
     have c2:=hR2.c2
     have hw2:w.heap.size<w2.heap.size:=by have:=hb2.size;omega
     generalize hw3:w2.alloc (.cells #[.int .i64 S,.int .i64 t,.int .i64 (frmX b S:Nat)] 46)=w3 at*
     have HW3:=Lib.hid hw3
     clear hw3 hU hbw hb2
     go_wp2_with fail
     rw[HW3.out]
     go_wp2_with fail
     refine(Zf9 S t (frmX b S) b.size _ HRB.out ⟨hS1,hlt⟩ (by rw[HP.out];exact htl) hlS.out (by omega)).mono ?_;rintro e w4 ⟨rfl,hb4⟩
     have hU4:=hU2.below hb4 hU2.lt
     have hR4:=hR2.below hb4 hR2.lt
     have hb5:=hb3.trans (hb4.mono hb3.size)
     clear hU2 hR2 hb3 hb4 c0 c1 c2
     have hst:=HST.out
     cases hg:shG b S t with
     |false=>
      rw[hg]at hst
      have HN2:=Lib.hid (Z16 ht1 HN.out hg)
      clear hg
      generalize text (runL S t (frmX b S) b.size)=T at*
      go_wp2_with fail
      go_roundw
      case rel=>exact⟨t+1,by omega,by omega,by go_num,HN2,hU4,hb5⟩
      case measure=>simp[intOf];omega
     |true=>
      rw[hg]at hst
      have HZ:=Lib.hid (show shR b=some ((S:Int),(t:Int),(frmX b S:Int))by rw[hr.out,Zagy ⟨hS1,hlt⟩ ht1 HM.out HN.out (by rw[HP.out];exact htl) hg];rfl)
      clear hg
      generalize text (runL S t (frmX b S) b.size)=T at*
      have c0:=hR4.c0
      have c1:=hR4.c1
      have c2:=hR4.c2
      have d0:=hU4.c0
      have d1:=hU4.c1
      have d2:=hU4.c2
      have f0:=hU4.free 0
      have f1:=hU4.free 1
      have f2:=hU4.free 2
      clear hU4 hR4
      go_wp2_with fail
      refine bodyPost_ret (v:=.tuple #[.agg #[.int .i64 S,.int .i64 t,.int .i64 (frmX b S:Nat)],.bool true]) (by simp[results,Tryz.results27,go_sem,d0,d1,d2]) rfl ⟨by rw[HZ.out];rfl,?_⟩
      refine Below.setCell (Below.setCell (Below.setCell hb5 (by simp) _) (by simp) _) (by simp) _
    ·obtain rfl:t=P:=by omega
     have HMN:=Lib.hid (Z27 hS1 HM.out (by rw[HP.out];exact HN.out))
     go_wp2_with fail
     go_roundw
     case rel=>exact⟨S+1,by omega,by omega,by go_num,HMN,hU,hbw⟩
     case measure=>simp[intOf];omega
  ·obtain rfl:S=9:=by omega
   have HZ:=Lib.hid (show shR b=none by rw[hr.out,show shM b 7=none from HM.out];rfl)
   have d0:=hU.c0
   have d1:=hU.c1
   have d2:=hU.c2
   have f0:=hU.free 0
   have f1:=hU.free 1
   have f2:=hU.free 2
   go_wp2_with fail
   refine bodyPost_ret (v:=.tuple #[.agg #[.int .i64 0,.int .i64 0,.int .i64 0],.bool false]) (by simp[results,Tryz.results27,go_sem,d0,d1,d2]) rfl ⟨by rw[HZ.out];rfl,?_⟩
   refine Below.setCell (Below.setCell (Below.setCell hbw (by simp) _) (by simp) _) (by simp) _
theorem Z0y (b:ByteArray) (w:World) (h:shOk b=false):Calls Tryz.prog 27 #[.string b] w (Zey w (shR b)):=by
 have hr:=Lib.hid (Zahy h)
 have hU0:=Za4 w 0 0 0
 have hb0:Below w.heap.size w (w.alloc (.cells #[.int .i64 0,.int .i64 0,.int .i64 0] 46)):=(Below.refl _ _).alloc (Nat.le_refl _) _
 by_cases hb:Zan b=true
 ·have HBT:=Lib.hid hb
  have hcase:b.size<8∨64<b.size:=by
   unfold shOk at h
   rw[hb,Bool.true_and]at h
   have h2:¬(8≤(b.size:Int)∧(b.size:Int)≤64):=fun e=>by rw[inB_iff.2 e]at h;cases h
   omega
  have HC:=Lib.hid hcase
  clear hb h hcase
  rcases HC.out with h1|h1
  ·have d0:=hU0.c0
   have d1:=hU0.c1
   have d2:=hU0.c2
   have f0:=hU0.free 0
   have f1:=hU0.free 1
   have f2:=hU0.free 2
   go_enter Tryz.func27,Tryz.ntmps27
   go_wp2_with fail
   refine(Za2 _ _).mono ?_;rintro e w' ⟨rfl,rfl⟩
   rw[HBT.out]
   go_wp2_with fail
   refine bodyPost_ret (v:=.tuple #[.agg #[.int .i64 0,.int .i64 0,.int .i64 0],.bool false]) (by simp[results,Tryz.results27,go_sem,d0,d1,d2]) rfl ⟨by rw[hr.out];rfl,?_⟩
   exact hb0
  ·have d0:=hU0.c0
   have d1:=hU0.c1
   have d2:=hU0.c2
   have f0:=hU0.free 0
   have f1:=hU0.free 1
   have f2:=hU0.free 2
   go_enter Tryz.func27,Tryz.ntmps27
   go_wp2_with fail
   refine(Za2 _ _).mono ?_;rintro e w' ⟨rfl,rfl⟩
   rw[HBT.out]
   go_wp2_with fail
   refine bodyPost_ret (v:=.tuple #[.agg #[.int .i64 0,.int .i64 0,.int .i64 0],.bool false]) (by simp[results,Tryz.results27,go_sem,d0,d1,d2]) rfl ⟨by rw[hr.out];rfl,?_⟩
   exact hb0
 ·have HBT:=Lib.hid (show Zan b=false by simpa using hb)
  clear hb h
  have d0:=hU0.c0
  have d1:=hU0.c1
  have d2:=hU0.c2
  have f0:=hU0.free 0
  have f1:=hU0.free 1
  have f2:=hU0.free 2
  go_enter Tryz.func27,Tryz.ntmps27
  go_wp2_with fail
  refine(Za2 _ _).mono ?_;rintro e w' ⟨rfl,rfl⟩
  rw[HBT.out]
  go_wp2_with fail
  refine bodyPost_ret (v:=.tuple #[.agg #[.int .i64 0,.int .i64 0,.int .i64 0],.bool false]) (by simp[results,Tryz.results27,go_sem,d0,d1,d2]) rfl ⟨by rw[hr.out];rfl,?_⟩
  exact hb0
theorem Zex (b:ByteArray) (w:World):Calls Tryz.prog 27 #[.string b] w (Zey w (shR b)):=by
 by_cases h:shOk b=true
 ·exact Zzi b w h
 ·exact Z0y b w (by simpa using h)
theorem Z84 (w:World) {lo:Nat} (hlo:lo≤w.heap.size):Own (w.alloc (.cells #[] 3)) lo (some ⟨w.heap.size,0,none⟩) 0 0 []:=by
 obtain⟨a1,n1,c1,hv,ho⟩:=(OwnV.made0 w hlo).own (by simp)
 cases hv
 exact ho
theorem Zc1 {w w1:World} {r:Option (List Int)} (hr:r=none) (hb:Below w.heap.size w w1):RetIntsB w r (.returned (.tuple #[.slice (some ⟨w1.heap.size,0,none⟩) 0 0,.bool false])) (w1.alloc (.cells #[] 3)):=by
 subst hr
 exact⟨_,_,_,rfl,Z84 w1 hb.size,hb.alloc hb.size _⟩
theorem Zhk {w w':World} {r:Option (List Int)} {l:List Int} {ao:Option Addr} {n c:Nat} (hr:r=some l) (h:Own w' w.heap.size ao n c l) (hb:Below w.heap.size w w'):RetIntsB w r (.returned (.tuple #[.slice ao n c,.bool true])) w':=by
 subst hr
 exact⟨ao,n,c,rfl,h,hb⟩
theorem Zoc (p:ByteArray) (w:World):Calls Tryz.prog 47 #[.string p] w (Zdx w (treR p)):=by
 by_cases hp:Zcq p=true
 ·refine(Znq p w hp).mono ?_
  rintro e w' ⟨rfl,hb⟩
  exact Zbb (Z4a hp) hb
 ·have hp':Zcq p=false:=by simpa using hp
  have HP:=Lib.hid hp'
  have HR:=Lib.hid (Zaat hp')
  clear hp hp'
  go_enter Tryz.func47,Tryz.ntmps47
  go_wp2_with fail
  refine(Zcu _ _).mono ?_;rintro e w' ⟨rfl,rfl⟩
  rw[HP.out]
  go_wp2_with fail
  go_ret2
  exact Zag HR.out (Below.refl _ _)
theorem Z0t (p:ByteArray) (w:World) (hs:p.size≤1099511627776):Calls Tryz.prog 228 #[.string p] w (Zdx w (treR p)):=by
 by_cases hp:Zcq p=true
 ·have HP:=Lib.hid hp
  have HR:=Lib.hid (Z4a hp)
  have HT:=Lib.hid (fun c=>(show Calls Tryz.prog 51 #[.string p] c fun e w'=>e= .returned (.string (Zfl p))∧Below c.heap.size c w' from Zuw p c (Zcr hp)))
  generalize Zfl p=T at*
  clear hp
  go_enter Tryz.func228,Tryz.ntmps228
  go_wp2_with fail
  refine(Zkt _ _ hs).mono ?_;rintro e w' ⟨rfl,rfl⟩
  rw[HP.out]
  go_wp2_with fail
  refine(HT.out _).mono ?_;rintro e w1 ⟨rfl,hb1⟩
  go_wp2_with fail
  go_ret2
  exact Zbb HR.out hb1
 ·have hp':Zcq p=false:=by simpa using hp
  have HP:=Lib.hid hp'
  have HR:=Lib.hid (Zaat hp')
  clear hp hp'
  go_enter Tryz.func228,Tryz.ntmps228
  go_wp2_with fail
  refine(Zkt _ _ hs).mono ?_;rintro e w' ⟨rfl,rfl⟩
  rw[HP.out]
  go_wp2_with fail
  go_ret2
  exact Zag HR.out (Below.refl _ _)
theorem Zvf (d s:ByteArray) (w:World) (hd:d.size≤1099511627776) (hs:s.size≤1099511627776):Calls Tryz.prog 39 #[.string d,.string s] w (RetIntsB w (sprR d s)):=by
 by_cases h1:Zan d=true
 ·have H1:=Lib.hid h1
  have hz:=Zcm h1
  by_cases h2:seqB s=true
  ·have H2:=Lib.hid h2
   have hzs:=Zbg h2
   obtain⟨p,hp⟩:∃p:Nat,d.size*s.size=p:=⟨_,rfl⟩
   have hpb:p≤600*255:=by rw[←hp];exact Nat.mul_le_mul hz hzs.2
   have hmul:IntKind.i64.wrap ((d.size:Int)*(s.size:Int))=(p:Int):=Z04 hp (by omega)
   have hmul2:RowKit.wrap64 ((d.size:Int)*(s.size:Int))=(p:Int):=by rw[Zx8];exact hmul
   by_cases h3:p≤3000
   ·have HR:=Lib.hid (Zt6 h1 h2 (by rw[hp];exact h3))
    have HT:=Lib.hid (fun c=>Ztl d s c hz hzs.2 (Zph h2))
    unfold Zdw at HT
    generalize Zbj (Zab d) (Zab s)=L at*
    clear h1 h2 hp
    go_enter Tryz.func39,Tryz.ntmps39
    go_wp2_with fail
    refine(Za0 _ _ hd).mono ?_;rintro e w' ⟨rfl,rfl⟩
    rw[H1.out]
    go_wp2_with fail
    refine(Za6 _ _ hs).mono ?_;rintro e w' ⟨rfl,rfl⟩
    rw[H2.out]
    go_wp2_with fail
    refine(HT.out _).mono ?_;rintro e w1 ⟨ao,n,c,rfl,ho,hb1⟩
    go_wp2_with fail
    go_ret2
    exact Zhk HR.out ho hb1
   ·have HR:=Lib.hid (Zahe (d:=d) (s:=s) (by rw[hp];exact h3))
    clear h1 h2 hp
    go_enter Tryz.func39,Tryz.ntmps39
    go_wp2_with fail
    refine(Za0 _ _ hd).mono ?_;rintro e w' ⟨rfl,rfl⟩
    rw[H1.out]
    go_wp2_with fail
    refine(Za6 _ _ hs).mono ?_;rintro e w' ⟨rfl,rfl⟩
    rw[H2.out]
    go_wp2_with fail
    go_ret2
    exact Zc1 HR.out (Below.refl _ _)
  ·have h2':seqB s=false:=by simpa using h2
   have H2:=Lib.hid h2'
   have HR:=Lib.hid (Zag6 (d:=d) h2')
   clear h1 h2 h2'
   go_enter Tryz.func39,Tryz.ntmps39
   go_wp2_with fail
   refine(Za0 _ _ hd).mono ?_;rintro e w' ⟨rfl,rfl⟩
   rw[H1.out]
   go_wp2_with fail
   refine(Za6 _ _ hs).mono ?_;rintro e w' ⟨rfl,rfl⟩
   rw[H2.out]
   go_wp2_with fail
   go_ret2
   exact Zc1 HR.out (Below.refl _ _)
 ·have h1':Zan d=false:=by simpa using h1
  have H1:=Lib.hid h1'
  have HR:=Lib.hid (Zahm (s:=s) h1')
  clear h1 h1'
  go_enter Tryz.func39,Tryz.ntmps39
  go_wp2_with fail
  refine(Za0 _ _ hd).mono ?_;rintro e w' ⟨rfl,rfl⟩
  rw[H1.out]
  go_wp2_with fail
  go_ret2
  exact Zc1 HR.out (Below.refl _ _)
theorem Zza {ao:Option Addr} {n c:Nat} {l:List Int} {w:World} (h:Rd w ao n l) (hs:sigB l=true):Calls Tryz.prog 289 #[.slice ao n c] w fun e w'=>e= .returned (.tuple #[.slice ao n c,.bool true])∧w=w':=by
 have HS:=Lib.hid hs
 clear hs
 go_enter Tryz.func289,Tryz.ntmps289
 go_wp2_with fail
 refine(Zb1 h).mono ?_;rintro e w' ⟨rfl,rfl⟩
 rw[HS.out]
 go_wp2_with fail
 go_ret2
 exact⟨rfl,rfl⟩
theorem Zzv {ao:Option Addr} {n c:Nat} {l:List Int} {w:World} (h:Rd w ao n l) (hs:sigB l=false):Calls Tryz.prog 289 #[.slice ao n c] w fun e w'=>e= .returned (.tuple #[.slice (some ⟨w.heap.size,0,none⟩) 0 0,.bool false])∧w'=w.alloc (.cells #[] 3):=by
 have HS:=Lib.hid hs
 clear hs
 go_enter Tryz.func289,Tryz.ntmps289
 go_wp2_with fail
 refine(Zb1 h).mono ?_;rintro e w' ⟨rfl,rfl⟩
 rw[HS.out]
 go_wp2_with fail
 go_ret2
 exact⟨rfl,rfl⟩
theorem Zsf {ao:Option Addr} {n c:Nat} {l:List Int} {w:World} (g:Int) (h:Rd w ao n l):Calls Tryz.prog 234 #[.slice ao n c,.int .i64 g] w (RetIntsB w (sclR l g)):=by
 by_cases h1:sigB l=true
 ·have H1:=Lib.hid h1
  by_cases h2:inB g (-1000000) 1000000=true
  ·have H2:=Lib.hid h2
   have HT:=Lib.hid (Zx7 (c:=c) g h h1 (inB_iff.1 h2))
   unfold Zdw at HT
   cases h3:sigB (Zb9 g l)with
   |true=>
    have HR:=Lib.hid (Zpr h1 h2 h3)
    have H3:=Lib.hid h3
    generalize Zb9 g l=L at*
    clear h1 h2 h3
    go_enter Tryz.func234,Tryz.ntmps234
    go_wp2_with fail
    refine(Zb1 h).mono ?_;rintro e w' ⟨rfl,rfl⟩
    rw[H1.out]
    go_wp2_with fail
    refine(Zbq _ _ _ _).mono ?_;rintro e w' ⟨rfl,rfl⟩
    rw[H2.out]
    go_wp2_with fail
    refine HT.out.mono ?_;rintro e w1 ⟨ao',n',c',rfl,ho,hb1⟩
    go_wp2_with fail
    refine(Zza ho.rd H3.out).mono ?_;rintro e w' ⟨rfl,rfl⟩
    go_wp2_with fail
    go_ret2
    exact Zhk HR.out ho hb1
   |false=>
    have HR:=Lib.hid (Zahz h3)
    have H3:=Lib.hid h3
    generalize Zb9 g l=L at*
    clear h1 h2 h3
    go_enter Tryz.func234,Tryz.ntmps234
    go_wp2_with fail
    refine(Zb1 h).mono ?_;rintro e w' ⟨rfl,rfl⟩
    rw[H1.out]
    go_wp2_with fail
    refine(Zbq _ _ _ _).mono ?_;rintro e w' ⟨rfl,rfl⟩
    rw[H2.out]
    go_wp2_with fail
    refine HT.out.mono ?_;rintro e w1 ⟨ao',n',c',rfl,ho,hb1⟩
    go_wp2_with fail
    refine(Zzv ho.rd H3.out).mono ?_;rintro e w' ⟨rfl,rfl⟩
    go_wp2_with fail
    go_ret2
    exact Zc1 HR.out hb1
  ·have h2':inB g (-1000000) 1000000=false:=by simpa using h2
   have H2:=Lib.hid h2'
   have HR:=Lib.hid (Z8y (l:=l) h2')
   clear h1 h2 h2'
   go_enter Tryz.func234,Tryz.ntmps234
   go_wp2_with fail
   refine(Zb1 h).mono ?_;rintro e w' ⟨rfl,rfl⟩
   rw[H1.out]
   go_wp2_with fail
   refine(Zbq _ _ _ _).mono ?_;rintro e w' ⟨rfl,rfl⟩
   rw[H2.out]
   go_wp2_with fail
   go_ret2
   exact Zc1 HR.out (Below.refl _ _)
 ·have h1':sigB l=false:=by simpa using h1
  have H1:=Lib.hid h1'
  have HR:=Lib.hid (Zah0 (g:=g) h1')
  clear h1 h1'
  go_enter Tryz.func234,Tryz.ntmps234
  go_wp2_with fail
  refine(Zb1 h).mono ?_;rintro e w' ⟨rfl,rfl⟩
  rw[H1.out]
  go_wp2_with fail
  go_ret2
  exact Zc1 HR.out (Below.refl _ _)
theorem Zzk {l:List Int} {s:ByteArray} {n:Int} (h:Zi8 l s n=true):sigB l=true∧seqB s=true∧∃N:Nat,n=N∧N≤600:=by
 unfold Zi8 at h
 simp only[Bool.and_eq_true]at h
 have:=inB_iff.1 h.2
 obtain⟨N,rfl⟩:=Int.eq_ofNat_of_zero_le this.1
 exact⟨h.1.1,h.1.2,N,rfl,by omega⟩
theorem Zaix {l:List Int} {s:ByteArray} {n:Int} (h:Zi8 l s n=false):sigB l=false∨(sigB l=true∧seqB s=false)∨(sigB l=true∧seqB s=true∧(n<0∨600<n)):=by
 unfold Zi8 at h
 cases h1:sigB l with
 |false=>exact .inl rfl
 |true=>
  cases h2:seqB s with
  |false=>exact .inr (.inl ⟨rfl,rfl⟩)
  |true=>
   rw[h1,h2]at h
   simp only[Bool.true_and]at h
   have h3:¬(0≤n∧n≤600):=fun e=>by rw[inB_iff.2 e]at h;cases h
   exact .inr (.inr ⟨rfl,rfl,by omega⟩)
theorem Zi4 {ao:Option Addr} {n c:Nat} {l:List Int} {w:World} (s:ByteArray) (m:Int) (h:Rd w ao n l):Calls Tryz.prog 40 #[.slice ao n c,.string s,.int .i64 m] w (RetIntsB w (dspR l s m)):=by
 by_cases hk:Zi8 l s m=true
 ·have HR:=Lib.hid (Zpa hk)
  obtain⟨h1,h2,N,rfl,hN⟩:=Zzk hk
  have H1:=Lib.hid h1
  have H2:=Lib.hid h2
  have hz:=Zbg h2
  have HT:=Lib.hid (Zhh (c:=c) s 0 N h h1 (by omega) (by omega) (by omega))
  rw[show((N:Int)).toNat=N from rfl]at HR
  unfold Zdw at HT
  generalize Zes l (Zab s) 0 N=L at*
  clear hk h1 h2
  go_enter Tryz.func40,Tryz.ntmps40
  go_wp2_with fail
  refine(Za3 h).mono ?_;rintro e w' ⟨rfl,rfl⟩
  rw[H1.out]
  go_wp2_with fail
  refine(Zat _ _).mono ?_;rintro e w' ⟨rfl,rfl⟩
  rw[H2.out]
  go_wp2_with fail
  refine HT.out.mono ?_;rintro e w1 ⟨ao',n',c',rfl,ho,hb1⟩
  go_wp2_with fail
  go_ret2
  exact Zhk HR.out ho hb1
 ·have hk':Zi8 l s m=false:=by simpa using hk
  have HR:=Lib.hid (Z0i hk')
  have HC:=Lib.hid (Zaix hk')
  clear hk hk'
  rcases HC.out with h1|⟨h1,h2⟩|⟨h1,h2,h3|h3⟩
  ·have H1:=Lib.hid h1
   clear h1
   go_enter Tryz.func40,Tryz.ntmps40
   go_wp2_with fail
   refine(Za3 h).mono ?_;rintro e w' ⟨rfl,rfl⟩
   rw[H1.out]
   go_wp2_with fail
   go_ret2
   exact Zbd HR.out (Below.refl _ _)
  ·have H1:=Lib.hid h1
   have H2:=Lib.hid h2
   clear h1 h2
   go_enter Tryz.func40,Tryz.ntmps40
   go_wp2_with fail
   refine(Za3 h).mono ?_;rintro e w' ⟨rfl,rfl⟩
   rw[H1.out]
   go_wp2_with fail
   refine(Zat _ _).mono ?_;rintro e w' ⟨rfl,rfl⟩
   rw[H2.out]
   go_wp2_with fail
   go_ret2
   exact Zbd HR.out (Below.refl _ _)
  ·have H1:=Lib.hid h1
   have H2:=Lib.hid h2
   clear h1 h2
   go_enter Tryz.func40,Tryz.ntmps40
   go_wp2_with fail
   refine(Za3 h).mono ?_;rintro e w' ⟨rfl,rfl⟩
   rw[H1.out]
   go_wp2_with fail
   refine(Zat _ _).mono ?_;rintro e w' ⟨rfl,rfl⟩
   rw[H2.out]
   go_wp2_with fail
   go_ret2
   exact Zbd HR.out (Below.refl _ _)
  ·have H1:=Lib.hid h1
   have H2:=Lib.hid h2
   clear h1 h2
   go_enter Tryz.func40,Tryz.ntmps40
   go_wp2_with fail
   refine(Za3 h).mono ?_;rintro e w' ⟨rfl,rfl⟩
   rw[H1.out]
   go_wp2_with fail
   refine(Zat _ _).mono ?_;rintro e w' ⟨rfl,rfl⟩
   rw[H2.out]
   go_wp2_with fail
   go_ret2
   exact Zbd HR.out (Below.refl _ _)
theorem Znr {ao:Option Addr} {n c:Nat} {l:List Int} {w:World} (s:ByteArray) (m:Int) (h:Rd w ao n l) (hs:s.size≤1099511627776):Calls Tryz.prog 231 #[.slice ao n c,.string s,.int .i64 m] w (RetIntsB w (dspR l s m)):=by
 have HD:=Lib.hid (show(recB l s 0&&inB m 0 600)=Zi8 l s m by
  unfold recB Zi8
  rw[show inB (0:Int) 0 3000=true by decide,Bool.and_true])
 by_cases hk:Zi8 l s m=true
 ·have HR:=Lib.hid (Zpa hk)
  have HK:=Lib.hid hk
  obtain⟨h1,h2,N,rfl,hN⟩:=Zzk hk
  have hz:=Zbg h2
  have HT:=Lib.hid (Zos (c:=c) s 0 N h h1 (by omega) (by omega) (by omega) (Zph h2))
  rw[show((N:Int)).toNat=N from rfl]at HR
  unfold Zdw at HT
  generalize Zes l (Zab s) 0 N=L at*
  clear hk h1 h2
  go_enter Tryz.func231,Tryz.ntmps231
  go_wp2_with fail
  refine(Zkl s 0 (N:Int) h hs).mono ?_;rintro e w' ⟨rfl,rfl⟩
  rw[HD.out,HK.out]
  go_wp2_with fail
  refine HT.out.mono ?_;rintro e w1 ⟨ao',n',c',rfl,ho,hb1⟩
  go_wp2_with fail
  go_ret2
  exact Zhk HR.out ho hb1
 ·have hk':Zi8 l s m=false:=by simpa using hk
  have HR:=Lib.hid (Z0i hk')
  have HK:=Lib.hid hk'
  clear hk hk'
  go_enter Tryz.func231,Tryz.ntmps231
  go_wp2_with fail
  refine(Zkl s 0 m h hs).mono ?_;rintro e w' ⟨rfl,rfl⟩
  rw[HD.out,HK.out]
  go_wp2_with fail
  go_ret2
  exact Zc1 HR.out (Below.refl _ _)
end Go.Proofs.YtcjihfongfefoaaGreatDoor
