/- Ul -/
import Derived.Test.YtcjihfongfefoaaGreatDoorJ16
namespace Go.Proofs.YtcjihfongfefoaaGreatDoor
open Go.RowKit
set_option maxHeartbeats 25600000
set_option maxRecDepth 100000
theorem Zvm (b:ByteArray) (w:World) (h:shOk b=true):Calls Tryz.prog 221 #[.string b] w (Zey w (shR b)):=by
 have hr:=Lib.hid (Z0d h)
 obtain⟨hbt,hz1,hz2⟩:=Ztv h
 have HBT:=Lib.hid hbt
 have HB:=Lib.hid (Zkf hbt)
 have HL:=Lib.hid (Zp3 HB.out)
 have HIN:=Lib.hid (show inB (b.size:Int) 8 64=true from Zax (by omega) (by omega))
 clear h hbt
 have hU0:=Za4 w 0 0 0
 have hb0:Below w.heap.size w (w.alloc (.cells #[.int .i64 0,.int .i64 0,.int .i64 0] 46)):=(Below.refl _ _).alloc (Nat.le_refl _) _
 go_enter Tryz.func221,Tryz.ntmps221
 go_wp2_with fail
 refine(Za0 _ _ (by omega)).mono ?_;rintro e w' ⟨rfl,rfl⟩
 rw[HBT.out]
 go_wp2_with fail
 refine(Zbq _ _ _ _).mono ?_;rintro e w' ⟨rfl,rfl⟩
 rw[HIN.out]
 go_wp2_with fail
 go_loopw [4] (fun i wr=>∃S:Nat,2≤S∧S≤9∧i= .int .i64 S∧Hid (shM b (S-2)=none)∧RegAt wr w.heap.size 0 0 0∧Below w.heap.size w wr) (fun i _=>9-(intOf i).toNat)
 case atStart=>exact⟨2,Nat.le_refl _,by omega,rfl,Lib.hid rfl,hU0,hb0⟩
 case round=>
  clear hU0 hb0
  obtain⟨S,hS1,hS2,rfl,HM,hU,hbw⟩:=hrel
  by_cases hlt:S≤8
  ·have hp:=Zaw hlt
   have hd8:decide ((S:Int)≤8)=true:=decide_eq_true (by omega)
   have HTW:=Lib.hid (show ∀w,Calls Tryz.prog 162 #[.int .i64 (S:Int)] w fun e w'=>e= .returned (.int .i64 ((2^S:Nat):Int))∧w=w' from fun w=>by
    have h:=Zdd (S:Int) w (by omega)
    have e:((2^S:Nat):Int)=(2:Int)^S:=by rw[Int.natCast_pow];rfl
    rw[e];exact h)
   obtain⟨P,hP⟩:∃P,2^S=P:=⟨_,rfl⟩
   rw[hP]at hp HTW
   have HP:=Lib.hid hP
   clear hP
   have hlS:=Lib.hid (HL.out S)
   go_wp2_with fail
   go_loopw [5] (fun i ws=>∃t:Nat,1≤t∧t≤P∧i= .int .i64 t∧Hid (shN b S (t-1)=none)∧RegAt ws w.heap.size 0 0 0∧Below w.heap.size w ws) (fun i _=>P-(intOf i).toNat)
   case atStart=>exact⟨1,Nat.le_refl _,hp.1,rfl,Lib.hid rfl,hU,hbw⟩
   case round=>
    clear hU hbw
    obtain⟨t,ht1,ht2,rfl,HN,hU,hbw⟩:=hrel
    by_cases htl:t<P
    ·have hlt0:=hU.lt
     have HST:=Lib.hid (Zahv (b:=b) (s:=S) (t:=t))
     go_wp2_with fail
     refine(HTW.out _).mono ?_;rintro e w' ⟨rfl,rfl⟩
     go_wp2_with fail
     refine(Zaep S t b _ ⟨hS1,hlt⟩ (by omega) (by omega) HB.out).mono ?_;rintro e w2 ⟨rfl,hb2⟩
     have hU2:=(hU.below hb2 hlt0).alloc (.cells #[.int .i64 S,.int .i64 t,.int .i64 (frmX b S:Nat)] 46)
     have hR2:=Za4 w2 S t (frmX b S:Nat)
     have hb3:=(hbw.trans (hb2.mono hbw.size)).alloc (by have:=hb2.size;have:=hbw.size;omega) (.cells #[.int .i64 S,.int .i64 t,.int .i64 (frmX b S:Nat)] 46)
     have c0:=hR2.c0
     have c1:=hR2.c1
     have c2:=hR2.c2
     have hw2:w.heap.size<w2.heap.size:=by have:=hb2.size;omega
     generalize hw3:w2.alloc (.cells #[.int .i64 S,.int .i64 t,.int .i64 (frmX b S:Nat)] 46)=w3 at*
     have HW3:=Lib.hid hw3
     clear hw3 hU hbw hb2
     go_wp2_with fail
     rw[HW3.out]
     go_wp2_with fail
     refine(Zlg S t (frmX b S) b.size _ ⟨hS1,hlt⟩ (by rw[HP.out];exact htl) hlS.out (by omega)).mono ?_;rintro e w4 ⟨rfl,hb4⟩
     have hU4:=hU2.below hb4 hU2.lt
     have hR4:=hR2.below hb4 hR2.lt
     have hb5:=hb3.trans (hb4.mono hb3.size)
     clear hU2 hR2 hb3 hb4 c0 c1 c2
     have hst:=HST.out
     cases hg:shG b S t with
     |false=>
      rw[hg]at hst
      have HN2:=Lib.hid (Z16 ht1 HN.out hg)
      clear hg
      generalize text (runL S t (frmX b S) b.size)=T at*
      go_wp2_with fail
      go_roundw
      case rel=>exact⟨t+1,by omega,by omega,by go_num,HN2,hU4,hb5⟩
      case measure=>simp[intOf];omega
     |true=>
      rw[hg]at hst
      have HZ:=Lib.hid (show shR b=some ((S:Int),(t:Int),(frmX b S:Int))by rw[hr.out,Zagy ⟨hS1,hlt⟩ ht1 HM.out HN.out (by rw[HP.out];exact htl) hg];rfl)
      clear hg
      generalize text (runL S t (frmX b S) b.size)=T at*
      have c0:=hR4.c0
      have c1:=hR4.c1
      have c2:=hR4.c2
      have d0:=hU4.c0
      have d1:=hU4.c1
      have d2:=hU4.c2
      have f0:=hU4.free 0
      have f1:=hU4.free 1
      have f2:=hU4.free 2
      clear hU4 hR4
      go_wp2_with fail
      refine bodyPost_ret (v:=.tuple #[.agg #[.int .i64 S,.int .i64 t,.int .i64 (frmX b S:Nat)],.bool true]) (by simp[results,Tryz.results221,go_sem,d0,d1,d2]) rfl ⟨by rw[HZ.out];rfl,?_⟩
      refine Below.setCell (Below.setCell (Below.setCell hb5 (by simp) _) (by simp) _) (by simp) _
    ·obtain rfl:t=P:=by omega
     have HMN:=Lib.hid (Z27 hS1 HM.out (by rw[HP.out];exact HN.out))
     go_wp2_with fail
     refine(HTW.out _).mono ?_;rintro e w' ⟨rfl,rfl⟩
     go_wp2_with fail
     go_roundw
     case rel=>exact⟨S+1,by omega,by omega,by go_num,HMN,hU,hbw⟩
     case measure=>simp[intOf];omega
  ·obtain rfl:S=9:=by omega
   have HZ:=Lib.hid (show shR b=none by rw[hr.out,show shM b 7=none from HM.out];rfl)
   have d0:=hU.c0
   have d1:=hU.c1
   have d2:=hU.c2
   have f0:=hU.free 0
   have f1:=hU.free 1
   have f2:=hU.free 2
   go_wp2_with fail
   refine bodyPost_ret (v:=.tuple #[.agg #[.int .i64 0,.int .i64 0,.int .i64 0],.bool false]) (by simp[results,Tryz.results221,go_sem,d0,d1,d2]) rfl ⟨by rw[HZ.out];rfl,?_⟩
   refine Below.setCell (Below.setCell (Below.setCell hbw (by simp) _) (by simp) _) (by simp) _
theorem Zzd (b:ByteArray) (w:World) (hs:b.size≤1099511627776) (h:shOk b=false):Calls Tryz.prog 221 #[.string b] w (Zey w (shR b)):=by
 have hr:=Lib.hid (Zahy h)
 have hU0:=Za4 w 0 0 0
 have hb0:Below w.heap.size w (w.alloc (.cells #[.int .i64 0,.int .i64 0,.int .i64 0] 46)):=(Below.refl _ _).alloc (Nat.le_refl _) _
 by_cases hb:Zan b=true
 ·have HBT:=Lib.hid hb
  have HIN:=Lib.hid (show inB (b.size:Int) 8 64=false by
   unfold shOk at h
   rwa [hb,Bool.true_and]at h)
  clear hb h
  have d0:=hU0.c0
  have d1:=hU0.c1
  have d2:=hU0.c2
  have f0:=hU0.free 0
  have f1:=hU0.free 1
  have f2:=hU0.free 2
  go_enter Tryz.func221,Tryz.ntmps221
  go_wp2_with fail
  refine(Za0 _ _ (by omega)).mono ?_;rintro e w' ⟨rfl,rfl⟩
  rw[HBT.out]
  go_wp2_with fail
  refine(Zbq _ _ _ _).mono ?_;rintro e w' ⟨rfl,rfl⟩
  rw[HIN.out]
  go_wp2_with fail
  refine bodyPost_ret (v:=.tuple #[.agg #[.int .i64 0,.int .i64 0,.int .i64 0],.bool false]) (by simp[results,Tryz.results221,go_sem,d0,d1,d2]) rfl ⟨by rw[hr.out];rfl,?_⟩
  exact hb0
 ·have HBT:=Lib.hid (show Zan b=false by simpa using hb)
  clear hb h
  have d0:=hU0.c0
  have d1:=hU0.c1
  have d2:=hU0.c2
  have f0:=hU0.free 0
  have f1:=hU0.free 1
  have f2:=hU0.free 2
  go_enter Tryz.func221,Tryz.ntmps221
  go_wp2_with fail
  refine(Za0 _ _ (by omega)).mono ?_;rintro e w' ⟨rfl,rfl⟩
  rw[HBT.out]
  go_wp2_with fail
  refine bodyPost_ret (v:=.tuple #[.agg #[.int .i64 0,.int .i64 0,.int .i64 0],.bool false]) (by simp[results,Tryz.results221,go_sem,d0,d1,d2]) rfl ⟨by rw[hr.out];rfl,?_⟩
  exact hb0
theorem Zlf (b:ByteArray) (w:World) (hs:b.size≤1099511627776):Calls Tryz.prog 221 #[.string b] w (Zey w (shR b)):=by
 by_cases h:shOk b=true
 ·exact Zvm b w h
 ·exact Zzd b w hs (by simpa using h)
end Go.Proofs.YtcjihfongfefoaaGreatDoor
