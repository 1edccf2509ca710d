/- Kd Ke Km Kt Ko -/
import Derived.Test.YtcjihfongfefoaaGreatDoorJ13
import Derived.Test.YtcjihfongfefoaaGreatDoorShlf
namespace Go.Proofs.YtcjihfongfefoaaGreatDoor
open Go.RowKit
set_option maxHeartbeats 25600000
set_option maxRecDepth 100000
theorem Zv2 {p:ByteArray} (h1:p.size≤100) (h2:Zan p=true):payB p=true:=by unfold payB;rw[h2,decide_eq_true h1];rfl
theorem Zt8 {p:ByteArray} (h1:¬p.size≤100):payB p=false:=by unfold payB;rw[decide_eq_false h1];rfl
theorem Zaf1 {p:ByteArray} (h1:Zan p=false):payB p=false:=by unfold payB;rw[h1,Bool.and_false]
theorem Zn1 {p:ByteArray} (h:payB p=true):p.size≤100∧Zan p=true:=by unfold payB at h;rw[Bool.and_eq_true,decide_eq_true_eq]at h;exact h
def Zhy (p:ByteArray):Option ByteArray:=if payB p=true then some (Zas p)else none
theorem Zda {p:ByteArray} (h:payB p=true):Zhy p=some (Zas p):=by unfold Zhy;rw[if_pos h]
theorem Zjv {p:ByteArray} (h:payB p=false):Zhy p=none:=by unfold Zhy;rw[if_neg (by rw[h];decide)]
theorem Z40 (p:ByteArray):Zas p=⟨#[49,49,49,48,49,48,48,48]⟩++Zet p++binT (crcN (Zet p)) 8:=rfl
theorem Z2w (p:ByteArray):binT p.size 7++p=Zet p:=rfl
theorem Zk3 (p:ByteArray) (w:World):Calls Tryz.prog 100 #[.string p] w fun e w'=>e= .returned (.bool (payB p))∧w=w':=by
 by_cases h1:p.size≤100
 ·have hr:=Lib.hid (show payB p=Zan p by unfold payB;rw[decide_eq_true h1];rfl)
  have h1':(p.size:Int)≤100:=by omega
  go_enter Tryz.func100,Tryz.ntmps100
  go_wp2_with fail
  refine(Za2 _ _).mono ?_;rintro e w' ⟨rfl,rfl⟩
  go_wp2_with fail
  go_ret
  exact⟨Zav hr.out.symm,rfl⟩
 ·have hr:=Lib.hid (Zt8 h1)
  have h1':¬(p.size:Int)≤100:=by omega
  go_enter Tryz.func100,Tryz.ntmps100
  go_wp2_with fail
  go_ret
  exact⟨Zav hr.out.symm,rfl⟩
theorem Zq1 (p:ByteArray) (w:World) (hs:p.size≤1099511627776):Calls Tryz.prog 170 #[.string p] w fun e w'=>e= .returned (.bool (payB p))∧w=w':=by
 by_cases h2:Zan p=true
 ·by_cases h1:p.size≤100
  ·have hr:=Lib.hid (Zv2 h1 h2)
   have h1':(p.size:Int)≤100:=by omega
   go_enter Tryz.func170,Tryz.ntmps170
   go_wp2_with fail
   refine(Za0 _ _ hs).mono ?_;rintro e w' ⟨rfl,rfl⟩
   rw[h2]
   go_wp2_with fail
   go_ret
   exact⟨Zav hr.out.symm,rfl⟩
  ·have hr:=Lib.hid (Zt8 h1)
   have h1':¬(p.size:Int)≤100:=by omega
   go_enter Tryz.func170,Tryz.ntmps170
   go_wp2_with fail
   refine(Za0 _ _ hs).mono ?_;rintro e w' ⟨rfl,rfl⟩
   rw[h2]
   go_wp2_with fail
   go_ret
   exact⟨Zav (by rw[hr.out];simp;omega),rfl⟩
 ·have h2':Zan p=false:=by simpa using h2
  have hr:=Lib.hid (Zaf1 h2')
  clear h2
  go_enter Tryz.func170,Tryz.ntmps170
  go_wp2_with fail
  refine(Za0 _ _ hs).mono ?_;rintro e w' ⟨rfl,rfl⟩
  rw[h2']
  go_wp2_with fail
  go_ret
  exact⟨Zav hr.out.symm,rfl⟩
theorem Zfr (p:ByteArray) (w:World):Calls Tryz.prog 35 #[.string p] w (Zdx w (Zhy p)):=by
 by_cases h:payB p=true
 ·have hr:=Lib.hid (Zda h)
  have HB:=Znz h
  have HF:=Lib.hid (Z40 p)
  have HI:=Lib.hid (Z2w p)
  have hp:=(Zn1 h).1
  have hz:=Zkx p
  have hb7:=Zdn p.size 7
  have hb8:=Zdn (crcN (Zet p)) 8
  have hm:(⟨#[49,49,49,48,49,48,48,48]⟩:ByteArray).size=8:=rfl
  have hmi:((⟨#[49,49,49,48,49,48,48,48]⟩:ByteArray)++Zet p).size=15+p.size:=by rw[Zap,hm,hz];omega
  go_enter Tryz.func35,Tryz.ntmps35
  go_wp2_with fail
  refine(Zk3 _ _).mono ?_;rintro e w' ⟨rfl,rfl⟩
  rw[h]
  clear h
  go_wp2_with fail
  refine(Zme p.size 7 _ (by omega) (by omega)).mono ?_;rintro e w1 ⟨rfl,hb1⟩
  go_wp2_with fail
  rw[HI.out]
  refine(Zakg (Zet p) _ HB).mono ?_;rintro e w2 ⟨rfl,hb2⟩
  go_wp2_with fail
  go_ret2
  exact Zbb (by rw[hr.out,HF.out]) (hb1.trans (hb2.mono hb1.size))
 ·have h':payB p=false:=by simpa using h
  have hr:=Lib.hid (Zjv h')
  clear h
  go_enter Tryz.func35,Tryz.ntmps35
  go_wp2_with fail
  refine(Zk3 _ _).mono ?_;rintro e w' ⟨rfl,rfl⟩
  rw[h']
  go_wp2_with fail
  go_ret2
  exact Zag hr.out (Below.refl _ _)
theorem Zrh (p:ByteArray) (w:World) (h:payB p=true):Calls Tryz.prog 171 #[.string p] w fun e w'=>e= .returned (.string (Zas p))∧Below w.heap.size w w':=by
 have HB:=Znz h
 have HF:=Lib.hid (Z40 p)
 have HI:=Lib.hid (Z2w p)
 have hp:=(Zn1 h).1
 have hz:=Zkx p
 have hb7:=Zdn p.size 7
 have hb8:=Zdn (crcN (Zet p)) 8
 have hm:(⟨#[49,49,49,48,49,48,48,48]⟩:ByteArray).size=8:=rfl
 have hmi:((⟨#[49,49,49,48,49,48,48,48]⟩:ByteArray)++Zet p).size=15+p.size:=by rw[Zap,hm,hz];omega
 clear h
 go_enter Tryz.func171,Tryz.ntmps171
 go_wp2_with fail
 refine(Zts p.size 7 _ (by omega) (by omega)).mono ?_;rintro e w1 ⟨rfl,hb1⟩
 go_wp2_with fail
 rw[HI.out]
 refine(Zajg (Zet p) _ HB).mono ?_;rintro e w2 ⟨rfl,hb2⟩
 go_wp2_with fail
 go_ret
 exact⟨by rw[HF.out];rfl,hb1.trans (hb2.mono hb1.size)⟩
theorem Zh1 (p:ByteArray) (w:World) (hs:p.size≤1099511627776):Calls Tryz.prog 95 #[.string p] w (Zdx w (Zhy p)):=by
 by_cases h:payB p=true
 ·have hr:=Lib.hid (Zda h)
  go_enter Tryz.func95,Tryz.ntmps95
  go_wp2_with fail
  refine(Zq1 _ _ hs).mono ?_;rintro e w' ⟨rfl,rfl⟩
  rw[h]
  go_wp2_with fail
  refine(Zrh p _ h).mono ?_;rintro e w1 ⟨rfl,hb1⟩
  go_wp2_with fail
  go_ret2
  exact Zbb hr.out hb1
 ·have h':payB p=false:=by simpa using h
  have hr:=Lib.hid (Zjv h')
  clear h
  go_enter Tryz.func95,Tryz.ntmps95
  go_wp2_with fail
  refine(Zq1 _ _ hs).mono ?_;rintro e w' ⟨rfl,rfl⟩
  rw[h']
  go_wp2_with fail
  go_ret2
  exact Zag hr.out (Below.refl _ _)
def Z5q (w:World) (r:Option (ByteArray×Nat)) (e:Ending) (w':World):Prop:=
 e= .returned (.tuple #[.string ((r.map Prod.fst).getD ByteArray.empty),.int .i64 (((r.map Prod.snd).getD 0:Nat):Int),.bool r.isSome])∧Below w.heap.size w w'
theorem Zbr {w w':World} {r:Option (ByteArray×Nat)} (hr:r=none) (hb:Below w.heap.size w w'):Z5q w r (.returned (.tuple #[.string ⟨#[]⟩,.int .i64 0,.bool false])) w':=by
 subst hr;exact⟨rfl,hb⟩
theorem Zkw {w w':World} {r:Option (ByteArray×Nat)} {p:ByteArray} {n:Nat} {x:Int} (hr:r=some (p,n)) (hx:x=n) (hb:Below w.heap.size w w'):Z5q w r (.returned (.tuple #[.string p,.int .i64 x,.bool true])) w':=by
 subst hr hx;exact⟨rfl,hb⟩
theorem Zjj {s:ByteArray} {a:Int} (h:Zan s=false):Zbn s a=none:=Zug (by rw[h];simp)
theorem Zzh {s:ByteArray} {a:Int} (h:a<0):Zbn s a=none:=Zug (by omega)
theorem Zgz {s:ByteArray} {a:Nat} (h:s.size<a+23):Zbn s a=none:=Zug (by simp;omega)
theorem Znd {s:ByteArray} {a N:Nat} (hN:numK (s.extract (a+8) (a+15)) 7=N) (h:100<N∨s.size<a+23+N):Zbn s a=none:=by
 by_cases hb:Zan s=true
 ·by_cases h2:a+23≤s.size
  ·rw[Zjr hb h2,at_1 hN (by omega)]
  ·exact Zgz (by omega)
 ·exact Zjj (by simpa using hb)
theorem Z5z {s:ByteArray} {a:Nat} (h:Lib.hasPrefix (s.extract a s.size).data.toList markT.data.toList=false):Zbn s a=none:=by
 by_cases hb:Zan s=true
 ·by_cases h2:a+23≤s.size
  ·rw[Zjr hb h2,Zaj9 h]
  ·exact Zgz (by omega)
 ·exact Zjj (by simpa using hb)
theorem Z3h {s:ByteArray} {a N:Nat} (hN:numK (s.extract (a+8) (a+15)) 7=N) (h:¬Zas (s.extract (a+15) (a+15+N))=s.extract a (a+23+N)):Zbn s a=none:=by
 by_cases hb:Zan s=true
 ·by_cases h2:a+23≤s.size
  ·rw[Zjr hb h2,at_2 hN h]
  ·exact Zgz (by omega)
 ·exact Zjj (by simpa using hb)
theorem Z3f {s:ByteArray} {a N:Nat} (hb:Zan s=true) (hN:numK (s.extract (a+8) (a+15)) 7=N) (h1:N≤100) (h2:a+23+N≤s.size) (h:Zas (s.extract (a+15) (a+15+N))=s.extract a (a+23+N)):
 Zbn s a=some (s.extract (a+15) (a+15+N),a+23+N):=by rw[Zjr hb (by omega),at_3 hN h1 h2 h]
theorem pre_le {s:ByteArray} {a:Nat} (ha:a≤s.size) (h:Lib.hasPrefix (s.extract a s.size).data.toList markT.data.toList=true):a+8≤s.size:=by
 rw[Z92,Zr7]at h
 have:=congrArg List.length h
 rw[show markT.data.toList.length=8 from rfl,List.length_take,List.length_drop,Zdz]at this
 omega
theorem Zjg (s:ByteArray) (a:Int) (w:World):Calls Tryz.prog 269 #[.string s,.int .i64 a] w (Z5q w (Zbn s a)):=by
 by_cases h1:Zan s=true
 ·by_cases h2:a<0
  ·have hr:=Lib.hid (Zzh (s:=s) h2)
   go_enter Tryz.func269,Tryz.ntmps269
   go_wp2_with fail
   refine(Za2 _ _).mono ?_;rintro e w' ⟨rfl,rfl⟩
   rw[h1]
   go_wp2_with fail
   go_ret3
   exact Zbr hr.out (Below.refl _ _)
  ·obtain⟨A,rfl⟩:=Int.eq_ofNat_of_zero_le (show 0≤a by omega)
   by_cases h3:(s.size:Int)<(A:Int)
   ·have hr:=Lib.hid (Zgz (s:=s) (a:=A) (by omega))
    go_enter Tryz.func269,Tryz.ntmps269
    go_wp2_with fail
    refine(Za2 _ _).mono ?_;rintro e w' ⟨rfl,rfl⟩
    rw[h1]
    go_wp2_with fail
    go_ret3
    exact Zbr hr.out (Below.refl _ _)
   ·have hAs:A≤s.size:=by omega
    have h600:=Zcm h1
    by_cases h4:Lib.hasPrefix (s.extract A s.size).data.toList markT.data.toList=true
    ·have HC:=Lib.hid (Zaf0 h4)
     have hA8:=pre_le hAs h4
     have hRz:(s.extract (A+8) s.size).size=s.size-(A+8):=Zbc (Nat.le_refl _)
     have H1:=Lib.hid h1
     have HRB:=Lib.hid (Zeb (A+8) s.size (Zb5 h1))
     by_cases h5:s.size<A+15
     ·have hr:=Lib.hid (Zgz (s:=s) (a:=A) (by omega))
      go_enter Tryz.func269,Tryz.ntmps269
      go_wp2_with fail
      refine(Za2 _ _).mono ?_;rintro e w' ⟨rfl,rfl⟩
      rw[h1]
      go_wp2_with fail
      refine(Tryz.strings_CutPrefix (s.extract A s.size) markT _).mono ?_;rintro e w' ⟨rfl,rfl⟩
      rw[HC.out,h4]
      generalize s.extract (A+8) s.size=R at*
      have hR7:(R.size:Int)<7:=by omega
      go_wp2_with fail
      go_ret3
      exact Zbr hr.out (Below.refl _ _)
     ·have HNR:=Lib.hid (Zadw (s:=s) (a:=A) (by omega))
      have HPY:=Lib.hid (fun(N:Nat) (h:A+15+N≤s.size)=>Zaeo (s:=s) (a:=A) (N:=N) h)
      go_enter Tryz.func269,Tryz.ntmps269
      go_wp2_with fail
      refine(Za2 _ _).mono ?_;rintro e w' ⟨rfl,rfl⟩
      rw[h1]
      go_wp2_with fail
      refine(Tryz.strings_CutPrefix (s.extract A s.size) markT _).mono ?_;rintro e w' ⟨rfl,rfl⟩
      rw[HC.out,h4]
      obtain⟨R,hRd⟩:∃R,R=s.extract (A+8) s.size:=⟨_,rfl⟩
      rw[←hRd]at HRB hRz HNR HPY
      rw[←hRd]
      have hR7:¬(R.size:Int)<7:=by omega
      have hR77:7≤R.size:=by omega
      clear hRd h1 h4 HC
      go_wp2_with fail
      go_loop [9,40] (fun n i=>∃k:Nat,k≤7∧i= .int .i64 k∧n= .int .i64 (numK R k)) (fun _ i=>7-(intOf i).toNat)
      case atStart=>exact⟨0,Nat.zero_le _,rfl,rfl⟩
      case round=>
       obtain⟨k,hk,rfl,rfl⟩:=hrel
       have hpw:=Zu9 HRB.out k (by omega)
       have hp7:numK R k<128:=Nat.lt_of_lt_of_le hpw (Nat.pow_le_pow_right (by omega) hk)
       clear hpw
       by_cases hlt:k<7
       ·have hkR:k<R.size:=by omega
        have HS:=Lib.hid (Zrm hkR)
        have hbit:=Zgs HRB.out hkR
        have hsub:=Zaif hbit
        have hdl:=Z91 hbit
        generalize numK R k=n at*
        obtain⟨d,hd⟩:∃d,d=dig R[k]:=⟨_,rfl⟩
        rw[←hd]at HS hsub hdl
        clear hd
        go_wp2_with fail
        go_round
        case rel=>exact⟨k+1,by omega,by go_num,by rw[HS.out];go_num⟩
        case measure=>simp[intOf];omega
       ·obtain rfl:k=7:=by omega
        have HN:=Lib.hid HNR.out.symm
        generalize numK R 7=N at*
        by_cases h6:(R.size:Int)-7<(N:Int)
        ·have hr:=Lib.hid (Znd HN.out (.inr (by omega)))
         go_wp2_with fail
         go_ret3
         exact Zbr hr.out (Below.refl _ _)
        ·have HP:=Lib.hid (HPY.out N (by omega))
         have hPz:(s.extract (A+15) (A+15+N)).size=N:=by rw[Zbc (by omega)];omega
         have HPB:=Lib.hid (Zeb (A+15) (A+15+N) (Zb5 H1.out))
         have HPF:=Lib.hid (Zaba (s:=s) (a:=A) hPz)
         have HNE:=Lib.hid (fun h=>Z3h HN.out h)
         have HOK:=Lib.hid (fun h h2 h3=>Z3f H1.out HN.out h h2 h3)
         have HNU:=Lib.hid (fun h=>Znd (s:=s) (a:=A) HN.out h)
         go_wp2_with fail
         rw[HP.out]
         generalize s.extract (A+15) (A+15+N)=Q at*
         refine(Zfr Q _).mono ?_;rintro e w2 ⟨rfl,hb2⟩
         by_cases h7:N≤100
         ·have hpay:payB Q=true:=Zv2 (by omega) (Zd9 (by omega) HPB.out)
          have HFR:=Lib.hid (Zda hpay)
          have hfz:=Zcp Q
          rw[HFR.out]
          clear hpay
          simp only[Option.getD_some,Option.isSome_some]
          by_cases h8:Lib.hasPrefix (s.extract A s.size).data.toList (Zas Q).data.toList=true
          ·have h9:=HPF.out.1 h8
           have hr:=Lib.hid (HOK.out h7 (by omega) h9.2)
           clear h9
           go_wp2_with fail
           refine(Tryz.strings_HasPrefix (s.extract A s.size) (Zas Q) _).mono ?_;rintro e w' ⟨rfl,rfl⟩
           rw[h8]
           go_wp2_with fail
           go_ret3
           exact Zkw hr.out (by omega) hb2
          ·have h8':Lib.hasPrefix (s.extract A s.size).data.toList (Zas Q).data.toList=false:=by simpa using h8
           have hr:Hid (Zbn s A=none):=by
            by_cases h9:s.size<A+23+N
            ·exact Lib.hid (HNU.out (.inr h9))
            ·exact Lib.hid (HNE.out fun h10=>h8 (HPF.out.2 ⟨.inl (by omega),h10⟩))
           clear h8
           go_wp2_with fail
           refine(Tryz.strings_HasPrefix (s.extract A s.size) (Zas Q) _).mono ?_;rintro e w' ⟨rfl,rfl⟩
           rw[h8']
           go_wp2_with fail
           go_ret3
           exact Zbr hr.out hb2
         ·have HFR:=Lib.hid (Zjv (Zt8 (show ¬Q.size≤100 by omega)))
          have hr:=Lib.hid (HNU.out (.inl (by omega)))
          rw[HFR.out]
          simp only[Option.getD_none,Option.isSome_none]
          go_wp2_with fail
          go_ret3
          exact Zbr hr.out hb2
    ·have h4':Lib.hasPrefix (s.extract A s.size).data.toList markT.data.toList=false:=by simpa using h4
     have hr:=Lib.hid (Z5z h4')
     clear h4
     go_enter Tryz.func269,Tryz.ntmps269
     go_wp2_with fail
     refine(Za2 _ _).mono ?_;rintro e w' ⟨rfl,rfl⟩
     rw[h1]
     go_wp2_with fail
     refine(Tryz.strings_CutPrefix (s.extract A s.size) markT _).mono ?_;rintro e w' ⟨rfl,rfl⟩
     rw[h4']
     go_wp2_with fail
     go_ret3
     exact Zbr hr.out (Below.refl _ _)
 ·have h1':Zan s=false:=by simpa using h1
  have hr:=Lib.hid (Zjj (a:=a) h1')
  clear h1
  go_enter Tryz.func269,Tryz.ntmps269
  go_wp2_with fail
  refine(Za2 _ _).mono ?_;rintro e w' ⟨rfl,rfl⟩
  rw[h1']
  go_wp2_with fail
  go_ret3
  exact Zbr hr.out (Below.refl _ _)
theorem Z53 (s:ByteArray) (w:World) (h:allS bitC s=true) (hz:s.size≤7):Calls Tryz.prog 310 #[.string s] w fun e w'=>e= .returned (.int .i64 (numK s s.size:Nat))∧w=w':=by
 have HA:=Lib.hid h
 clear h
 go_enter Tryz.func310,Tryz.ntmps310
 go_wp2_with fail
 go_loop [3,4] (fun n i=>∃k:Nat,k≤s.size∧i= .int .i64 k∧n= .int .i64 (numK s k)) (fun _ i=>s.size-(intOf i).toNat)
 case atStart=>exact⟨0,Nat.zero_le _,rfl,rfl⟩
 case round=>
  obtain⟨k,hk,rfl,rfl⟩:=hrel
  have hpw:=Zu9 HA.out k hk
  have hp7:numK s k<128:=Nat.lt_of_lt_of_le hpw (Nat.pow_le_pow_right (by omega) (by omega:k≤7))
  clear hpw
  by_cases hlt:k<s.size
  ·have HS:=Lib.hid (Zrm hlt)
   have hbit:=Zgs HA.out hlt
   have HD:=Lib.hid (show 2*numK s k+dig s[k]=2*numK s k+s[k].toNat-48 by unfold dig;omega)
   rw[HD.out]at HS
   generalize numK s k=n at*
   obtain⟨c,hc⟩:∃c,c=s[k].toNat:=⟨_,rfl⟩
   rw[←hc]at hbit HS
   have hcI:(s[k].toNat:Int)=(c:Int):=by rw[hc]
   clear hc
   go_wp2_with fail
   go_round
   case rel=>exact⟨k+1,by omega,by go_num,by rw[HS.out];go_num⟩
   case measure=>simp[intOf];omega
  ·obtain rfl:k=s.size:=by omega
   go_wp2_with fail
   go_ret
   exact⟨rfl,rfl⟩
theorem Zik (s:ByteArray) (a:Int) (w:World) (hsz:s.size≤1099511627776):Calls Tryz.prog 282 #[.string s,.int .i64 a] w (Z5q w (Zbn s a)):=by
 by_cases h1:Zan s=true
 ·by_cases h2:a<0
  ·have hr:=Lib.hid (Zzh (s:=s) h2)
   go_enter Tryz.func282,Tryz.ntmps282
   go_wp2_with fail
   refine(Za0 _ _ hsz).mono ?_;rintro e w' ⟨rfl,rfl⟩
   rw[h1]
   go_wp2_with fail
   go_ret3
   exact Zbr hr.out (Below.refl _ _)
  ·obtain⟨A,rfl⟩:=Int.eq_ofNat_of_zero_le (show 0≤a by omega)
   by_cases h3:(s.size:Int)<(A:Int)
   ·have hr:=Lib.hid (Zgz (s:=s) (a:=A) (by omega))
    go_enter Tryz.func282,Tryz.ntmps282
    go_wp2_with fail
    refine(Za0 _ _ hsz).mono ?_;rintro e w' ⟨rfl,rfl⟩
    rw[h1]
    go_wp2_with fail
    go_ret3
    exact Zbr hr.out (Below.refl _ _)
   ·have hAs:A≤s.size:=by omega
    have h600:=Zcm h1
    by_cases h4:(s.size:Int)-(A:Int)<23
    ·have hr:=Lib.hid (Zgz (s:=s) (a:=A) (by omega))
     go_enter Tryz.func282,Tryz.ntmps282
     go_wp2_with fail
     refine(Za0 _ _ hsz).mono ?_;rintro e w' ⟨rfl,rfl⟩
     rw[h1]
     go_wp2_with fail
     go_ret3
     exact Zbr hr.out (Below.refl _ _)
    ·have H1:=Lib.hid h1
     have hA23:A+23≤s.size:=by omega
     have HXB:=Lib.hid (Zeb (A+8) (A+15) (Zb5 h1))
     have hXz:(s.extract (A+8) (A+15)).size=7:=by rw[Zbc (by omega)];omega
     go_enter Tryz.func282,Tryz.ntmps282
     go_wp2_with fail
     refine(Za0 _ _ hsz).mono ?_;rintro e w' ⟨rfl,rfl⟩
     rw[h1]
     clear h1
     go_wp2_with fail
     refine(Z53 (s.extract (A+8) (A+15)) _ HXB.out (by omega)).mono ?_;rintro e w' ⟨rfl,rfl⟩
     rw[hXz]
     obtain⟨N,hN⟩:∃N,numK (s.extract (A+8) (A+15)) 7=N:=⟨_,rfl⟩
     rw[hN]
     have HN:=Lib.hid hN
     have hN7:N<128:=by rw[←hN];exact Zu9 HXB.out 7 (by omega)
     clear hN hXz
     by_cases h5:(100:Int)<(N:Int)
     ·have hr:=Lib.hid (Znd (s:=s) (a:=A) HN.out (.inl (by omega)))
      go_wp2_with fail
      go_ret3
      exact Zbr hr.out (Below.refl _ _)
     ·by_cases h6:(s.size:Int)-(A:Int)<23+(N:Int)
      ·have hr:=Lib.hid (Znd (s:=s) (a:=A) HN.out (.inr (by omega)))
       go_wp2_with fail
       go_ret3
       exact Zbr hr.out (Below.refl _ _)
      ·have hPz:(s.extract (A+15) (A+15+N)).size=N:=by rw[Zbc (by omega)];omega
       have HPB:=Lib.hid (Zeb (A+15) (A+15+N) (Zb5 H1.out))
       have HNE:=Lib.hid (fun h=>Z3h (s:=s) (a:=A) HN.out h)
       have HOK:=Lib.hid (fun h h2 h3=>Z3f (s:=s) (a:=A) H1.out HN.out h h2 h3)
       have hNs:A+23+N≤s.size:=by omega
       obtain⟨Q,hQ⟩:∃Q,Q=s.extract (A+15) (A+15+N):=⟨_,rfl⟩
       have hpay:payB Q=true:=Zv2 (by rw[hQ];omega) (Zd9 (by rw[hQ];omega) (by rw[hQ];exact HPB.out))
       obtain⟨F,hF⟩:∃F,F=Zas Q:=⟨_,rfl⟩
       obtain⟨X,hX⟩:∃X,X=s.extract A (A+23+N):=⟨_,rfl⟩
       rw[←hQ,←hF,←hX]at HNE HOK
       have HQ:=Lib.hid (hQ)
       have hFX:∀b:Bool,(F.toList==X.toList)=b→(F.toList != X.toList)=!b:=by intro b hb;rw[bne,hb]
       by_cases he:F=X
       ·have hb1:(F.toList==X.toList)=true:=by rw[he];simp
        have hbX:=hFX _ hb1
        have hr:=Lib.hid (HOK.out (by omega) hNs he)
        obtain⟨T,hT⟩:∃T,T=A+23+N:=⟨_,rfl⟩
        rw[hF,hX,←hT]at hb1 hbX
        have wA:IntKind.i64.wrap ((A:Int)+23)=(A:Int)+23:=IntWalk.i64_in _ (by omega)
        have wB:IntKind.i64.wrap ((A:Int)+23+(N:Int))=(T:Int):=by rw[IntWalk.i64_in _ (by omega)];omega
        have hAT:A≤T:=by omega
        have hTs:T≤s.size:=by omega
        clear he hFX hF hX HOK HNE HPB HXB hT
        go_wp2_with fail
        rw[←HQ.out]
        clear hQ
        generalize s.extract (A+8) (A+15)=Y at*
        go_region_with (first|(go_at_call 171;refine(Zrh Q _ hpay).mono ?_;rintro e w2 ⟨rfl,hb2⟩))
        all_goals
         have hb3:=(Below.drew (Below.refl w.heap.size w)).trans hb2
         clear wA wB hb2
         go_wp2_with fail
         go_ret3
         exact Zkw hr.out (by omega) hb3
       ·have hb1:(F.toList==X.toList)=false:=by
         rw[beq_eq_false_iff_ne]
         intro e
         rw[Lib.toList_data,Lib.toList_data]at e
         exact he (Zsj e)
        have hbX:=hFX _ hb1
        have hr:=Lib.hid (HNE.out he)
        obtain⟨T,hT⟩:∃T,T=A+23+N:=⟨_,rfl⟩
        rw[hF,hX,←hT]at hb1 hbX
        have wA:IntKind.i64.wrap ((A:Int)+23)=(A:Int)+23:=IntWalk.i64_in _ (by omega)
        have wB:IntKind.i64.wrap ((A:Int)+23+(N:Int))=(T:Int):=by rw[IntWalk.i64_in _ (by omega)];omega
        have hAT:A≤T:=by omega
        have hTs:T≤s.size:=by omega
        clear he hFX hF hX HOK HNE HPB HXB hT
        go_wp2_with fail
        rw[←HQ.out]
        clear hQ
        generalize s.extract (A+8) (A+15)=Y at*
        go_region_with (first|(go_at_call 171;refine(Zrh Q _ hpay).mono ?_;rintro e w2 ⟨rfl,hb2⟩))
        all_goals
         have hb3:=(Below.drew (Below.refl w.heap.size w)).trans hb2
         clear wA wB hb2
         go_wp2_with fail
         go_ret3
         exact Zbr hr.out hb3
 ·have h1':Zan s=false:=by simpa using h1
  have hr:=Lib.hid (Zjj (a:=a) h1')
  clear h1
  go_enter Tryz.func282,Tryz.ntmps282
  go_wp2_with fail
  refine(Za0 _ _ hsz).mono ?_;rintro e w' ⟨rfl,rfl⟩
  rw[h1']
  go_wp2_with fail
  go_ret3
  exact Zbr hr.out (Below.refl _ _)
theorem Zfp {q:Nat} {x:Int} (h:x=(q:Int)) (hq:q≤100000):IntKind.i64.wrap x=(q:Int):=by rw[h];exact IntWalk.i64_in _ (by omega)
theorem Zmv {q:Nat} {x:Int} (h:x=(q:Int)) (hq:q≤100000):wrap64 x=(q:Int):=by rw[h];exact IntWalk.wrap64_in _ (by omega)
def deiI (R C k:Nat):Nat:=k%R*C+k/R
def deiF (s:ByteArray) (R C:Nat):Nat→List Int
 |0=>List.replicate s.size 0
 |k+1=>(deiF s R C k).set (deiI R C k) ((Zab s).getD k 0)
theorem Zkv (s:ByteArray) (R C:Nat):∀k,(deiF s R C k).length=s.size
 |0=>by rw[deiF,List.length_replicate]
 |k+1=>by rw[deiF,List.length_set];exact Zkv s R C k
theorem Zn7 {R C k:Nat} (hR:0<R) (h:k<C*R):deiI R C k<C*R:=by
 unfold deiI
 have h1:k/R<C:=Nat.div_lt_of_lt_mul (by rw[Nat.mul_comm];exact h)
 have h2:k%R+1≤R:=Nat.mod_lt _ hR
 have h3:=Nat.mul_le_mul_right C h2
 rw[Nat.add_mul,Nat.one_mul,Nat.mul_comm R C]at h3
 omega
def deiT (s:ByteArray) (R:Nat):ByteArray:=text (deiF s R (s.size/R) s.size)
def deiR (s:ByteArray) (n:Int):Option ByteArray:=if(Zan s&&inB n 1 40&&(s.size%n.toNat==0))=true then some (deiT s n.toNat)else none
theorem Zadd {s:ByteArray} {n:Int} (h:Zan s=false):deiR s n=none:=by unfold deiR;rw[h];rfl
theorem Z4e {s:ByteArray} {n:Int} (h:inB n 1 40=false):deiR s n=none:=by unfold deiR;rw[h,Bool.and_false];rfl
theorem Zad4 {s:ByteArray} {N:Nat} (h:¬s.size%N=0):deiR s N=none:=by
 unfold deiR;rw[show(s.size%(N:Int).toNat==0)=false by rw[beq_eq_false_iff_ne];exact h,Bool.and_false];rfl
theorem Zv6 {s:ByteArray} {N:Nat} (h1:Zan s=true) (h2:inB N 1 40=true) (h3:s.size%N=0):deiR s N=some (deiT s N):=by
 unfold deiR;rw[h1,h2,show(s.size%(N:Int).toNat==0)=true by rw[beq_iff_eq];exact h3];rfl
theorem Zoh {m:Int} (h:inB m 1 40=true):∃M:Nat,m=(M:Int)∧1≤M∧M≤40:=by
 unfold inB at h;simp only[Bool.and_eq_true,decide_eq_true_eq]at h
 exact⟨m.toNat,by omega,by omega,by omega⟩
theorem Zgt {s:ByteArray} {i:Nat} (h:i<s.size):(Zab s).getD i 0=(s[i].toNat:Int):=by
 rw[List.getD_eq_getElem?_getD,List.getElem?_eq_getElem (by rw[Zac];exact h),Option.getD_some,Zcj s h]
theorem Zeo (n:Int) (w:World):Calls Tryz.prog 89 #[.int .i64 n] w fun e w'=>e= .returned (.bool (inB n 1 40))∧w=w':=by
 by_cases h1:1≤n<;>by_cases h2:n≤40<;>(
 go_enter Tryz.func89,Tryz.ntmps89
 go_wp2
 go_ret
 refine⟨Zav ?_,rfl⟩
 simp[inB,h1,h2])
def Zsi (s:ByteArray) (n:Int):Bool:=Zan s&&inB n 1 40&&(s.size%n.toNat==0)
theorem Z30 (s:ByteArray) (n:Int) (w:World) (hs:s.size≤1099511627776):Calls Tryz.prog 311 #[.string s,.int .i64 n] w fun e w'=>e= .returned (.bool (Zsi s n))∧w=w':=by
 by_cases h1:Zan s=true
 ·by_cases h2:inB n 1 40=true
  ·obtain⟨N,rfl,hN1,hN4⟩:=Zoh h2
   obtain⟨m,hm⟩:∃m,m=s.size%N:=⟨_,rfl⟩
   have e1:(s.size:Int).tmod (N:Int)=(m:Int):=by rw[hm];rfl
   have e2:(s.size:Int)%(N:Int)=(m:Int):=by rw[hm];rfl
   have hne:((N:Int)==0)=false:=by rw[beq_eq_false_iff_ne];omega
   have hr:=Lib.hid (show Zsi s N=((m:Int)==0)by
    unfold Zsi
    rw[h1,h2,show(N:Int).toNat=N from rfl,←hm,Bool.true_and,Bool.true_and,Bool.eq_iff_iff,beq_iff_eq,beq_iff_eq];omega)
   clear hm
   go_enter Tryz.func311,Tryz.ntmps311
   go_wp2_with fail
   refine(Za0 _ _ hs).mono ?_;rintro e w' ⟨rfl,rfl⟩
   rw[h1]
   go_wp2_with fail
   refine(Zbq _ _ _ _).mono ?_;rintro e w' ⟨rfl,rfl⟩
   rw[h2]
   go_wp2_with fail
   go_ret
   exact⟨Zav hr.out.symm,rfl⟩
  ·have h2':inB n 1 40=false:=by simpa using h2
   have hr:=Lib.hid (show Zsi s n=false by unfold Zsi;rw[h2',Bool.and_false];rfl)
   clear h2
   go_enter Tryz.func311,Tryz.ntmps311
   go_wp2_with fail
   refine(Za0 _ _ hs).mono ?_;rintro e w' ⟨rfl,rfl⟩
   rw[h1]
   go_wp2_with fail
   refine(Zbq _ _ _ _).mono ?_;rintro e w' ⟨rfl,rfl⟩
   rw[h2']
   go_wp2_with fail
   go_ret
   exact⟨Zav hr.out.symm,rfl⟩
 ·have h1':Zan s=false:=by simpa using h1
  have hr:=Lib.hid (show Zsi s n=false by unfold Zsi;rw[h1'];rfl)
  clear h1
  go_enter Tryz.func311,Tryz.ntmps311
  go_wp2_with fail
  refine(Za0 _ _ hs).mono ?_;rintro e w' ⟨rfl,rfl⟩
  rw[h1']
  go_wp2_with fail
  go_ret
  exact⟨Zav hr.out.symm,rfl⟩
theorem Zna (s:ByteArray) (n:Int) (w:World):Calls Tryz.prog 270 #[.string s,.int .i64 n] w (Zdx w (deiR s n)):=by
 by_cases h1:Zan s=true
 ·by_cases h2:inB n 1 40=true
  ·obtain⟨R,rfl,hR1,hR4⟩:=Zoh h2
   have h6:=Zcm h1
   have e0:(s.size:Int).tmod (R:Int)=((s.size%R:Nat):Int):=rfl
   have hne:((R:Int)==0)=false:=by rw[beq_eq_false_iff_ne];omega
   by_cases h3:s.size%R=0
   ·have hr:=Lib.hid (Zv6 h1 h2 h3)
    obtain⟨C,hC⟩:∃C,C=s.size/R:=⟨_,rfl⟩
    have hCR:C*R=s.size:=by rw[hC];exact Nat.div_mul_cancel (Nat.dvd_of_mod_eq_zero h3)
    have hC6:C≤600:=by rw[hC];exact Nat.le_trans (Nat.div_le_self _ _) h6
    have e1:(s.size:Int).tdiv (R:Int)=(C:Int):=by rw[hC];rfl
    have e2:(s.size:Int)/(R:Int)=(C:Int):=by rw[hC];rfl
    have e3:(s.size:Int).tmod (R:Int)=0:=by rw[e0,h3];rfl
    have e4:(s.size:Int)%(R:Int)=0:=by rw[show(s.size:Int)%(R:Int)=((s.size%R:Nat):Int)from rfl,h3];rfl
    have HCR:=Lib.hid hCR
    have HDT:=Lib.hid (show text (deiF s R C s.size)=deiT s R by rw[hC];rfl)
    clear hC h3 e0 hCR
    go_enter Tryz.func270,Tryz.ntmps270
    go_wp2_with fail
    refine(Za2 _ _).mono ?_;rintro e w' ⟨rfl,rfl⟩
    rw[h1]
    go_wp2_with fail
    refine(Zeo _ _).mono ?_;rintro e w' ⟨rfl,rfl⟩
    rw[h2]
    clear h1 h2
    go_wp2_with (at_make;refine Zcd 22 5 1 (0:Int) Tryz.underlying22 Zct rfl (by decide) w rfl _ _ rfl .i64 .i64 s.size rfl rfl (by omega) ?_;intro w1 hown hb)
    have hrow:=RowF.of (show Zg1 w1 w.heap.size (.slice (some ⟨w.heap.size,0,none⟩) s.size s.size) (List.replicate s.size (0:Int))by simp only[Zg1,OwnVF,List.length_replicate];exact hown)
    clear hown e1 e2 e3 e4
    go_loopw [33] (fun i wr=>∃k:Nat,k≤s.size∧i= .int .i64 k∧RowB wr w.heap.size w.heap.size (deiF s R C k)∧Below w.heap.size w wr) (fun i _=>s.size-(intOf i).toNat)
    case atStart=>exact⟨0,Nat.zero_le _,rfl,hrow,hb⟩
    case round=>
     clear hrow hb
     obtain⟨k,hk,rfl,hrow,hb⟩:=hrel
     have hdl:=Zkv s R C k
     by_cases hlt:k<s.size
     ·obtain⟨m,hm⟩:∃m,m=k%R:=⟨_,rfl⟩
      obtain⟨q,hq⟩:∃q,q=k/R:=⟨_,rfl⟩
      obtain⟨P,hP⟩:∃P,P=m*C:=⟨_,rfl⟩
      obtain⟨I,hI⟩:∃I,I=P+q:=⟨_,rfl⟩
      have hII:deiI R C k=I:=by rw[hI,hP,hm,hq];rfl
      have hIs:I<s.size:=by rw[←hII,←HCR.out];exact Zn7 (by omega) (by rw[HCR.out];exact hlt)
      have a1:(k:Int).tmod (R:Int)=(m:Int):=by rw[hm];rfl
      have a2:(k:Int)%(R:Int)=(m:Int):=by rw[hm];rfl
      have a3:(k:Int).tdiv (R:Int)=(q:Int):=by rw[hq];rfl
      have a4:(k:Int)/(R:Int)=(q:Int):=by rw[hq];rfl
      have hPI:(m:Int)*(C:Int)=(P:Int):=by rw[hP,Int.natCast_mul]
      have hIQ:(P:Int)+(q:Int)=(I:Int):=by rw[hI];rfl
      have hP6:P≤100000:=by omega
      have hI6:I≤100000:=by omega
      have hIs2:(I:Int)<(s.size:Int):=by omega
      have hk2:(k:Int)<(s.size:Int):=by omega
      have b1:=Zfp hPI hP6
      have b2:=Zfp hIQ hI6
      have hq6:q≤100000:=by omega
      have b5:IntKind.i64.wrap (q:Int)=(q:Int):=Zfp rfl hq6
      have HS:=Lib.hid (show(deiF s R C k).set I (s[k].toNat:Int)=deiF s R C (k+1)by rw[deiF,hII,Zgt hlt])
      have hIl:I<(deiF s R C k).length:=by rw[hdl];exact hIs
      have hc1:=hrow.cell hIl
      have hf1:=hrow.free hIl
      have hrow2:=hrow.set (i:=I) (s[k].toNat:Int)
      have hb2:=hrow.belowSet hb I (.int .u8 (s[k].toNat:Int))
      rw[HS.out]at hrow2
      have hR0:¬(R:Int)=0:=by omega
      have hR00:¬R=0:=by omega
      clear hm hq hP hI hII hPI hIQ hrow hb
      go_wp2_with fail
      go_still_tail 14,(by kernel_rfl)
      go_wp2_with fail
      clear a1 a2 a3 a4 b1 b2 b5
      go_roundw
      case rel=>exact⟨k+1,by omega,by go_num,hrow2,hb2.drew⟩
      case measure=>simp[intOf];omega
     ·obtain rfl:k=s.size:=by omega
      have hrd:=hrow.rd (n:=s.size) hdl.symm (by omega)
      go_wp2_with (with_reducible refine Zca 22 5 9 Tryz.underlying22 Tryz.underlying5 Tryz.underlying9 _ rfl (.tmp 51) rfl rfl hrd ?_)
      go_ret2
      exact Zbb (by rw[hr.out];exact congrArg some HDT.out.symm) hb
   ·have hr:=Lib.hid (Zad4 h3)
    obtain⟨m,hm⟩:∃m,m=s.size%R:=⟨_,rfl⟩
    have e3:(s.size:Int).tmod (R:Int)=(m:Int):=by rw[e0,hm]
    have e4:(s.size:Int)%(R:Int)=(m:Int):=by rw[hm];rfl
    have hm0:((m:Int)==0)=false:=by rw[beq_eq_false_iff_ne];omega
    clear e0 h3 hm
    go_enter Tryz.func270,Tryz.ntmps270
    go_wp2_with fail
    refine(Za2 _ _).mono ?_;rintro e w' ⟨rfl,rfl⟩
    rw[h1]
    go_wp2_with fail
    refine(Zeo _ _).mono ?_;rintro e w' ⟨rfl,rfl⟩
    rw[h2]
    go_wp2_with fail
    go_ret2
    exact Zag hr.out (Below.refl _ _)
  ·have h2':inB n 1 40=false:=by simpa using h2
   have hr:=Lib.hid (Z4e (s:=s) h2')
   clear h2
   go_enter Tryz.func270,Tryz.ntmps270
   go_wp2_with fail
   refine(Za2 _ _).mono ?_;rintro e w' ⟨rfl,rfl⟩
   rw[h1]
   go_wp2_with fail
   refine(Zeo _ _).mono ?_;rintro e w' ⟨rfl,rfl⟩
   rw[h2']
   go_wp2_with fail
   go_ret2
   exact Zag hr.out (Below.refl _ _)
 ·have h1':Zan s=false:=by simpa using h1
  have hr:=Lib.hid (Zadd (n:=n) h1')
  clear h1
  go_enter Tryz.func270,Tryz.ntmps270
  go_wp2_with fail
  refine(Za2 _ _).mono ?_;rintro e w' ⟨rfl,rfl⟩
  rw[h1']
  go_wp2_with fail
  go_ret2
  exact Zag hr.out (Below.refl _ _)
theorem Zlx (s:ByteArray) (n:Int) (w:World) (hs:s.size≤1099511627776):Calls Tryz.prog 283 #[.string s,.int .i64 n] w (Zdx w (deiR s n)):=by
 by_cases h0:Zsi s n=true
 ·have h00:=h0
  unfold Zsi at h00
  rw[Bool.and_eq_true,Bool.and_eq_true,beq_iff_eq]at h00
  obtain⟨⟨h1,h2⟩,h3⟩:=h00
  obtain⟨R,rfl,hR1,hR4⟩:=Zoh h2
  have h3:s.size%R=0:=h3
  have h6:=Zcm h1
  have hne:((R:Int)==0)=false:=by rw[beq_eq_false_iff_ne];omega
  have hr:=Lib.hid (Zv6 h1 h2 h3)
  obtain⟨C,hC⟩:∃C,C=s.size/R:=⟨_,rfl⟩
  have hCR:C*R=s.size:=by rw[hC];exact Nat.div_mul_cancel (Nat.dvd_of_mod_eq_zero h3)
  have hC6:C≤600:=by rw[hC];exact Nat.le_trans (Nat.div_le_self _ _) h6
  have hC1:C≤100000:=by omega
  have e1:(s.size:Int).tdiv (R:Int)=(C:Int):=by rw[hC];rfl
  have e2:(s.size:Int)/(R:Int)=(C:Int):=by rw[hC];rfl
  have HCR:=Lib.hid hCR
  have HDT:=Lib.hid (show text (deiF s R C s.size)=deiT s R by rw[hC];rfl)
  clear hC h1 h2 h3 hCR
  go_enter Tryz.func283,Tryz.ntmps283
  go_wp2_with (at_make;refine Zcd 22 5 1 (0:Int) Tryz.underlying22 Zct rfl (by decide) w rfl _ _ rfl .i64 .i64 s.size rfl rfl (by omega) ?_;intro w1 hown hb)
  have hrow:=RowF.of (show Zg1 w1 w.heap.size (.slice (some ⟨w.heap.size,0,none⟩) s.size s.size) (List.replicate s.size (0:Int))by simp only[Zg1,OwnVF,List.length_replicate];exact hown)
  clear hown
  go_wp2_with fail
  refine(Z30 s (R:Int) _ hs).mono ?_;rintro e w' ⟨rfl,rfl⟩
  rw[h0]
  clear h0
  go_wp2_with fail
  go_loopw [7] (fun i wr=>∃k:Nat,k≤s.size∧i= .int .i64 k∧RowB wr w.heap.size w.heap.size (deiF s R C k)∧Below w.heap.size w wr) (fun i _=>s.size-(intOf i).toNat)
  case atStart=>exact⟨0,Nat.zero_le _,rfl,hrow,hb⟩
  case round=>
   clear hrow hb
   obtain⟨k,hk,rfl,hrow,hb⟩:=hrel
   have hdl:=Zkv s R C k
   by_cases hlt:k<s.size
   ·obtain⟨m,hm⟩:∃m,m=k%R:=⟨_,rfl⟩
    obtain⟨q,hq⟩:∃q,q=k/R:=⟨_,rfl⟩
    obtain⟨P,hP⟩:∃P,P=m*C:=⟨_,rfl⟩
    obtain⟨I,hI⟩:∃I,I=P+q:=⟨_,rfl⟩
    have hII:deiI R C k=I:=by rw[hI,hP,hm,hq];rfl
    have hIs:I<s.size:=by rw[←hII,←HCR.out];exact Zn7 (by omega) (by rw[HCR.out];exact hlt)
    have a1:(k:Int).tmod (R:Int)=(m:Int):=by rw[hm];rfl
    have a2:(k:Int)%(R:Int)=(m:Int):=by rw[hm];rfl
    have a3:(k:Int).tdiv (R:Int)=(q:Int):=by rw[hq];rfl
    have a4:(k:Int)/(R:Int)=(q:Int):=by rw[hq];rfl
    have hPI:(m:Int)*(C:Int)=(P:Int):=by rw[hP,Int.natCast_mul]
    have hIQ:(P:Int)+(q:Int)=(I:Int):=by rw[hI];rfl
    have hP6:P≤100000:=by omega
    have hI6:I≤100000:=by omega
    have hIs2:(I:Int)<(s.size:Int):=by omega
    have hk2:(k:Int)<(s.size:Int):=by omega
    have b1:=Zfp hPI hP6
    have b2:=Zfp hIQ hI6
    have hq6:q≤100000:=by omega
    have b5:IntKind.i64.wrap (q:Int)=(q:Int):=Zfp rfl hq6
    have b6:IntKind.i64.wrap (C:Int)=(C:Int):=Zfp rfl hC1
    have HS:=Lib.hid (show(deiF s R C k).set I (s[k].toNat:Int)=deiF s R C (k+1)by rw[deiF,hII,Zgt hlt])
    have hIl:I<(deiF s R C k).length:=by rw[hdl];exact hIs
    have hc1:=hrow.cell hIl
    have hf1:=hrow.free hIl
    have hrow2:=hrow.set (i:=I) (s[k].toNat:Int)
    have hb2:=hrow.belowSet hb I (.int .u8 (s[k].toNat:Int))
    rw[HS.out]at hrow2
    have hR0:¬(R:Int)=0:=by omega
    have hR00:¬R=0:=by omega
    clear hm hq hP hI hII hPI hIQ hrow hb
    go_wp2_with fail
    go_still_tail 17,(by kernel_rfl)
    go_wp2_with fail
    clear a1 a2 a3 a4 b1 b2 b5 b6
    go_roundw
    case rel=>exact⟨k+1,by omega,by go_num,hrow2,hb2.drew⟩
    case measure=>simp[intOf];omega
   ·obtain rfl:k=s.size:=by omega
    have hrd:=hrow.rd (n:=s.size) hdl.symm (by omega)
    go_wp2_with (with_reducible refine Zca 22 5 9 Tryz.underlying22 Tryz.underlying5 Tryz.underlying9 _ rfl (.tmp 38) rfl rfl hrd ?_)
    go_ret2
    exact Zbb (by rw[hr.out];exact congrArg some HDT.out.symm) hb
 ·have h0':Zsi s n=false:=by simpa using h0
  have hr:=Lib.hid (show deiR s n=none from if_neg h0)
  clear h0
  go_enter Tryz.func283,Tryz.ntmps283
  go_wp2_with (at_make;refine Zcd 22 5 1 (0:Int) Tryz.underlying22 Zct rfl (by decide) w rfl _ _ rfl .i64 .i64 s.size rfl rfl (by omega) ?_;intro w1 hown hb)
  go_wp2_with fail
  refine(Z30 s n _ hs).mono ?_;rintro e w' ⟨rfl,rfl⟩
  rw[h0']
  go_wp2_with fail
  go_ret2
  exact Zag hr.out hb
def Zadq (t:ByteArray):Option ByteArray:=if Zan t=true then some t else none
theorem Zyy (t:ByteArray) (w:World):Calls Tryz.prog 166 #[.string t] w (Zdx w (Zadq t)):=by
 by_cases h:Zan t=true
 ·have hr:=Lib.hid (show Zadq t=some t from if_pos h)
  go_enter Tryz.func166,Tryz.ntmps166
  go_wp2_with fail
  refine(Za2 _ _).mono ?_;rintro e w' ⟨rfl,rfl⟩
  rw[h]
  go_wp2_with fail
  go_ret2
  exact Zbb hr.out (Below.refl _ _)
 ·have h':Zan t=false:=by simpa using h
  have hr:=Lib.hid (show Zadq t=none from if_neg h)
  clear h
  go_enter Tryz.func166,Tryz.ntmps166
  go_wp2_with fail
  refine(Za2 _ _).mono ?_;rintro e w' ⟨rfl,rfl⟩
  rw[h']
  go_wp2_with fail
  go_ret2
  exact Zag hr.out (Below.refl _ _)
end Go.Proofs.YtcjihfongfefoaaGreatDoor
