/- Kg Kl -/
import Derived.Test.YtcjihfongfefoaaGreatDoorJ15
import Derived.Test.YtcjihfongfefoaaGreatDoorJ17
import Derived.Test.YtcjihfongfefoaaGreatDoorShlf
namespace Go.Proofs.YtcjihfongfefoaaGreatDoor
open Go.RowKit
set_option maxHeartbeats 25600000
set_option maxRecDepth 100000
theorem Zpy (s:ByteArray) (a:Int) (w:World):Calls Tryz.prog 268 #[.string s,.int .i64 a] w fun e w'=>e= .returned (.int .i64 (Zf0 s a))∧Below w.heap.size w w':=by
 by_cases h2:a<0
 ·have hr:=Lib.hid (Z26 (s:=s) h2)
  go_enter Tryz.func268,Tryz.ntmps268
  go_wp2_with fail
  go_ret
  exact⟨by rw[hr.out];rfl,Below.refl _ _⟩
 ·by_cases h1:Zan s=true
  ·have h6:=Zcm h1
   obtain⟨A,rfl⟩:=Int.eq_ofNat_of_zero_le (show 0≤a by omega)
   have hr:=Lib.hid (Zm7 (s:=s) (a:=A) h1)
   go_enter Tryz.func268,Tryz.ntmps268
   go_wp2_with fail
   refine(Za2 _ _).mono ?_;rintro e w' ⟨rfl,rfl⟩
   rw[h1]
   clear h1
   go_wp2_with fail
   go_loopw [5] (fun i wr=>∃b:Nat,i= .int .i64 b∧Hid (Zf0 s A=Zow s (s.size-b) b)∧Below w.heap.size w wr) (fun i _=>s.size-(intOf i).toNat)
   case atStart=>exact⟨A,rfl,hr,Below.refl _ _⟩
   case round=>
    obtain⟨b,rfl,HF,hb⟩:=hrel
    by_cases hlt:b<s.size
    ·have HY:=Lib.hid (fun h=>Zl2 (s:=s) (f:=s.size-b) (a:=b) (by omega) h)
     have HN:=Lib.hid (fun h=>Zuc (s:=s) (f:=s.size-b) (a:=b) (by omega) h)
     go_wp2_with fail
     refine(Zjg s (b:Int) _).mono ?_;rintro e w3 ⟨rfl,hb3⟩
     have hb4:=hb.trans (hb3.mono hb.size)
     clear hb hb3
     by_cases h3:(Zbn s (b:Int)).isSome=true
     ·have HZ:=Lib.hid (HF.out.trans (HY.out h3))
      rw[h3]
      generalize ((Zbn s (b:Int)).map Prod.fst).getD ByteArray.empty=u1
      generalize ((Zbn s (b:Int)).map Prod.snd).getD 0=u2
      clear h3
      go_wp2_with fail
      go_ret
      exact⟨by rw[HZ.out];rfl,hb4⟩
     ·have h3':(Zbn s (b:Int)).isSome=false:=by simpa using h3
      have HZ:=Lib.hid (HF.out.trans (HN.out h3'))
      rw[h3']
      generalize ((Zbn s (b:Int)).map Prod.fst).getD ByteArray.empty=u1
      generalize ((Zbn s (b:Int)).map Prod.snd).getD 0=u2
      clear h3 h3'
      go_wp2_with fail
      go_roundw
      case rel=>exact⟨b+1,by go_num,Lib.hid (by rw[HZ.out];rfl),hb4⟩
      case measure=>simp[intOf];omega
    ·have HZ:=Lib.hid (show Zf0 s A= -1 by rw[HF.out,show s.size-b=0 by omega];rfl)
     go_wp2_with fail
     go_ret
     exact⟨by rw[HZ.out];rfl,hb⟩
  ·have h1':Zan s=false:=by simpa using h1
   have hr:=Lib.hid (Zwl (a:=a) h1')
   clear h1
   go_enter Tryz.func268,Tryz.ntmps268
   go_wp2_with fail
   refine(Za2 _ _).mono ?_;rintro e w' ⟨rfl,rfl⟩
   rw[h1']
   go_wp2_with fail
   go_ret
   exact⟨by rw[hr.out];rfl,Below.refl _ _⟩
theorem Zof (s:ByteArray) (a:Int) (w:World) (hsz:s.size≤1099511627776):Calls Tryz.prog 281 #[.string s,.int .i64 a] w fun e w'=>e= .returned (.int .i64 (Zf0 s a))∧Below w.heap.size w w':=by
 by_cases h1:Zan s=true
 ·by_cases h2:a<0
  ·have hr:=Lib.hid (Z26 (s:=s) h2)
   go_enter Tryz.func281,Tryz.ntmps281
   go_wp2_with fail
   refine(Za0 _ _ hsz).mono ?_;rintro e w' ⟨rfl,rfl⟩
   rw[h1]
   go_wp2_with fail
   go_ret
   exact⟨by rw[hr.out];rfl,Below.refl _ _⟩
  ·have h6:=Zcm h1
   obtain⟨A,rfl⟩:=Int.eq_ofNat_of_zero_le (show 0≤a by omega)
   have hr:=Lib.hid (Zm7 (s:=s) (a:=A) h1)
   go_enter Tryz.func281,Tryz.ntmps281
   go_wp2_with fail
   refine(Za0 _ _ hsz).mono ?_;rintro e w' ⟨rfl,rfl⟩
   rw[h1]
   clear h1
   go_wp2_with fail
   go_loopw [1] (fun i wr=>∃b:Nat,i= .int .i64 b∧Hid (Zf0 s A=Zow s (s.size-b) b)∧Below w.heap.size w wr) (fun i _=>s.size-(intOf i).toNat)
   case atStart=>exact⟨A,rfl,hr,Below.refl _ _⟩
   case round=>
    obtain⟨b,rfl,HF,hb⟩:=hrel
    by_cases hlt:b<s.size
    ·have HY:=Lib.hid (fun h=>Zl2 (s:=s) (f:=s.size-b) (a:=b) (by omega) h)
     have HN:=Lib.hid (fun h=>Zuc (s:=s) (f:=s.size-b) (a:=b) (by omega) h)
     go_wp2_with fail
     refine(Zik s (b:Int) _ hsz).mono ?_;rintro e w3 ⟨rfl,hb3⟩
     have hb4:=hb.trans (hb3.mono hb.size)
     clear hb hb3
     by_cases h3:(Zbn s (b:Int)).isSome=true
     ·have HZ:=Lib.hid (HF.out.trans (HY.out h3))
      rw[h3]
      generalize ((Zbn s (b:Int)).map Prod.fst).getD ByteArray.empty=u1
      generalize ((Zbn s (b:Int)).map Prod.snd).getD 0=u2
      clear h3
      go_wp2_with fail
      go_ret
      exact⟨by rw[HZ.out];rfl,hb4⟩
     ·have h3':(Zbn s (b:Int)).isSome=false:=by simpa using h3
      have HZ:=Lib.hid (HF.out.trans (HN.out h3'))
      rw[h3']
      generalize ((Zbn s (b:Int)).map Prod.fst).getD ByteArray.empty=u1
      generalize ((Zbn s (b:Int)).map Prod.snd).getD 0=u2
      clear h3 h3'
      go_wp2_with fail
      go_roundw
      case rel=>exact⟨b+1,by go_num,Lib.hid (by rw[HZ.out];rfl),hb4⟩
      case measure=>simp[intOf];omega
    ·have HZ:=Lib.hid (show Zf0 s A= -1 by rw[HF.out,show s.size-b=0 by omega];rfl)
     go_wp2_with fail
     go_ret
     exact⟨by rw[HZ.out];rfl,hb⟩
 ·have h1':Zan s=false:=by simpa using h1
  have hr:=Lib.hid (Zwl (a:=a) h1')
  clear h1
  go_enter Tryz.func281,Tryz.ntmps281
  go_wp2_with fail
  refine(Za0 _ _ hsz).mono ?_;rintro e w' ⟨rfl,rfl⟩
  rw[h1']
  go_wp2_with fail
  go_ret
  exact⟨by rw[hr.out];rfl,Below.refl _ _⟩
theorem Z1b (s:ByteArray) (w:World) (h:allS bitC s=true) (hz:s.size≤600):Calls Tryz.prog 308 #[.string s] w fun e w'=>e= .returned (.int .i64 (2*(cntO s 0 s.size:Int)-s.size))∧w=w':=by
 have HA:=Lib.hid h
 clear h
 go_enter Tryz.func308,Tryz.ntmps308
 go_wp2_with fail
 go_loop [3,4] (fun n i=>∃k:Nat,k≤s.size∧i= .int .i64 k∧n= .int .i64 (2*(cntO s 0 k:Int)-k)) (fun _ i=>s.size-(intOf i).toNat)
 case atStart=>exact⟨0,Nat.zero_le _,rfl,by rw[Zxt];rfl⟩
 case round=>
  obtain⟨k,hk,rfl,rfl⟩:=hrel
  have hle:=Zaad s 0 k
  by_cases hlt:k<s.size
  ·have hbit:=Zgs HA.out hlt
   by_cases h1:s[k].toNat=49
   ·have HS:=Lib.hid (Z2k (s:=s) (a:=0) (k:=k) (by omega) (by simpa using h1))
    have hv:(s[k].toNat:Int)=49:=by omega
    generalize cntO s 0 k=c at*
    clear h1 hbit
    go_wp2_with fail
    go_round
    case rel=>exact⟨k+1,by omega,by go_num,by rw[HS.out];go_num⟩
    case measure=>simp[intOf];omega
   ·have HS:=Lib.hid (Z8k (s:=s) (a:=0) (k:=k) (by omega) (by simpa using h1))
    have hv:(s[k].toNat:Int)=48:=by omega
    generalize cntO s 0 k=c at*
    clear h1 hbit
    go_wp2_with fail
    go_round
    case rel=>exact⟨k+1,by omega,by go_num,by rw[HS.out];go_num⟩
    case measure=>simp[intOf];omega
  ·obtain rfl:k=s.size:=by omega
   go_wp2_with fail
   go_ret
   exact⟨rfl,rfl⟩
theorem Z8r (c:Int) (n:Nat) (w:World) (hn:n≤1000):Calls Tryz.prog 88 #[.string (Zg6 c 1),.int .i64 n] w fun e w'=>e= .returned (.string (Zg6 c n))∧w=w':=by
 go_enter Tryz.func88,Tryz.ntmps88
 go_wp2
 go_loop [0,1,5] (fun s i o=>∃a b j:Nat,s= .string (Zg6 c b)∧i= .int .i64 j∧o= .string (Zg6 c a)∧j≤n∧Hid (a+b*j=n∧b≤2*n+1)) (fun _ i _=>(intOf i).toNat)
 case atStart=>exact⟨0,1,n,rfl,rfl,rfl,Nat.le_refl _,Lib.hid ⟨by omega,by omega⟩⟩
 case round=>
  obtain⟨a,b,j,rfl,rfl,rfl,hj,HI⟩:=hrel
  by_cases h0:0<j
  ·have hbj:b≤b*j:=Nat.le_mul_of_pos_right b h0
   have hb:=HI.out.2
   have ha:a≤n:=by have:=HI.out.1;omega
   have hza:=Zh6 c a
   have hzb:=Zh6 c b
   have hs1:¬(Zg6 c a).size+(Zg6 c b).size>9223372036854775807:=by omega
   have hs2:¬(Zg6 c b).size+(Zg6 c b).size>9223372036854775807:=by omega
   have HZ:=Lib.hid (And.intro hza hzb);clear hza hzb
   have HA:=Lib.hid (Zyk c a b)
   have HB:=Lib.hid (Zyk c b b)
   have hbn:b≤n:=by have:=HI.out.1;omega
   by_cases hodd:j%2=1
   ·have hd:((j:Int)%2==1)=true:=by simp;omega
    have hmul:b*j=b*2*(j/2)+b:=by
     have:j=2*(j/2)+1:=by omega
     conv=>lhs;rw[this]
     rw[Nat.mul_add,Nat.mul_one,Nat.mul_assoc]
    have HN:=Lib.hid (show a+b+(b+b)*(j/2)=n∧b+b≤2*n+1 by
     have h1:=HI.out.1
     rw[show b+b=b*2 by omega]
     exact⟨by omega,by omega⟩)
    clear hodd hbj hmul
    go_wp2_with fail
    rw[HA.out,HB.out]
    go_round
    case rel=>exact⟨a+b,b+b,j/2,rfl,by go_num,rfl,by omega,HN⟩
    case measure=>simp[intOf];omega
   ·have hd:((j:Int)%2==1)=false:=by simp;omega
    have hmul:b*j=b*2*(j/2):=by
     have:j=2*(j/2):=by omega
     conv=>lhs;rw[this]
     rw[Nat.mul_assoc]
    have HN:=Lib.hid (show a+(b+b)*(j/2)=n∧b+b≤2*n+1 by
     have h1:=HI.out.1
     rw[show b+b=b*2 by omega]
     exact⟨by omega,by omega⟩)
    clear hodd hbj hmul
    go_wp2_with fail
    rw[HB.out]
    go_round
    case rel=>exact⟨a,b+b,j/2,rfl,by go_num,rfl,by omega,HN⟩
    case measure=>simp[intOf];omega
  ·obtain rfl:j=0:=by omega
   have HE:=Lib.hid (show a=n by have:=HI.out.1;omega)
   go_wp2_with fail
   go_ret
   exact⟨Zaji (by rw[HE.out]),rfl⟩
end Go.Proofs.YtcjihfongfefoaaGreatDoor
