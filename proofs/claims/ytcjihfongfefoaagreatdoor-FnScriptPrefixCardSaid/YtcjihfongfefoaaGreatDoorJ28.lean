/- Un Uo Uq Ur Us Up -/
import Derived.Test.YtcjihfongfefoaaGreatDoorJ16
import Derived.Test.YtcjihfongfefoaaGreatDoorJ18
import Derived.Test.YtcjihfongfefoaaGreatDoorShlf
namespace Go.Proofs.YtcjihfongfefoaaGreatDoor
open Go.RowKit
set_option maxHeartbeats 25600000
set_option maxRecDepth 100000
theorem Zxn {a b:ByteArray} (h:seqB a=false):Zef a b=false:=by unfold Zef;rw[h];rfl
theorem Zxh {a b:ByteArray} (h:seqB b=false):Zef a b=false:=by unfold Zef;rw[h,Bool.and_false];rfl
theorem Z4z {a b:ByteArray} (h1:seqB a=true) (h2:seqB b=true):Zef a b=decide (a.size=b.size):=by unfold Zef;rw[h1,h2];rfl
theorem Zdo (a b:ByteArray) (w:World):Calls Tryz.prog 261 #[.string a,.string b] w fun e w'=>e= .returned (.bool (Zef a b))∧w=w':=by
 by_cases h1:seqB a=true
 ·have H1:=Lib.hid h1
  by_cases h2:seqB b=true
  ·have H2:=Lib.hid h2
   have HR:=Lib.hid (Z4z h1 h2)
   clear h1 h2
   go_enter Tryz.func261,Tryz.ntmps261
   go_wp2_with fail
   refine(Zat _ _).mono ?_;rintro e w' ⟨rfl,rfl⟩
   rw[H1.out]
   go_wp2_with fail
   refine(Zat _ _).mono ?_;rintro e w' ⟨rfl,rfl⟩
   rw[H2.out]
   go_wp2_with fail
   go_ret
   exact⟨Zav (by rw[HR.out,Bool.eq_iff_iff,beq_iff_eq,decide_eq_true_eq];omega),rfl⟩
  ·have h2':seqB b=false:=by simpa using h2
   have H2:=Lib.hid h2'
   have HR:=Lib.hid (Zxh (a:=a) h2')
   clear h1 h2 h2'
   go_enter Tryz.func261,Tryz.ntmps261
   go_wp2_with fail
   refine(Zat _ _).mono ?_;rintro e w' ⟨rfl,rfl⟩
   rw[H1.out]
   go_wp2_with fail
   refine(Zat _ _).mono ?_;rintro e w' ⟨rfl,rfl⟩
   rw[H2.out]
   go_wp2_with fail
   go_ret
   exact⟨Zav HR.out.symm,rfl⟩
 ·have h1':seqB a=false:=by simpa using h1
  have H1:=Lib.hid h1'
  have HR:=Lib.hid (Zxn (b:=b) h1')
  clear h1 h1'
  go_enter Tryz.func261,Tryz.ntmps261
  go_wp2_with fail
  refine(Zat _ _).mono ?_;rintro e w' ⟨rfl,rfl⟩
  rw[H1.out]
  go_wp2_with fail
  go_ret
  exact⟨Zav HR.out.symm,rfl⟩
theorem Zo4 (a b:ByteArray) (w:World) (ha:a.size≤1099511627776) (hb:b.size≤1099511627776):Calls Tryz.prog 276 #[.string a,.string b] w fun e w'=>e= .returned (.bool (Zef a b))∧w=w':=by
 by_cases h1:seqB a=true
 ·have H1:=Lib.hid h1
  by_cases h2:seqB b=true
  ·have H2:=Lib.hid h2
   have HR:=Lib.hid (Z4z h1 h2)
   clear h1 h2
   go_enter Tryz.func276,Tryz.ntmps276
   go_wp2_with fail
   refine(Za6 _ _ ha).mono ?_;rintro e w' ⟨rfl,rfl⟩
   rw[H1.out]
   go_wp2_with fail
   refine(Za6 _ _ hb).mono ?_;rintro e w' ⟨rfl,rfl⟩
   rw[H2.out]
   go_wp2_with fail
   go_ret
   exact⟨Zav (by rw[HR.out,Bool.eq_iff_iff,beq_iff_eq,decide_eq_true_eq];omega),rfl⟩
  ·have h2':seqB b=false:=by simpa using h2
   have H2:=Lib.hid h2'
   have HR:=Lib.hid (Zxh (a:=a) h2')
   clear h1 h2 h2'
   go_enter Tryz.func276,Tryz.ntmps276
   go_wp2_with fail
   refine(Za6 _ _ ha).mono ?_;rintro e w' ⟨rfl,rfl⟩
   rw[H1.out]
   go_wp2_with fail
   refine(Za6 _ _ hb).mono ?_;rintro e w' ⟨rfl,rfl⟩
   rw[H2.out]
   go_wp2_with fail
   go_ret
   exact⟨Zav HR.out.symm,rfl⟩
 ·have h1':seqB a=false:=by simpa using h1
  have H1:=Lib.hid h1'
  have HR:=Lib.hid (Zxn (b:=b) h1')
  clear h1 h1'
  go_enter Tryz.func276,Tryz.ntmps276
  go_wp2_with fail
  refine(Za6 _ _ ha).mono ?_;rintro e w' ⟨rfl,rfl⟩
  rw[H1.out]
  go_wp2_with fail
  go_ret
  exact⟨Zav HR.out.symm,rfl⟩
theorem Z4g {a b:ByteArray} {k n J:Nat} (hn:n<a.size) (hJ:J<b.size) (e:(n+k)%b.size=J) (h:a[n].toNat=b[J].toNat):corN a b k (n+1)=corN a b k n+1:=by
 show corN a b k n+(if(Zab a).getD n 0=(Zab b).getD ((n+k)%b.size) 0 then 1 else 0)=_
 rw[e,Zfj hn,Zfj hJ,if_pos (by omega)]
theorem Z8i {a b:ByteArray} {k n J:Nat} (hn:n<a.size) (hJ:J<b.size) (e:(n+k)%b.size=J) (h:¬a[n].toNat=b[J].toNat):corN a b k (n+1)=corN a b k n:=by
 show corN a b k n+(if(Zab a).getD n 0=(Zab b).getD ((n+k)%b.size) 0 then 1 else 0)=_
 rw[e,Zfj hn,Zfj hJ,if_neg (by omega)];rfl
theorem Zaf3 {n k m J:Nat} (hJ:J<m) (e:(n+k)%m=J):(n+1+k)%m=if J+1=m then 0 else J+1:=by
 have h1:(n+1+k)%m=(J+1)%m:=by
  rw[show n+1+k=(n+k)+1 by omega,Nat.add_mod,e]
  by_cases h:m=1
  ·subst h;omega
  ·rw[Nat.mod_eq_of_lt (show 1<m by omega)]
 rw[h1]
 split
 ·next h=>rw[h,Nat.mod_self]
 ·exact Nat.mod_eq_of_lt (by omega)
theorem Znb (a b:ByteArray) (k:Nat) (w:World) (hk:k<b.size) (hab:a.size=b.size) (hz:a.size≤1000):
 Calls Tryz.prog 262 #[.string a,.string b,.int .i64 k] w fun e w'=>e= .returned (.int .i64 (corV a b k))∧Qw w w':=by
 have HAB:=Lib.hid hab
 have HV:=Lib.hid (show corV a b k=2*(corN a b k a.size:Int)-a.size from rfl)
 have HLE:=Lib.hid (Zv1 a b k)
 have hbz:b.size≤1000:=by omega
 have HK:=Lib.hid (show(0+k)%b.size=k by rw[Nat.zero_add];exact Nat.mod_eq_of_lt hk)
 clear hab
 go_enter Tryz.func262,Tryz.ntmps262
 go_wp2_with fail
 go_loopw [7,8,13] (fun q j i wr=>∃n J:Nat,n≤a.size∧i= .int .i64 n∧J<b.size∧j= .int .i64 J∧Hid ((n+k)%b.size=J)∧q= .int .i64 (corN a b k n:Nat)∧Qw w wr) (fun _ _ i _=>a.size-(intOf i).toNat)
 case atStart=>exact⟨0,k,Nat.zero_le _,rfl,hk,rfl,HK,rfl,Qw.refl _⟩
 case round=>
  obtain⟨n,J,hn,rfl,hJ,rfl,HJ,rfl,hq⟩:=hrel
  by_cases hlt:n<a.size
  ·have hle:=HLE.out n
   have HM:=Lib.hid (Zaf3 hJ HJ.out)
   by_cases he:a[n].toNat=b[J].toNat
   ·have HN:=Lib.hid (Z4g hlt hJ HJ.out he)
    have hcmp:((a[n].toNat:Int)==(b[J].toNat:Int))=true:=by simp[he]
    clear he
    generalize corN a b k n=c at*
    go_wp2_with fail
    go_quiet (fail)
    by_cases hJ1:J+1=b.size
    ·have HM2:=Lib.hid (HM.out.trans (if_pos hJ1))
     have hJb:((J:Int)+1==(b.size:Int))=true:=by simp;omega
     clear hJ1
     go_wp2_with fail
     go_roundw
     case rel=>exact⟨n+1,0,by omega,by go_num,by omega,by go_num,HM2,by rw[HN.out];go_num,hq.trans (Qw.drewN _ _)⟩
     case measure=>simp[intOf];omega
    ·have HM2:=Lib.hid (HM.out.trans (if_neg hJ1))
     have hJb:((J:Int)+1==(b.size:Int))=false:=by simp;omega
     have hJ2:J+1<b.size:=by omega
     clear hJ1
     go_wp2_with fail
     go_roundw
     case rel=>exact⟨n+1,J+1,by omega,by go_num,by omega,by go_num,HM2,by rw[HN.out];go_num,hq.trans (Qw.drewN _ _)⟩
     case measure=>simp[intOf];omega
   ·have HN:=Lib.hid (Z8i hlt hJ HJ.out he)
    have hcmp:((a[n].toNat:Int)==(b[J].toNat:Int))=false:=beq_eq_false_iff_ne.2 (by omega)
    clear he
    generalize corN a b k n=c at*
    go_wp2_with fail
    go_quiet (fail)
    by_cases hJ1:J+1=b.size
    ·have HM2:=Lib.hid (HM.out.trans (if_pos hJ1))
     have hJb:((J:Int)+1==(b.size:Int))=true:=by simp;omega
     clear hJ1
     go_wp2_with fail
     go_roundw
     case rel=>exact⟨n+1,0,by omega,by go_num,by omega,by go_num,HM2,by rw[HN.out],hq.trans (Qw.drewN _ _)⟩
     case measure=>simp[intOf];omega
    ·have HM2:=Lib.hid (HM.out.trans (if_neg hJ1))
     have hJb:((J:Int)+1==(b.size:Int))=false:=by simp;omega
     have hJ2:J+1<b.size:=by omega
     clear hJ1
     go_wp2_with fail
     go_roundw
     case rel=>exact⟨n+1,J+1,by omega,by go_num,by omega,by go_num,HM2,by rw[HN.out],hq.trans (Qw.drewN _ _)⟩
     case measure=>simp[intOf];omega
  ·obtain rfl:n=a.size:=by omega
   have hle:=HLE.out a.size
   generalize corN a b k a.size=c at*
   go_wp2_with fail
   go_ret
   exact⟨Zd6 (by rw[HV.out]),hq⟩
theorem Z8p (a b:ByteArray):Zab (a++b)=Zab a++Zab b:=by unfold Zab;rw[Zhs,List.map_append]
theorem Zyx (s:ByteArray) (a b:Nat):Zab (s.extract a b)=((Zab s).drop a).take (b-a):=by unfold Zab;rw[Zea,List.map_take,List.map_drop]
theorem Z5u (s:ByteArray) (K:Nat):Zab (rotT s K)=(Zab s).drop K++(Zab s).take K:=by
 unfold rotT
 rw[Z8p,Zyx,Zyx,List.drop_zero,Nat.sub_zero]
 congr 1
 exact List.take_of_length_le (by rw[List.length_drop,Zac];omega)
theorem Z99 {s:ByteArray} {K i:Nat} (hK:K<s.size) (hi:i<s.size):(Zab (rotT s K)).getD i 0=(Zab s).getD ((i+K)%s.size) 0:=by
 rw[Z5u s K]
 have hl:(Zab s).length=s.size:=Zac s
 by_cases h:i+K<s.size
 ·rw[Nat.mod_eq_of_lt h]
  rw[List.getD_eq_getElem?_getD,List.getD_eq_getElem?_getD,List.getElem?_append_left (by rw[List.length_drop];omega),List.getElem?_drop,Nat.add_comm]
 ·have e:(i+K)%s.size=i+K-s.size:=by
   rw[Nat.mod_eq_sub_mod (by omega),Nat.mod_eq_of_lt (by omega)]
  rw[e,List.getD_eq_getElem?_getD,List.getD_eq_getElem?_getD,List.getElem?_append_right (by rw[List.length_drop];omega),List.length_drop,hl,List.getElem?_take,if_pos (by omega)]
  congr 2
  omega
theorem Zwm {s:ByteArray} (K:Nat) (h:allS bitC s=true):allS bitC (rotT s K)=true:=by
 unfold rotT;rw[Zls,Zeb _ _ h,Zeb _ _ h];rfl
theorem Zafg (a b:ByteArray):allS bitC (sumT a b)=true:=by
 unfold allS sumT text
 rw[List.all_eq_true]
 intro c hc
 simp only[List.mem_map]at hc
 obtain⟨x,hx,rfl⟩:=hc
 rcases Zpj _ _ x hx with rfl|rfl<;>rfl
theorem Zmg (a b:ByteArray):(sumT a b).size=a.size:=by unfold sumT;rw[Zaq,Zis]
theorem sum_at {a b:ByteArray} {n:Nat} (h:n<(sumT a b).size):((sumT a b)[n].toNat:Int)=if(Zab a).getD n 0=(Zab b).getD n 0 then 48 else 49:=by
 have hl:n<(sumL a b).length:=by rw[Zis,←Zmg a b];exact h
 rw[←Zcj _ h]
 have e:Zab (sumT a b)=sumL a b:=Zcf (Zpj a b)
 have:(Zab (sumT a b))[n]'(by rw[e];exact hl)=(sumL a b)[n]'hl:=by congr 1
 rw[this,Zu5 hl]
theorem Z7j {a b:ByteArray} {K:Nat} (hab:a.size=b.size) (hK:K<b.size):∀n,n≤a.size→corN a b K n+cntO (sumT a (rotT b K)) 0 n=n
 |0,_=>by rw[Zxt];rfl
 |n+1,hn=>by
  have ih:=Z7j hab hK n (by omega)
  have hs:n<(sumT a (rotT b K)).size:=by rw[Zmg];omega
  have hat:=sum_at hs
  rw[Z99 hK (by omega)]at hat
  have hr:(n+K)%b.size<b.size:=Nat.mod_lt _ (by omega)
  rw[Zfj (show n<a.size by omega),Zfj hr]at hat
  have h0:(sumT a (rotT b K))[0+n]'(by omega)=(sumT a (rotT b K))[n]'hs:=by congr 1;omega
  by_cases he:a[n].toNat=(b[(n+K)%b.size]'hr).toNat
  ·rw[Z4g (show n<a.size by omega) hr rfl he,Z8k (by omega) (by rw[h0];rw[if_pos (by omega)]at hat;omega)]
   omega
  ·rw[Z8i (show n<a.size by omega) hr rfl he,Z2k (by omega) (by rw[h0];rw[if_neg (by omega)]at hat;omega)]
   omega
theorem Zagk {a b:ByteArray} {K:Nat} (hab:a.size=b.size) (hK:K<b.size):corV a b K= -(2*(cntO (sumT a (rotT b K)) 0 (sumT a (rotT b K)).size:Int)-(sumT a (rotT b K)).size):=by
 have:=Z7j hab hK a.size (Nat.le_refl _)
 unfold corV
 rw[Zmg]
 omega
theorem Zxv (s:ByteArray) (k:Int) (w:World) (hs:0<s.size) (hz:s.size≤1000):Calls Tryz.prog 247 #[.string s,.int .i64 k] w fun e w'=>e= .returned (.string (rotT s (k%(s.size:Int)).toNat))∧Qw w w':=by
 have h1:=Int.emod_nonneg k (show(s.size:Int)≠0 by omega)
 have h2:=Int.emod_lt_of_pos k (show(0:Int)<s.size by omega)
 have HM:=Lib.hid (fun c=>Z7x k (s.size:Int) c (by omega) (by omega))
 obtain⟨K,hK⟩:∃K:Nat,k%(s.size:Int)=K:=Int.eq_ofNat_of_zero_le h1
 rw[hK]at HM h2
 have HR:=Lib.hid (show rotT s ((K:Int)).toNat=s.extract K s.size++s.extract 0 K from rfl)
 rw[hK]
 have hKs:K<s.size:=by omega
 have x1:(s.extract K s.size).size=s.size-K:=Zbc (Nat.le_refl _)
 have x2:(s.extract 0 K).size=K:=by rw[Zbc (by omega)];omega
 have hle:K≤s.size:=by omega
 have n1:¬9223372036854775807<(s.extract K s.size).size+(s.extract 0 K).size:=by omega
 have n2:¬9223372036854775807<s.size-K+K:=by omega
 clear h1 hK
 go_enter Tryz.func247,Tryz.ntmps247
 go_wp2_with fail
 refine(HM.out _).mono ?_;rintro e w' ⟨rfl,rfl⟩
 go_wp2_with fail
 go_quiet (fail)
 go_wp2_with fail
 go_ret
 exact⟨by rw[HR.out];rfl,Qw.drewN _ _⟩
theorem Zyp (a b:ByteArray) (k:Int) (w:World) (h:Zef a b=true):Calls Tryz.prog 277 #[.string a,.string b,.int .i64 k] w fun e w'=>e= .returned (.int .i64 (corV a b (k%(b.size:Int)).toNat))∧Below w.heap.size w w':=by
 unfold Zef at h
 simp only[Bool.and_eq_true,decide_eq_true_eq]at h
 obtain⟨⟨h1,h2⟩,hab⟩:=h
 have z1:=Zbg h1
 have z2:=Zbg h2
 have hb1:allS bitC a=true:=by unfold seqB at h1;rw[Bool.and_eq_true]at h1;exact Zb5 h1.1
 have hb2:allS bitC b=true:=by unfold seqB at h2;rw[Bool.and_eq_true]at h2;exact Zb5 h2.1
 have g1:=Int.emod_nonneg k (show(b.size:Int)≠0 by omega)
 have g2:=Int.emod_lt_of_pos k (show(0:Int)<b.size by omega)
 have HS:=Lib.hid (fun c=>Zxv b k c (by omega) (by omega))
 have hKs:(k%(b.size:Int)).toNat<b.size:=by omega
 generalize (k%(b.size:Int)).toNat=K at*
 have HV:=Lib.hid (Zagk hab hKs)
 have HR:=Lib.hid (Zwm K hb2)
 have hrz:(rotT b K).size=b.size:=by unfold rotT;rw[Zap,Zbc (Nat.le_refl _),Zbc (Nat.le_of_lt hKs)];omega
 have HA:=Lib.hid (fun c=>Zuf a (rotT b K) c (by omega) (by omega) hb1 HR.out)
 have HB:=Lib.hid (fun c=>Z1b (sumT a (rotT b K)) c (Zafg _ _) (by rw[Zmg];omega))
 have hcz:=Zaad (sumT a (rotT b K)) 0 (sumT a (rotT b K)).size
 have hsz:=Zmg a (rotT b K)
 generalize rotT b K=r at*
 generalize corV a b K=V at*
 generalize sumT a r=S at*
 generalize cntO S 0 S.size=c at*
 clear hb1 hb2 g1 g2 h1 h2
 go_enter Tryz.func277,Tryz.ntmps277
 go_wp2_with fail
 refine(HS.out _).mono ?_;rintro e w1 ⟨rfl,hq1⟩
 go_wp2_with fail
 refine(HA.out _).mono ?_;rintro e w2 ⟨rfl,hb2⟩
 have hbz:=(hq1.below w.heap.size).trans (hb2.mono (hq1.below w.heap.size).size)
 go_wp2_with fail
 refine(HB.out _).mono ?_;rintro e w' ⟨rfl,rfl⟩
 go_wp2_with fail
 go_ret
 exact⟨Zd6 (by rw[HV.out];first|rfl|(simp;omega)),hbz⟩
def Zafi (w:World) (r:Option Int) (e:Ending) (w':World):Prop:=e= .returned (.tuple #[.int .i64 (r.getD 0),.bool r.isSome])∧Below w.heap.size w w'
theorem Zta {w w':World} {r:Option Int} (hr:r=none) (hb:Below w.heap.size w w'):Zafi w r (.returned (.tuple #[.int .i64 0,.bool false])) w':=by subst hr;exact⟨rfl,hb⟩
theorem Ztr {w w':World} {r:Option Int} {n:Int} (hr:r=some n) (hb:Below w.heap.size w w'):Zafi w r (.returned (.tuple #[.int .i64 n,.bool true])) w':=by subst hr;exact⟨rfl,hb⟩
theorem Zx3 (a b:ByteArray) (k:Int) (w:World):Calls Tryz.prog 204 #[.string a,.string b,.int .i64 k] w (Zafi w (crsR a b k)):=by
 by_cases hp:Zef a b=true
 ·have HP:=Lib.hid hp
  have HR:=Lib.hid (Z4s (k:=k) hp)
  unfold Zef at hp
  simp only[Bool.and_eq_true,decide_eq_true_eq]at hp
  obtain⟨⟨h1,h2⟩,hab⟩:=hp
  have z1:=Zbg h1
  have z2:=Zbg h2
  have g1:=Int.emod_nonneg k (show(b.size:Int)≠0 by omega)
  have g2:=Int.emod_lt_of_pos k (show(0:Int)<b.size by omega)
  have HM:=Lib.hid (fun c=>Zwf k (b.size:Int) c (by omega) (by omega))
  obtain⟨K,hK⟩:∃K:Nat,k%(b.size:Int)=K:=Int.eq_ofNat_of_zero_le g1
  rw[hK]at HM g2 HR
  have HC:=Lib.hid (fun c=>Znb a b K c (by omega) hab (by omega))
  rw[show((K:Int)).toNat=K from rfl]at HR
  generalize corV a b K=V at*
  clear h1 h2 hab g1 hK
  go_enter Tryz.func204,Tryz.ntmps204
  go_wp2_with fail
  refine(Zdo _ _ _).mono ?_;rintro e w' ⟨rfl,rfl⟩
  rw[HP.out]
  go_wp2_with fail
  refine(HM.out _).mono ?_;rintro e w' ⟨rfl,rfl⟩
  go_wp2_with fail
  refine(HC.out _).mono ?_;rintro e w1 ⟨rfl,hq⟩
  go_wp2_with fail
  go_ret2
  exact Ztr HR.out (hq.below _)
 ·have hp':Zef a b=false:=by simpa using hp
  have HP:=Lib.hid hp'
  have HR:=Lib.hid (Z7o (k:=k) hp')
  clear hp hp'
  go_enter Tryz.func204,Tryz.ntmps204
  go_wp2_with fail
  refine(Zdo _ _ _).mono ?_;rintro e w' ⟨rfl,rfl⟩
  rw[HP.out]
  go_wp2_with fail
  go_ret2
  exact Zta HR.out (Below.refl _ _)
theorem Z6k (a b:ByteArray) (k:Int) (w:World) (ha:a.size≤1099511627776) (hb:b.size≤1099511627776):Calls Tryz.prog 223 #[.string a,.string b,.int .i64 k] w (Zafi w (crsR a b k)):=by
 by_cases hp:Zef a b=true
 ·have HP:=Lib.hid hp
  have HR:=Lib.hid (Z4s (k:=k) hp)
  have HC:=Lib.hid (fun c=>Zyp a b k c hp)
  generalize corV a b (k%(b.size:Int)).toNat=V at*
  clear hp
  go_enter Tryz.func223,Tryz.ntmps223
  go_wp2_with fail
  refine(Zo4 _ _ _ ha hb).mono ?_;rintro e w' ⟨rfl,rfl⟩
  rw[HP.out]
  go_wp2_with fail
  refine(HC.out _).mono ?_;rintro e w1 ⟨rfl,hb1⟩
  go_wp2_with fail
  go_ret2
  exact Ztr HR.out hb1
 ·have hp':Zef a b=false:=by simpa using hp
  have HP:=Lib.hid hp'
  have HR:=Lib.hid (Z7o (k:=k) hp')
  clear hp hp'
  go_enter Tryz.func223,Tryz.ntmps223
  go_wp2_with fail
  refine(Zo4 _ _ _ ha hb).mono ?_;rintro e w' ⟨rfl,rfl⟩
  rw[HP.out]
  go_wp2_with fail
  go_ret2
  exact Zta HR.out (Below.refl _ _)
def mxsR (s t:Int):Option ByteArray:=if maxB s t=true then some (mxsT s.toNat t.toNat)else none
theorem Z1s {s t:Int} (h:maxB s t=false):mxsR s t=none:=by unfold mxsR;rw[h];rfl
theorem Zku {s t:Int} (h:maxB s t=true):mxsR s t=some (mxsT s.toNat t.toNat):=by unfold mxsR;rw[if_pos h]
theorem Zn5 {s t:Int} (h:maxB s t=true):∃S T:Nat,s=S∧t=T∧(2≤S∧S≤8)∧(1≤T∧T<2^S):=by
 have ht:tapB s t=true:=by unfold maxB at h;rw[Bool.and_eq_true]at h;exact h.1
 obtain⟨S,rfl,h1,h2⟩:=Zt0 ht
 obtain⟨T,rfl⟩:=Int.eq_ofNat_of_zero_le (show 0≤t by omega)
 exact⟨S,T,rfl,rfl,h1,by omega⟩
theorem Zwr (S T:Nat):allS bitC (mxsT S T)=true:=Zpv S T 1 _
theorem Zahd {s:ByteArray} (h1:1≤s.size) (h2:s.size≤255) (h3:allS bitC s=true):seqB s=true:=by
 unfold seqB;rw[Zd9 (by omega) h3,Zax (by omega) (by omega)];rfl
theorem Zvb {S T:Nat} (h:2≤S∧S≤8):seqB (mxsT S T)=true:=by
 have hp:=Zaw h.2
 have h4:2^2≤2^S:=Nat.pow_le_pow_right (by omega) h.1
 have hz:(mxsT S T).size=2^S-1:=by unfold mxsT;rw[Zaq,Zdf]
 exact Zahd (by rw[hz];omega) (by rw[hz];omega) (Zwr S T)
theorem Zpk {s:ByteArray} {K:Nat} (h:K≤s.size):(rotT s K).size=s.size:=by
 unfold rotT;rw[Zap,Zbc (Nat.le_refl _),Zbc h];omega
theorem Zun {s:ByteArray} (h:seqB s=true):allS bitC s=true:=by unfold seqB at h;rw[Bool.and_eq_true]at h;exact Zb5 h.1
theorem Zaim {s:ByteArray} {K:Nat} (h:seqB s=true) (hK:K≤s.size):seqB (rotT s K)=true:=by
 have:=Zbg h
 exact Zahd (by rw[Zpk hK];omega) (by rw[Zpk hK];omega) (Zwm K (Zun h))
theorem Zd8 (s t:Int) (w:World):Calls Tryz.prog 265 #[.int .i64 s,.int .i64 t] w (Zdx w (mxsR s t)):=by
 by_cases hm:maxB s t=true
 ·have HM:=Lib.hid hm
  have HR:=Lib.hid (Zku hm)
  obtain⟨S,T,rfl,rfl,h1,h2⟩:=Zn5 hm
  have hp:=Zaw h1.2
  have h4:2^2≤2^S:=Nat.pow_le_pow_right (by omega) h1.1
  have HV:=Lib.hid (Z8o (S:=S) (T:=T) (X:=1) h1 h2 (by omega))
  have HC:=Lib.hid (fun c=>(show Calls Tryz.prog 81 #[.agg #[.int .i64 S,.int .i64 T,.int .i64 1],.int .i64 ((2^S-1:Nat):Int)] c fun e w'=>e= .returned (.tuple #[.string (mxsT S T),.bool true])∧Below c.heap.size c w' from Zf9 S T 1 (2^S-1) c HV.out h1 h2.2 (by omega) (by omega)))
  have HI:=Lib.hid (Zlv S T)
  rw[show((S:Int)).toNat=S from rfl,show((T:Int)).toNat=T from rfl]at HR
  have hc1:=Zuq h1.2
  have hc2:=wrp2 h1.2
  have hd1:=iwrp1 hp
  have hd2:=wrp1 hp
  have HE:=Lib.hid (show((2^S:Nat):Int)-1=((2^S-1:Nat):Int)by omega)
  obtain⟨Q,hQ⟩:∃Q,2^S-1=Q:=⟨_,rfl⟩
  rw[hQ]at HC HE
  generalize 2^S=P at*
  clear hm hQ HV
  go_enter Tryz.func265,Tryz.ntmps265
  go_wp2_with fail
  refine(HI.out _).mono ?_;rintro e w1 ⟨rfl,hb1⟩
  rw[HM.out]
  go_wp2_with fail
  rw[HE.out]
  refine(HC.out _).mono ?_;rintro e w2 ⟨rfl,hb2⟩
  have hbz:=hb1.trans (hb2.mono hb1.size)
  go_wp2_with fail
  go_ret2
  exact Zbb HR.out hbz
 ·have hm':maxB s t=false:=by simpa using hm
  have HM:=Lib.hid hm'
  have HR:=Lib.hid (Z1s hm')
  clear hm hm'
  go_enter Tryz.func265,Tryz.ntmps265
  go_wp2_with fail
  refine(Zlv _ _ _).mono ?_;rintro e w1 ⟨rfl,hb1⟩
  rw[HM.out]
  go_wp2_with fail
  go_ret2
  exact Zag HR.out hb1
theorem Z1f (s:ByteArray) (k:Int) (w:World) (h:seqB s=true):Calls Tryz.prog 266 #[.string s,.int .i64 k] w fun e w'=>e= .returned (.tuple #[.string (rotT s (k%(s.size:Int)).toNat),.bool true])∧Qw w w':=by
 have hz:=Zbg h
 have h1:=Int.emod_nonneg k (show(s.size:Int)≠0 by omega)
 have h2:=Int.emod_lt_of_pos k (show(0:Int)<s.size by omega)
 have HM:=Lib.hid (fun c=>Zwf k (s.size:Int) c (by omega) (by omega))
 obtain⟨K,hK⟩:∃K:Nat,k%(s.size:Int)=K:=Int.eq_ofNat_of_zero_le h1
 rw[hK]at HM h2
 have HR:=Lib.hid (show rotT s ((K:Int)).toNat=s.extract K s.size++s.extract 0 K from rfl)
 rw[hK]
 have hKs:K<s.size:=by omega
 have x1:(s.extract K s.size).size=s.size-K:=Zbc (Nat.le_refl _)
 have x2:(s.extract 0 K).size=K:=by rw[Zbc (by omega)];omega
 have hle:K≤s.size:=by omega
 have n1:¬9223372036854775807<(s.extract K s.size).size+(s.extract 0 K).size:=by omega
 have n2:¬9223372036854775807<s.size-K+K:=by omega
 have HS:=Lib.hid h
 clear h1 hK h
 go_enter Tryz.func266,Tryz.ntmps266
 go_wp2_with fail
 refine(Zat _ _).mono ?_;rintro e w' ⟨rfl,rfl⟩
 rw[HS.out]
 go_wp2_with fail
 refine(HM.out _).mono ?_;rintro e w' ⟨rfl,rfl⟩
 go_wp2_with fail
 go_quiet (fail)
 go_wp2_with fail
 go_ret2
 exact⟨by rw[HR.out];rfl,Qw.drewN _ _⟩
theorem Zabd (a b:ByteArray) (w:World) (h:Zef a b=true):Calls Tryz.prog 267 #[.string a,.string b] w fun e w'=>e= .returned (.tuple #[.string (sumT a b),.bool true])∧Below w.heap.size w w':=by
 have HP:=Lib.hid h
 unfold Zef at h
 simp only[Bool.and_eq_true,decide_eq_true_eq]at h
 obtain⟨⟨h1,h2⟩,hab⟩:=h
 have z1:=Zbg h1
 have HA:=Lib.hid (fun c=>Zqh a b c (by omega) hab (Zun h1) (Zun h2))
 generalize sumT a b=S at*
 clear h1 h2 hab
 go_enter Tryz.func267,Tryz.ntmps267
 go_wp2_with fail
 refine(Zdo _ _ _).mono ?_;rintro e w' ⟨rfl,rfl⟩
 rw[HP.out]
 go_wp2_with fail
 refine(HA.out _).mono ?_;rintro e w1 ⟨rfl,hb1⟩
 go_wp2_with fail
 go_ret2
 exact⟨rfl,hb1⟩
theorem Zoi (S T:Nat) (w:World) (h1:2≤S∧S≤8) (h2:1≤T∧T<2^S):Calls Tryz.prog 246 #[.int .i64 S,.int .i64 T] w fun e w'=>e= .returned (.string (mxsT S T))∧Below w.heap.size w w':=by
 have hp:=Zaw h1.2
 have h4:2^2≤2^S:=Nat.pow_le_pow_right (by omega) h1.1
 have HC:=Lib.hid (fun c=>(show Calls Tryz.prog 155 #[.agg #[.int .i64 S,.int .i64 T,.int .i64 1],.int .i64 ((2^S-1:Nat):Int)] c fun e w'=>e= .returned (.string (mxsT S T))∧Below c.heap.size c w' from Zlg S T 1 (2^S-1) c h1 h2.2 (by omega) (by omega)))
 have HTW:=Lib.hid (show ∀w,Calls Tryz.prog 162 #[.int .i64 (S:Int)] w fun e w'=>e= .returned (.int .i64 ((2^S:Nat):Int))∧w=w' from fun w=>by
  have h:=Zdd (S:Int) w (by omega)
  have e:((2^S:Nat):Int)=(2:Int)^S:=by rw[Int.natCast_pow];rfl
  rw[e];exact h)
 have HE:=Lib.hid (show((2^S:Nat):Int)-1=((2^S-1:Nat):Int)by omega)
 obtain⟨Q,hQ⟩:∃Q,2^S-1=Q:=⟨_,rfl⟩
 rw[hQ]at HC HE
 generalize 2^S=P at*
 clear hQ
 go_enter Tryz.func246,Tryz.ntmps246
 go_wp2_with fail
 refine(HTW.out _).mono ?_;rintro e w' ⟨rfl,rfl⟩
 go_wp2_with fail
 rw[HE.out]
 refine(HC.out _).mono ?_;rintro e w2 ⟨rfl,hb2⟩
 go_wp2_with fail
 go_ret
 exact⟨rfl,hb2⟩
theorem Zaag {s a b k:Int} (h:Zil s a b k=true):∃S A B:Nat,s=S∧a=A∧b=B∧(2≤S∧S≤6)∧(1≤A∧A<2^S)∧(1≤B∧B<2^S)∧maxB s a=true∧maxB s b=true∧ -2≤k∧k≤((2^S:Nat):Int)-2:=by
 unfold Zil at h
 simp only[Bool.and_eq_true,decide_eq_true_eq]at h
 obtain⟨⟨⟨h1,h2⟩,h3⟩,h4⟩:=h
 obtain⟨S,A,rfl,rfl,g1,g2⟩:=Zn5 h2
 obtain⟨S',B,e,rfl,_,g3⟩:=Zn5 h3
 obtain rfl:S=S':=by omega
 have:=inB_iff.1 h4
 rw[show((S:Int)).toNat=S from rfl,show(2:Int)^S=((2^S:Nat):Int)by rw[Int.natCast_pow];rfl]at this
 exact⟨S,A,B,rfl,rfl,rfl,⟨g1.1,by omega⟩,g2,g3,h2,h3,this⟩
theorem gld_1 {s a b k:Int} (h:6<s):Zil s a b k=false:=by unfold Zil;rw[decide_eq_false (by omega)];rfl
theorem Zahb {S:Nat} {k:Int}:inB k (-2) ((2:Int)^((S:Int)).toNat-2)=inB k (-2) (((2^S:Nat):Int)-2):=by
 rw[show((S:Int)).toNat=S from rfl,show(2:Int)^S=((2^S:Nat):Int)by rw[Int.natCast_pow];rfl]
theorem Zag9 {S A B:Nat}:gldT S A B (-2)=mxsT S A:=rfl
theorem Zahk {S A B:Nat}:gldT S A B (-1)=mxsT S B:=rfl
theorem Zaho {S A B K:Nat}:gldT S A B K=sumT (mxsT S A) (rotT (mxsT S B) K):=by
 unfold gldT;rw[if_neg (by omega),if_neg (by omega)];rfl
theorem Zpc (S T:Nat):(mxsT S T).size=2^S-1:=by unfold mxsT;rw[Zaq,Zdf]
theorem Zad8 (S A B:Nat) (k:Int) (w:World) (h1:2≤S∧S≤6) (hk: -2≤k∧k≤((2^S:Nat):Int)-2) (ha:maxB S A=true) (hb:maxB S B=true):
 Calls Tryz.prog 207 #[.int .i64 S,.int .i64 A,.int .i64 B,.int .i64 k] w fun e w'=>e= .returned (.tuple #[.string (gldT S A B k),.bool true])∧Below w.heap.size w w':=by
 have hp:=Zaw (s:=S) (by omega)
 have hP4:2^2≤2^S:=Nat.pow_le_pow_right (by omega) h1.1
 have hsA:=Zvb (S:=S) (T:=A) (by omega)
 have hsB:=Zvb (S:=S) (T:=B) (by omega)
 have HA:=Lib.hid (fun c=>(show Calls Tryz.prog 265 #[.int .i64 S,.int .i64 A] c fun e w'=>e= .returned (.tuple #[.string (mxsT S A),.bool true])∧Below c.heap.size c w' by
  have h:=Zd8 S A c
  rw[Zku ha]at h
  exact h))
 have HB:=Lib.hid (fun c=>(show Calls Tryz.prog 265 #[.int .i64 S,.int .i64 B] c fun e w'=>e= .returned (.tuple #[.string (mxsT S B),.bool true])∧Below c.heap.size c w' by
  have h:=Zd8 S B c
  rw[Zku hb]at h
  exact h))
 have G1:=Lib.hid (Zag9 (S:=S) (A:=A) (B:=B))
 have G2:=Lib.hid (Zahk (S:=S) (A:=A) (B:=B))
 have G3:=Lib.hid (fun K=>Zaho (S:=S) (A:=A) (B:=B) (K:=K))
 have zA:=Zpc S A
 have zB:=Zpc S B
 have HSB:=Lib.hid (fun k c=>Z1f (mxsT S B) k c hsB)
 have HAD:=Lib.hid (fun K c (hK:K≤(mxsT S B).size)=>Zabd (mxsT S A) (rotT (mxsT S B) K) c (by
  unfold Zef
  rw[hsA,Zaim hsB hK,Zpk hK,zA,zB];simp))
 have hc1:=Zuq (s:=S) (by omega)
 have hc2:=wrp2 (s:=S) (by omega)
 have hS6:¬(6:Int)<(S:Int):=by omega
 generalize mxsT S A=TA at*
 generalize mxsT S B=TB at*
 generalize 2^S=P at*
 clear hsA hsB ha hb zA
 have hcase:k= -2∨k= -1∨∃K:Nat,k=K∧K<TB.size:=by
  by_cases e1:k= -2
  ·exact .inl e1
  ·by_cases e2:k= -1
   ·exact .inr (.inl e2)
   ·exact .inr (.inr ⟨k.toNat,by omega,by omega⟩)
 have HC:=Lib.hid hcase
 clear hcase
 rcases HC.out with rfl|rfl|⟨K,rfl,hK⟩
 ·go_enter Tryz.func207,Tryz.ntmps207
  go_wp2_with fail
  refine(HA.out _).mono ?_;rintro e w1 ⟨rfl,hb1⟩
  go_wp2_with fail
  refine(HB.out _).mono ?_;rintro e w2 ⟨rfl,hb2⟩
  have hbz:=hb1.trans (hb2.mono hb1.size)
  go_wp2_with fail
  go_ret2
  exact⟨by rw[G1.out];rfl,hbz⟩
 ·go_enter Tryz.func207,Tryz.ntmps207
  go_wp2_with fail
  refine(HA.out _).mono ?_;rintro e w1 ⟨rfl,hb1⟩
  go_wp2_with fail
  refine(HB.out _).mono ?_;rintro e w2 ⟨rfl,hb2⟩
  have hbz:=hb1.trans (hb2.mono hb1.size)
  go_wp2_with fail
  go_ret2
  exact⟨by rw[G2.out];rfl,hbz⟩
 ·have HM:=Lib.hid (show((K:Int)%(TB.size:Int)).toNat=K by rw[Int.emod_eq_of_lt (by omega) (by omega)];rfl)
  have n1:((K:Int)== -2)=false:=beq_eq_false_iff_ne.2 (by omega)
  have n2:((K:Int)== -1)=false:=beq_eq_false_iff_ne.2 (by omega)
  have HKL:=Lib.hid hK
  clear hK zB
  go_enter Tryz.func207,Tryz.ntmps207
  go_wp2_with fail
  refine(HA.out _).mono ?_;rintro e w1 ⟨rfl,hb1⟩
  go_wp2_with fail
  refine(HB.out _).mono ?_;rintro e w2 ⟨rfl,hb2⟩
  have hbz:=hb1.trans (hb2.mono hb1.size)
  go_wp2_with fail
  refine(HSB.out _ _).mono ?_;rintro e w3 ⟨rfl,hq3⟩
  rw[HM.out]
  have hbq:=hbz.trans ((hq3.below w2.heap.size).mono hbz.size)
  go_wp2_with fail
  refine(HAD.out K _ (Nat.le_of_lt HKL.out)).mono ?_;rintro e w4 ⟨rfl,hb4⟩
  have hbf:=hbq.trans (hb4.mono hbq.size)
  rw[←G3.out]
  go_wp2_with fail
  go_ret2
  exact⟨rfl,hbf⟩
theorem Zakb (s a b k:Int) (w:World) (h:Zil s a b k=false):
 Calls Tryz.prog 207 #[.int .i64 s,.int .i64 a,.int .i64 b,.int .i64 k] w fun e w'=>e= .returned (.tuple #[.string ⟨#[]⟩,.bool false])∧Below w.heap.size w w':=by
 by_cases hs:6<s
 ·clear h
  go_enter Tryz.func207,Tryz.ntmps207
  go_wp2_with fail
  go_ret2
  exact⟨rfl,Below.refl _ _⟩
 ·have HA:=Lib.hid (fun c=>Zd8 s a c)
  have HB:=Lib.hid (fun c=>Zd8 s b c)
  unfold Zdx at HA HB
  by_cases hma:maxB s a=true
  ·by_cases hmb:maxB s b=true
   ·obtain⟨S,A,rfl,rfl,g1,g2⟩:=Zn5 hma
    have hcase:k< -2∨(¬k< -2∧((2^S:Nat):Int)-2<k):=by
     unfold Zil at h
     rw[decide_eq_true (by omega),hma,hmb,Zahb]at h
     simp only[Bool.true_and]at h
     have h2:¬(-2≤k∧k≤((2^S:Nat):Int)-2):=fun e=>by rw[inB_iff.2 e]at h;cases h
     omega
    rw[Zku hma]at HA
    rw[Zku hmb]at HB
    simp only[Option.getD_some,Option.isSome_some]at HA HB
    have hp:=Zaw (s:=S) (by omega)
    have hc1:=Zuq (s:=S) (by omega)
    have hc2:=wrp2 (s:=S) (by omega)
    generalize mxsT ((S:Int)).toNat ((A:Int)).toNat=TA at*
    generalize mxsT ((S:Int)).toNat b.toNat=TB at*
    generalize 2^S=P at*
    have HC:=Lib.hid hcase
    clear hcase h hma hmb g2
    rcases HC.out with hk|⟨hk0,hk⟩
    ·go_enter Tryz.func207,Tryz.ntmps207
     go_wp2_with fail
     refine(HA.out _).mono ?_;rintro e w1 ⟨rfl,hb1⟩
     go_wp2_with fail
     refine(HB.out _).mono ?_;rintro e w2 ⟨rfl,hb2⟩
     have hbz:=hb1.trans (hb2.mono hb1.size)
     go_wp2_with fail
     go_ret2
     exact⟨rfl,hbz⟩
    ·go_enter Tryz.func207,Tryz.ntmps207
     go_wp2_with fail
     refine(HA.out _).mono ?_;rintro e w1 ⟨rfl,hb1⟩
     go_wp2_with fail
     refine(HB.out _).mono ?_;rintro e w2 ⟨rfl,hb2⟩
     have hbz:=hb1.trans (hb2.mono hb1.size)
     go_wp2_with fail
     go_ret2
     exact⟨rfl,hbz⟩
   ·have hmb':maxB s b=false:=by simpa using hmb
    rw[Zku hma]at HA
    rw[Z1s hmb']at HB
    simp only[Option.getD_some,Option.isSome_some,Option.getD_none,Option.isSome_none]at HA HB
    generalize mxsT s.toNat a.toNat=TA at*
    clear hma hmb hmb' h
    go_enter Tryz.func207,Tryz.ntmps207
    go_wp2_with fail
    refine(HA.out _).mono ?_;rintro e w1 ⟨rfl,hb1⟩
    go_wp2_with fail
    refine(HB.out _).mono ?_;rintro e w2 ⟨rfl,hb2⟩
    have hbz:=hb1.trans (hb2.mono hb1.size)
    go_wp2_with fail
    go_ret2
    exact⟨rfl,hbz⟩
  ·have hma':maxB s a=false:=by simpa using hma
   rw[Z1s hma']at HA
   simp only[Option.getD_none,Option.isSome_none]at HA
   obtain⟨TB,BB,HB⟩:∃TB BB,Hid (∀c,Calls Tryz.prog 265 #[.int .i64 s,.int .i64 b] c fun e w'=>e= .returned (.tuple #[.string TB,.bool BB])∧Below c.heap.size c w'):=⟨_,_,HB⟩
   clear hma hma' h
   go_enter Tryz.func207,Tryz.ntmps207
   go_wp2_with fail
   refine(HA.out _).mono ?_;rintro e w1 ⟨rfl,hb1⟩
   go_wp2_with fail
   refine(HB.out _).mono ?_;rintro e w2 ⟨rfl,hb2⟩
   have hbz:=hb1.trans (hb2.mono hb1.size)
   go_wp2_with fail
   go_ret2
   exact⟨rfl,hbz⟩
theorem Zth (s a b k:Int) (w:World):Calls Tryz.prog 207 #[.int .i64 s,.int .i64 a,.int .i64 b,.int .i64 k] w (Zdx w (Zgo s a b k)):=by
 by_cases h:Zil s a b k=true
 ·have hr:=Zy4 h
  obtain⟨S,A,B,rfl,rfl,rfl,h1,h2,h3,h4,h5,h6⟩:=Zaag h
  refine(Zad8 S A B k w h1 h6 h4 h5).mono ?_
  rintro e w' ⟨rfl,hb⟩
  exact Zbb hr hb
 ·have h':Zil s a b k=false:=by simpa using h
  refine(Zakb s a b k w h').mono ?_
  rintro e w' ⟨rfl,hb⟩
  exact Zag (Zit h') hb
theorem Zaez (s a b:Int) (w:World):Calls Tryz.prog 279 #[.int .i64 s,.int .i64 a,.int .i64 b] w fun e w'=>e= .returned (.bool (decide (s≤6)&&maxB s a&&maxB s b))∧Below w.heap.size w w':=by
 by_cases hs:s≤6
 ·cases hma:maxB s a with
  |false=>
   have HA:=Lib.hid hma
   clear hma
   have hd:decide (s≤6)=true:=decide_eq_true hs
   go_enter Tryz.func279,Tryz.ntmps279
   go_wp2_with fail
   refine(Zjm _ _ _).mono ?_;rintro e w1 ⟨rfl,hb1⟩
   rw[HA.out]
   go_wp2_with fail
   go_ret
   exact⟨Zav (by simp),hb1⟩
  |true=>
   have HA:=Lib.hid hma
   have hd:decide (s≤6)=true:=decide_eq_true hs
   obtain⟨mb,hmb⟩:∃mb,maxB s b=mb:=⟨_,rfl⟩
   have HB:=Lib.hid hmb
   rw[hmb]
   clear hma hmb
   go_enter Tryz.func279,Tryz.ntmps279
   go_wp2_with fail
   refine(Zjm _ _ _).mono ?_;rintro e w1 ⟨rfl,hb1⟩
   rw[HA.out]
   go_wp2_with fail
   refine(Zjm _ _ _).mono ?_;rintro e w2 ⟨rfl,hb2⟩
   rw[HB.out]
   have hbz:=hb1.trans (hb2.mono hb1.size)
   go_wp2_with fail
   go_ret
   exact⟨Zav (by simp[hs]),hbz⟩
 ·go_enter Tryz.func279,Tryz.ntmps279
  go_wp2_with fail
  go_ret
  exact⟨Zav (by rw[decide_eq_false (by omega)];rfl),Below.refl _ _⟩
theorem Z3e (S A B:Nat) (k:Int) (w:World) (h1:2≤S∧S≤6) (hA:1≤A∧A<2^S) (hB:1≤B∧B<2^S) (hk: -2≤k∧k≤((2^S:Nat):Int)-2):
 Calls Tryz.prog 176 #[.int .i64 S,.int .i64 A,.int .i64 B,.int .i64 k] w fun e w'=>e= .returned (.string (gldT S A B k))∧Below w.heap.size w w':=by
 have hp:=Zaw (s:=S) (by omega)
 have hsA:=Zvb (S:=S) (T:=A) (by omega)
 have hsB:=Zvb (S:=S) (T:=B) (by omega)
 have zB0:=Zbg hsB
 have HA:=Lib.hid (fun c=>Zoi S A c (by omega) hA)
 have HB:=Lib.hid (fun c=>Zoi S B c (by omega) hB)
 have G1:=Lib.hid (Zag9 (S:=S) (A:=A) (B:=B))
 have G2:=Lib.hid (Zahk (S:=S) (A:=A) (B:=B))
 have G3:=Lib.hid (fun K=>Zaho (S:=S) (A:=A) (B:=B) (K:=K))
 have zA:=Zpc S A
 have zB:=Zpc S B
 have HSB:=Lib.hid (fun k c=>Zxv (mxsT S B) k c (by omega) (by omega))
 have HAD:=Lib.hid (fun K c (hK:K≤(mxsT S B).size)=>Zuf (mxsT S A) (rotT (mxsT S B) K) c (by omega) (by rw[Zpk hK,zA,zB]) (Zwr S A) (Zwm K (Zwr S B)))
 generalize mxsT S A=TA at*
 generalize mxsT S B=TB at*
 generalize 2^S=P at*
 clear hsA hsB zA
 have hcase:k= -2∨k= -1∨∃K:Nat,k=K∧K<TB.size:=by
  by_cases e1:k= -2
  ·exact .inl e1
  ·by_cases e2:k= -1
   ·exact .inr (.inl e2)
   ·exact .inr (.inr ⟨k.toNat,by omega,by omega⟩)
 have HC:=Lib.hid hcase
 clear hcase
 rcases HC.out with rfl|rfl|⟨K,rfl,hK⟩
 ·go_enter Tryz.func176,Tryz.ntmps176
  go_wp2_with fail
  refine(HA.out _).mono ?_;rintro e w1 ⟨rfl,hb1⟩
  go_wp2_with fail
  go_ret
  exact⟨by rw[G1.out];rfl,hb1⟩
 ·go_enter Tryz.func176,Tryz.ntmps176
  go_wp2_with fail
  refine(HB.out _).mono ?_;rintro e w1 ⟨rfl,hb1⟩
  go_wp2_with fail
  go_ret
  exact⟨by rw[G2.out];rfl,hb1⟩
 ·have HM:=Lib.hid (show((K:Int)%(TB.size:Int)).toNat=K by rw[Int.emod_eq_of_lt (by omega) (by omega)];rfl)
  have n1:((K:Int)== -2)=false:=beq_eq_false_iff_ne.2 (by omega)
  have n2:((K:Int)== -1)=false:=beq_eq_false_iff_ne.2 (by omega)
  have HKL:=Lib.hid hK
  clear hK zB
  go_enter Tryz.func176,Tryz.ntmps176
  go_wp2_with fail
  refine(HA.out _).mono ?_;rintro e w1 ⟨rfl,hb1⟩
  go_wp2_with fail
  refine(HB.out _).mono ?_;rintro e w2 ⟨rfl,hb2⟩
  have hbz:=hb1.trans (hb2.mono hb1.size)
  go_wp2_with fail
  refine(HSB.out _ _).mono ?_;rintro e w3 ⟨rfl,hq3⟩
  rw[HM.out]
  have hbq:=hbz.trans ((hq3.below w2.heap.size).mono hbz.size)
  go_wp2_with fail
  refine(HAD.out K _ (Nat.le_of_lt HKL.out)).mono ?_;rintro e w4 ⟨rfl,hb4⟩
  have hbf:=hbq.trans (hb4.mono hbq.size)
  rw[←G3.out]
  go_wp2_with fail
  go_ret
  exact⟨rfl,hbf⟩
theorem Z0r (s a b k:Int) (w:World):Calls Tryz.prog 225 #[.int .i64 s,.int .i64 a,.int .i64 b,.int .i64 k] w (Zdx w (Zgo s a b k)):=by
 have HBO:=Lib.hid (Zaez s a b)
 cases hm:(decide (s≤6)&&maxB s a&&maxB s b)with
 |false=>
  have HR:=Lib.hid (Zit (s:=s) (a:=a) (b:=b) (k:=k) (by unfold Zil;rw[hm];rfl))
  rw[hm]at HBO
  clear hm
  go_enter Tryz.func225,Tryz.ntmps225
  go_wp2_with fail
  refine(HBO.out _).mono ?_;rintro e w1 ⟨rfl,hb1⟩
  go_wp2_with fail
  go_ret2
  exact Zag HR.out hb1
 |true=>
  rw[hm]at HBO
  have hm2:=hm
  simp only[Bool.and_eq_true,decide_eq_true_eq]at hm2
  obtain⟨⟨h1,h2⟩,h3⟩:=hm2
  obtain⟨S,A,rfl,rfl,g1,g2⟩:=Zn5 h2
  obtain⟨S',B,e,rfl,_,g3⟩:=Zn5 h3
  obtain rfl:S=S':=by omega
  have HGI:=Lib.hid (show Zil S A B k=inB k (-2) (((2^S:Nat):Int)-2)by unfold Zil;rw[hm,Zahb,Bool.true_and])
  have hp:=Zaw (s:=S) (by omega)
  cases hi:inB k (-2) (((2^S:Nat):Int)-2)with
  |false=>
   have HR:=Lib.hid (Zit (s:=S) (a:=A) (b:=B) (k:=k) (by rw[HGI.out,hi]))
   have HI:=Lib.hid hi
   have HTW:=Lib.hid (show ∀w,Calls Tryz.prog 162 #[.int .i64 (S:Int)] w fun e w'=>e= .returned (.int .i64 ((2^S:Nat):Int))∧w=w' from fun w=>by
    have h:=Zdd (S:Int) w (by omega)
    have e:((2^S:Nat):Int)=(2:Int)^S:=by rw[Int.natCast_pow];rfl
    rw[e];exact h)
   generalize 2^S=P at*
   clear hi hm h2 h3 e HGI g2 g3
   go_enter Tryz.func225,Tryz.ntmps225
   go_wp2_with fail
   refine(HBO.out _).mono ?_;rintro e w1 ⟨rfl,hb1⟩
   go_wp2_with fail
   refine(HTW.out _).mono ?_;rintro e w' ⟨rfl,rfl⟩
   go_wp2_with fail
   refine(Zbq _ _ _ _).mono ?_;rintro e w' ⟨rfl,rfl⟩
   rw[HI.out]
   go_wp2_with fail
   go_ret2
   exact Zag HR.out hb1
  |true=>
   have HR:=Lib.hid (Zy4 (s:=S) (a:=A) (b:=B) (k:=k) (by rw[HGI.out,hi]))
   have HI:=Lib.hid hi
   have HG:=Lib.hid (fun c=>Z3e S A B k c ⟨g1.1,by omega⟩ g2 g3 (inB_iff.1 hi))
   have HTW:=Lib.hid (show ∀w,Calls Tryz.prog 162 #[.int .i64 (S:Int)] w fun e w'=>e= .returned (.int .i64 ((2^S:Nat):Int))∧w=w' from fun w=>by
    have h:=Zdd (S:Int) w (by omega)
    have e:((2^S:Nat):Int)=(2:Int)^S:=by rw[Int.natCast_pow];rfl
    rw[e];exact h)
   generalize 2^S=P at*
   generalize gldT S A B k=G at*
   clear hi hm h2 h3 e HGI g2 g3
   go_enter Tryz.func225,Tryz.ntmps225
   go_wp2_with fail
   refine(HBO.out _).mono ?_;rintro e w1 ⟨rfl,hb1⟩
   go_wp2_with fail
   refine(HTW.out _).mono ?_;rintro e w' ⟨rfl,rfl⟩
   go_wp2_with fail
   refine(Zbq _ _ _ _).mono ?_;rintro e w' ⟨rfl,rfl⟩
   rw[HI.out]
   go_wp2_with fail
   refine(HG.out _).mono ?_;rintro e w2 ⟨rfl,hb2⟩
   have hbz:=hb1.trans (hb2.mono hb1.size)
   go_wp2_with fail
   go_ret2
   exact Zbb HR.out hbz
theorem Z31 (i n:Nat):(walL i n).length=n:=by simp[walL]
theorem Z4x {i n k:Nat} (h:k<(walL i n).length):(walL i n)[k]=((48+par (i &&& k):Nat):Int):=by simp[walL]
theorem Z77 {o i:Int} (h:Zlq o i=true):∃O I:Nat,o=O∧i=I∧O≤6∧I<2^O:=by
 unfold Zlq at h
 rw[Bool.and_eq_true]at h
 have h1:=inB_iff.1 h.1
 have h2:=inB_iff.1 h.2
 obtain⟨O,rfl⟩:=Int.eq_ofNat_of_zero_le h1.1
 obtain⟨I,rfl⟩:=Int.eq_ofNat_of_zero_le h2.1
 rw[show((O:Int)).toNat=O from rfl,show(2:Int)^O=((2^O:Nat):Int)by rw[Int.natCast_pow];rfl]at h2
 exact⟨O,I,rfl,rfl,by omega,by omega⟩
theorem Zah9 {o i:Int} (h:Zlq o i=false):o<0∨6<o∨∃O:Nat,o=O∧O≤6∧(i<0∨(0≤i∧((2^O:Nat):Int)≤i)):=by
 by_cases h1:0≤o∧o≤6
 ·obtain⟨O,rfl⟩:=Int.eq_ofNat_of_zero_le h1.1
  refine .inr (.inr ⟨O,rfl,by omega,?_⟩)
  unfold Zlq at h
  rw[inB_iff.2 h1,Bool.true_and,show((O:Int)).toNat=O from rfl,show(2:Int)^O=((2^O:Nat):Int)by rw[Int.natCast_pow];rfl]at h
  have h2:¬(0≤i∧i≤((2^O:Nat):Int)-1):=fun e=>by rw[inB_iff.2 e]at h;cases h
  omega
 ·omega
theorem Zabs (O I:Nat) (w:World) (hO:O≤6) (hI:I<2^O):Calls Tryz.prog 208 #[.int .i64 O,.int .i64 I] w fun e w'=>e= .returned (.tuple #[.string (text (walL I (2^O))),.bool true])∧Below w.heap.size w w':=by
 have hp:=Zaw (s:=O) (by omega)
 have hc1:=Zuq (s:=O) (by omega)
 have hc2:=wrp2 (s:=O) (by omega)
 generalize 2^O=P at*
 have HLL:=Lib.hid (Z31 I P)
 go_enter Tryz.func208,Tryz.ntmps208
 go_wp2_with (at_make;refine Zcd 22 5 1 (0:Int) Tryz.underlying22 Zct rfl (by decide) w rfl _ _ rfl .i64 .i64 P rfl rfl (by omega) ?_;intro w1 hown hb)
 have hF:=FillF.start hown HLL.out (by simp)
 clear hown
 go_wp2_with fail
 go_loopw [29] (fun i wr=>∃k:Nat,k≤P∧i= .int .i64 k∧Zmz wr w.heap.size w.heap.size P (walL I P) (List.replicate P 0) k∧Below w.heap.size w wr) (fun i _=>P-(intOf i).toNat)
 case atStart=>exact⟨0,Nat.zero_le _,rfl,hF,hb⟩
 case round=>
  clear hF hb
  obtain⟨k,hk,rfl,hF,hb⟩:=hrel
  by_cases hlt:k<P
  ·obtain⟨z,hc⟩:=hF.cell hlt
   have hf:=hF.free k
   have ha:=Zfd I k (by omega) (by omega)
   have hal:I &&& k≤I:=Nat.and_le_left
   have hq:=Zm4 (I &&& k)
   have HP:=Lib.hid (fun c=>Zva (I &&& k) c (by omega))
   have hst:=hF.step hlt (y:=.int .u8 ((48+par (I &&& k):Nat):Int)) (fun hl=>by rw[Z4x hl])
   have hb2:=hF.below hb (.int .u8 ((48+par (I &&& k):Nat):Int))
   generalize par (I &&& k)=q at*
   clear hF hb
   go_wp2_with fail
   refine(HP.out _).mono ?_;rintro e w' ⟨rfl,rfl⟩
   go_wp2_with fail
   refine(Zgy _ _ hq).mono ?_;rintro e w' ⟨rfl,rfl⟩
   go_wp2_with fail
   go_roundw
   case rel=>exact⟨k+1,by omega,by go_num,hst,hb2⟩
   case measure=>simp[intOf];omega
  ·obtain rfl:k=P:=by omega
   have hd0:=hF.done (Nat.le_refl _)
   obtain⟨a1,n1,c1,e1,ho⟩:=hd0.own (by rw[HLL.out];omega)
   cases e1
   have hrd:=ho.rd
   go_wp2_with (with_reducible refine Zca 22 5 9 Tryz.underlying22 Tryz.underlying5 Tryz.underlying9 _ rfl (.tmp 41) rfl rfl hrd ?_)
   go_ret2
   exact⟨rfl,hb⟩
theorem Zp5 (o i:Int) (w:World):Calls Tryz.prog 208 #[.int .i64 o,.int .i64 i] w (Zdx w (walR o i)):=by
 by_cases h:Zlq o i=true
 ·have hr:=Z3r h
  obtain⟨O,I,rfl,rfl,h1,h2⟩:=Z77 h
  refine(Zabs O I w h1 h2).mono ?_
  rintro e w' ⟨rfl,hb⟩
  exact Zbb hr hb
 ·have h':Zlq o i=false:=by simpa using h
  have HR:=Lib.hid (Zri h')
  have HC:=Lib.hid (Zah9 h')
  clear h h'
  rcases HC.out with h1|h1|⟨O,rfl,h1,h2|⟨h2,h3⟩⟩
  ·go_enter Tryz.func208,Tryz.ntmps208
   go_wp2_with fail
   go_ret2
   exact Zag HR.out (Below.refl _ _)
  ·go_enter Tryz.func208,Tryz.ntmps208
   go_wp2_with fail
   go_ret2
   exact Zag HR.out (Below.refl _ _)
  ·go_enter Tryz.func208,Tryz.ntmps208
   go_wp2_with fail
   go_ret2
   exact Zag HR.out (Below.refl _ _)
  ·have hc1:=Zuq (s:=O) (by omega)
   have hc2:=wrp2 (s:=O) (by omega)
   have hp:=Zaw (s:=O) (by omega)
   generalize 2^O=P at*
   go_enter Tryz.func208,Tryz.ntmps208
   go_wp2_with fail
   go_ret2
   exact Zag HR.out (Below.refl _ _)
theorem Zry (O I:Nat) (w:World) (hO:O≤6) (hI:I<2^O):Calls Tryz.prog 175 #[.int .i64 O,.int .i64 I] w fun e w'=>e= .returned (.string (text (walL I (2^O))))∧Below w.heap.size w w':=by
 have hp:=Zaw (s:=O) (by omega)
 have HTW:=Lib.hid (show ∀w,Calls Tryz.prog 162 #[.int .i64 (O:Int)] w fun e w'=>e= .returned (.int .i64 ((2^O:Nat):Int))∧w=w' from fun w=>by
  have h:=Zdd (O:Int) w (by omega)
  have e:((2^O:Nat):Int)=(2:Int)^O:=by rw[Int.natCast_pow];rfl
  rw[e];exact h)
 generalize 2^O=P at*
 have HLL:=Lib.hid (Z31 I P)
 go_enter Tryz.func175,Tryz.ntmps175
 go_wp2_with fail
 refine(HTW.out _).mono ?_;rintro e w' ⟨rfl,rfl⟩
 go_wp2_with (at_make;refine Zcd 22 5 1 (0:Int) Tryz.underlying22 Zct rfl (by decide) w rfl _ _ rfl .i64 .i64 P rfl rfl (by omega) ?_;intro w1 hown hb)
 have hF:=FillF.start hown HLL.out (by simp)
 clear hown
 go_wp2_with fail
 go_loopw [6] (fun i wr=>∃k:Nat,k≤P∧i= .int .i64 k∧Zmz wr w.heap.size w.heap.size P (walL I P) (List.replicate P 0) k∧Below w.heap.size w wr) (fun i _=>P-(intOf i).toNat)
 case atStart=>exact⟨0,Nat.zero_le _,rfl,hF,hb⟩
 case round=>
  clear hF hb
  obtain⟨k,hk,rfl,hF,hb⟩:=hrel
  by_cases hlt:k<P
  ·obtain⟨z,hc⟩:=hF.cell hlt
   have hf:=hF.free k
   have ha:=Zfd I k (by omega) (by omega)
   have hal:I &&& k≤I:=Nat.and_le_left
   have hq:=Zm4 (I &&& k)
   have HP:=Lib.hid (fun c=>Znm (I &&& k) c (by omega))
   have hst:=hF.step hlt (y:=.int .u8 (48+(par (I &&& k):Int))) (fun hl=>by rw[Z4x hl];rfl)
   have hb2:=hF.below hb (.int .u8 (48+(par (I &&& k):Int)))
   generalize par (I &&& k)=q at*
   clear hF hb
   go_wp2_with fail
   refine(HP.out _).mono ?_;rintro e w' ⟨rfl,rfl⟩
   go_wp2_with fail
   go_roundw
   case rel=>exact⟨k+1,by omega,by go_num,hst,hb2⟩
   case measure=>simp[intOf];omega
  ·obtain rfl:k=P:=by omega
   have hd0:=hF.done (Nat.le_refl _)
   obtain⟨a1,n1,c1,e1,ho⟩:=hd0.own (by rw[HLL.out];omega)
   cases e1
   have hrd:=ho.rd
   go_wp2_with (with_reducible refine Zca 22 5 9 Tryz.underlying22 Tryz.underlying5 Tryz.underlying9 _ rfl (.tmp 25) rfl rfl hrd ?_)
   go_ret
   exact⟨rfl,hb⟩
theorem Zxb (o i:Int) (w:World):Calls Tryz.prog 226 #[.int .i64 o,.int .i64 i] w (Zdx w (walR o i)):=by
 by_cases hO:inB o 0 6=true
 ·have h1:=inB_iff.1 hO
  obtain⟨O,rfl⟩:=Int.eq_ofNat_of_zero_le h1.1
  have HO:=Lib.hid hO
  have HW:=Lib.hid (show Zlq O i=inB i 0 (((2^O:Nat):Int)-1)by
   unfold Zlq
   rw[hO,Bool.true_and,show((O:Int)).toNat=O from rfl,show(2:Int)^O=((2^O:Nat):Int)by rw[Int.natCast_pow];rfl])
  have HTW:=Lib.hid (show ∀w,Calls Tryz.prog 162 #[.int .i64 (O:Int)] w fun e w'=>e= .returned (.int .i64 ((2^O:Nat):Int))∧w=w' from fun w=>by
   have h:=Zdd (O:Int) w (by omega)
   have e:((2^O:Nat):Int)=(2:Int)^O:=by rw[Int.natCast_pow];rfl
   rw[e];exact h)
  have hp:=Zaw (s:=O) (by omega)
  cases hi:inB i 0 (((2^O:Nat):Int)-1)with
  |false=>
   have HR:=Lib.hid (Zri (HW.out.trans hi))
   have HI:=Lib.hid hi
   generalize 2^O=P at*
   clear hi hO HW
   go_enter Tryz.func226,Tryz.ntmps226
   go_wp2_with fail
   refine(Zbq _ _ _ _).mono ?_;rintro e w' ⟨rfl,rfl⟩
   rw[HO.out]
   go_wp2_with fail
   refine(HTW.out _).mono ?_;rintro e w' ⟨rfl,rfl⟩
   go_wp2_with fail
   refine(Zbq _ _ _ _).mono ?_;rintro e w' ⟨rfl,rfl⟩
   rw[HI.out]
   go_wp2_with fail
   go_ret2
   exact Zag HR.out (Below.refl _ _)
  |true=>
   have HR:=Lib.hid (Z3r (HW.out.trans hi))
   have HI:=Lib.hid hi
   have h2:=inB_iff.1 hi
   obtain⟨I,rfl⟩:=Int.eq_ofNat_of_zero_le h2.1
   have HL:=Lib.hid (fun c=>Zry O I c (by omega) (by omega))
   rw[show((O:Int)).toNat=O from rfl,show((I:Int)).toNat=I from rfl]at HR
   generalize text (walL I (2^O))=T at*
   generalize 2^O=P at*
   clear hi hO HW
   go_enter Tryz.func226,Tryz.ntmps226
   go_wp2_with fail
   refine(Zbq _ _ _ _).mono ?_;rintro e w' ⟨rfl,rfl⟩
   rw[HO.out]
   go_wp2_with fail
   refine(HTW.out _).mono ?_;rintro e w' ⟨rfl,rfl⟩
   go_wp2_with fail
   refine(Zbq _ _ _ _).mono ?_;rintro e w' ⟨rfl,rfl⟩
   rw[HI.out]
   go_wp2_with fail
   refine(HL.out _).mono ?_;rintro e w1 ⟨rfl,hb1⟩
   go_wp2_with fail
   go_ret2
   exact Zbb HR.out hb1
 ·have hO':inB o 0 6=false:=by simpa using hO
  have HO:=Lib.hid hO'
  have HR:=Lib.hid (Zri (o:=o) (i:=i) (by unfold Zlq;rw[hO'];rfl))
  clear hO hO'
  go_enter Tryz.func226,Tryz.ntmps226
  go_wp2_with fail
  refine(Zbq _ _ _ _).mono ?_;rintro e w' ⟨rfl,rfl⟩
  rw[HO.out]
  go_wp2_with fail
  go_ret2
  exact Zag HR.out (Below.refl _ _)
theorem Z2v {a b:ByteArray} (h:Zef a b=true):crsL a b=crsF a b a.size:=by unfold crsL;rw[if_pos h]
theorem Z9h {a b:ByteArray} (h:Zef a b=false):crsL a b=[]:=by unfold crsL;rw[h];rfl
theorem Zab1 {a b:ByteArray} (h:Zef a b=true):1≤a.size∧a.size≤255∧a.size=b.size:=by
 unfold Zef at h
 simp only[Bool.and_eq_true,decide_eq_true_eq]at h
 have:=Zbg h.1.1
 exact⟨this.1,this.2,h.2⟩
theorem Zys (a b:ByteArray) (w:World):Calls Tryz.prog 264 #[.string a,.string b] w (Zdw w (crsL a b)):=by
 by_cases hp:Zef a b=true
 ·have HP:=Lib.hid hp
  have HR:=Lib.hid (Z2v hp)
  obtain⟨z1,z2,hab⟩:=Zab1 hp
  have HC:=Lib.hid (fun k c (hk:k<a.size)=>Znb a b k c (by omega) hab (by omega))
  have HAB:=Lib.hid hab
  clear hp hab
  go_enter Tryz.func264,Tryz.ntmps264
  go_wp2_with fail
  refine(Zdo _ _ _).mono ?_;rintro e w' ⟨rfl,rfl⟩
  rw[HP.out]
  go_wp2_with (at_make;refine Zf1 w rfl _ _ rfl .i64 .i64 a.size rfl rfl (by omega) ?_;intro w1 hown hb)
  have hF:=Fill.start (L:=crsF a b a.size) hown (by rw[Zmb]) (by simp)
  clear hown
  go_wp2_with fail
  go_loopw [16] (fun i wr=>∃k:Nat,k≤a.size∧i= .int .i64 k∧Fill wr w.heap.size w.heap.size a.size (crsF a b a.size) (List.replicate a.size 0) k∧Below w.heap.size w wr) (fun i _=>a.size-(intOf i).toNat)
  case atStart=>exact⟨0,Nat.zero_le _,rfl,hF,hb⟩
  case round=>
   clear hF hb
   obtain⟨k,hk,rfl,hF,hb⟩:=hrel
   by_cases hlt:k<a.size
   ·have HV:=Lib.hid (show(crsF a b a.size).getD k 0=corV a b k by simp[crsF,List.getD,hlt])
    go_wp2_with fail
    refine(HC.out k _ hlt).mono ?_;rintro e w2 ⟨rfl,hq⟩
    have hF2:=hF.alter (hq.below _)
    have hb2:=hb.trans ((hq.below wr.heap.size).mono hb.size)
    have hc:=hF2.cell hlt
    have hf:=hF2.free k
    have hst:=hF2.step hlt (y:=corV a b k) HV.out
    have hb3:=hF2.below hb2 (.int .i64 (corV a b k))
    clear hF hb hF2 hb2 hq
    go_wp2_with fail
    go_roundw
    case rel=>exact⟨k+1,by omega,by go_num,hst,hb3⟩
    case measure=>simp[intOf];omega
   ·obtain rfl:k=a.size:=by omega
    obtain⟨a1,n1,c1,e1,ho⟩:=(hF.done (Nat.le_refl _)).own (by rw[Zmb];omega)
    cases e1
    go_wp2_with fail
    go_ret
    exact⟨_,_,_,rfl,by rw[HR.out];exact ho,hb⟩
 ·have hp':Zef a b=false:=by simpa using hp
  have HP:=Lib.hid hp'
  have HR:=Lib.hid (Z9h hp')
  clear hp hp'
  go_enter Tryz.func264,Tryz.ntmps264
  go_wp2_with fail
  refine(Zdo _ _ _).mono ?_;rintro e w' ⟨rfl,rfl⟩
  rw[HP.out]
  go_wp2_with fail
  go_ret
  exact⟨none,0,0,rfl,by rw[HR.out];exact⟨rfl,by omega,World.ownsRow_nil _ _ _ _⟩,Below.refl _ _⟩
theorem Zt4 {l:List Int} {k:Nat} (h:bstN l k<0∨l.getD (bstN l k).toNat 0<l.getD k 0):bstN l (k+1)=k:=by
 show(if bstN l k<0∨l.getD (bstN l k).toNat 0<l.getD k 0 then(k:Int)else bstN l k)=_
 rw[if_pos h]
theorem Z7i {l:List Int} {k:Nat} (h:¬(bstN l k<0∨l.getD (bstN l k).toNat 0<l.getD k 0)):bstN l (k+1)=bstN l k:=by
 show(if bstN l k<0∨l.getD (bstN l k).toNat 0<l.getD k 0 then(k:Int)else bstN l k)=_
 rw[if_neg h]
theorem Zqo {ao:Option Addr} {n c:Nat} {l:List Int} {w:World} (h:Rd w ao n l):Calls Tryz.prog 263 #[.slice ao n c] w fun e w'=>e= .returned (.int .i64 (bstN l l.length))∧w=w':=by
 have hs:=h.2.1
 have HN:=Lib.hid h.1
 have HB:=Lib.hid (Zqc l)
 go_enter Tryz.func263,Tryz.ntmps263
 go_wp2_with fail
 go_loopw [3,8] (fun b i wr=>∃k:Nat,k≤n∧i= .int .i64 k∧b= .int .i64 (bstN l k)∧w=wr) (fun _ i _=>n-(intOf i).toNat)
 case atStart=>exact⟨0,Nat.zero_le _,rfl,rfl,rfl⟩
 case round=>
  obtain⟨k,hk,rfl,rfl,rfl⟩:=hrel
  obtain⟨b1,b2,b3⟩:=HB.out k
  by_cases hlt:k<n
  ·obtain⟨b,off,rfl,hl,hc⟩:=h.at hlt
   have hgk:l.getD k 0=l[k]:=by simp[List.getD,hl]
   by_cases hneg:bstN l k<0
   ·have HS:=Lib.hid (Zt4 (l:=l) (k:=k) (.inl hneg))
    generalize bstN l k=B at*
    generalize l[k]=x at*
    clear hgk
    go_wp2_with fail
    go_roundw
    case rel=>exact⟨k+1,by omega,by go_num,by rw[HS.out],trivial⟩
    case measure=>simp[intOf];omega
   ·obtain⟨B,hB⟩:=Int.eq_ofNat_of_zero_le (show 0≤bstN l k by omega)
    have hBn:B<n:=by omega
    obtain⟨b',off',e',hl',hc'⟩:=h.at hBn
    cases e'
    have hgB:l.getD B 0=l[B]:=by simp[List.getD,hl']
    by_cases hgt:l[B]<l[k]
    ·have HS:=Lib.hid (Zt4 (l:=l) (k:=k) (.inr (by rw[hB,Int.toNat_natCast,hgk,hgB];exact hgt)))
     rw[hB]
     clear hneg hgk hgB hB b1 b2 b3
     generalize l[k]=x at*
     generalize l[B]=y at*
     go_wp2_with fail
     go_roundw
     case rel=>exact⟨k+1,by omega,by go_num,by rw[HS.out],trivial⟩
     case measure=>simp[intOf];omega
    ·have HS:=Lib.hid ((Z7i (l:=l) (k:=k) (by rw[hB,Int.toNat_natCast,hgk,hgB];omega)).trans hB)
     rw[hB]
     clear hneg hgk hgB hB b1 b2 b3
     generalize l[k]=x at*
     generalize l[B]=y at*
     go_wp2_with fail
     go_roundw
     case rel=>exact⟨k+1,by omega,by go_num,by rw[HS.out],trivial⟩
     case measure=>simp[intOf];omega
  ·obtain rfl:k=n:=by omega
   have HE:=Lib.hid (show bstN l k=bstN l l.length by rw[←HN.out])
   generalize bstN l k=B at*
   go_wp2_with fail
   go_ret
   exact⟨Zd6 HE.out,rfl⟩
theorem Z3i (a b:ByteArray) (w:World):Calls Tryz.prog 205 #[.string a,.string b] w fun e w'=>e= .returned (.int .i64 (Zhz a b))∧Below w.heap.size w w':=by
 have HR:=Lib.hid (show Zhz a b=bstN (crsL a b) (crsL a b).length from rfl)
 have HC:=Lib.hid (fun c=>Zys a b c)
 unfold Zdw at HC
 generalize crsL a b=L at*
 go_enter Tryz.func205,Tryz.ntmps205
 go_wp2_with fail
 refine(HC.out _).mono ?_;rintro e w1 ⟨ao,n,c,rfl,ho,hb1⟩
 go_wp2_with fail
 refine(Zqo ho.rd).mono ?_;rintro e w' ⟨rfl,rfl⟩
 rw[←HR.out]
 go_wp2_with fail
 go_ret
 exact⟨rfl,hb1⟩
theorem Zvy (a b:ByteArray) (w:World) (ha:a.size≤1099511627776) (hbz:b.size≤1099511627776):Calls Tryz.prog 278 #[.string a,.string b] w (Zdw w (crsL a b)):=by
 have ho0:OwnV (w.alloc (.cells #[] 3)) w.heap.size (.slice (some ⟨w.heap.size,0,none⟩) 0 0) []:=OwnV.made0 w (Nat.le_refl _)
 have hb0:Below w.heap.size w (w.alloc (.cells #[] 3)):=(Below.refl _ _).alloc (Nat.le_refl _) _
 by_cases hp:Zef a b=true
 ·have HP:=Lib.hid hp
  have HR:=Lib.hid (Z2v hp)
  obtain⟨z1,z2,hab⟩:=Zab1 hp
  have HC:=Lib.hid (fun(k:Nat) c (hk:k<a.size)=>(show Calls Tryz.prog 277 #[.string a,.string b,.int .i64 k] c fun e w'=>e= .returned (.int .i64 (corV a b k))∧Below c.heap.size c w' by
   have h:=Zyp a b k c hp
   rw[show((k:Int)%(b.size:Int)).toNat=k by rw[Int.emod_eq_of_lt (by omega) (by omega)];rfl]at h
   exact h))
  clear hp hab
  go_enter Tryz.func278,Tryz.ntmps278
  go_wp2_with fail
  go_loopw [5,6] (fun v i wr=>∃k:Nat,k≤a.size∧i= .int .i64 k∧OwnV wr w.heap.size v (crsF a b k)∧Below w.heap.size w wr) (fun _ i _=>a.size-(intOf i).toNat)
  case atStart=>exact⟨0,Nat.zero_le _,rfl,ho0,hb0⟩
  case round=>
   clear ho0 hb0
   obtain⟨k,hk,rfl,ho,hb⟩:=hrel
   by_cases hlt:k<a.size
   ·have HS:=Lib.hid (Z8u a b k)
    have HLN:=Lib.hid (Zmb a b k)
    go_wp2_with fail
    refine(Zo4 _ _ _ ha hbz).mono ?_;rintro e w' ⟨rfl,rfl⟩
    rw[HP.out]
    go_wp2_with fail
    refine(HC.out k _ hlt).mono ?_;rintro e w2 ⟨rfl,hb2⟩
    have ho2:OwnV w2 w.heap.size _ _:=Zam ho hb2 fun j hj=>(ho.lt j hj).2
    have hb3:=hb.trans (hb2.mono hb.size)
    have hz3:=hb3.size
    clear ho hb hb2
    go_wp2_with (at_builtin;refine Zqp w2 rfl (.tmp 19) (.tmp 24) rfl w.heap.size _ (crsF a b k) (corV a b k) rfl ho2 rfl (by rw[HLN.out];omega) hz3 ?_;intro v' w3 ho3 _ hb4)
    have hb5:=hb3.trans hb4
    rw[←HS.out]at ho3
    clear ho2 hb3 hb4
    go_roundw
    case rel=>exact⟨k+1,by omega,by go_num,ho3,hb5⟩
    case measure=>simp[intOf];omega
   ·obtain rfl:k=a.size:=by omega
    obtain⟨a1,n1,c1,hv,ho1⟩:=ho.own (by rw[Zmb];omega)
    subst hv
    go_wp2_with fail
    go_ret
    exact⟨_,_,_,rfl,by rw[HR.out];exact ho1,hb⟩
 ·have hp':Zef a b=false:=by simpa using hp
  have HP:=Lib.hid hp'
  have HR:=Lib.hid (Z9h hp')
  clear hp hp'
  obtain⟨a1,n1,c1,hv,ho1⟩:=ho0.own (by simp)
  by_cases h0:0<a.size
  ·go_enter Tryz.func278,Tryz.ntmps278
   go_wp2_with fail
   refine wp_loop_rounds 1 ?_
   rw[rounds_succ]
   go_wp2_with fail
   refine(Zo4 _ _ _ ha hbz).mono ?_;rintro e w' ⟨rfl,rfl⟩
   rw[HP.out]
   go_wp2_with fail
   go_ret
   exact⟨_,_,_,rfl,by rw[HR.out];exact ho1,hb0⟩
  ·have h0':a.size=0:=by omega
   have hn0:¬(0:Int)<(a.size:Int):=by omega
   clear h0 h0'
   go_enter Tryz.func278,Tryz.ntmps278
   go_wp2_with fail
   refine wp_loop_rounds 1 ?_
   rw[rounds_succ]
   go_wp2_with fail
   go_ret
   exact⟨_,_,_,rfl,by rw[HR.out];exact ho1,hb0⟩
theorem Z8g (a b:ByteArray) (w:World) (ha:a.size≤1099511627776) (hbz:b.size≤1099511627776):Calls Tryz.prog 224 #[.string a,.string b] w fun e w'=>e= .returned (.int .i64 (Zhz a b))∧Below w.heap.size w w':=by
 have HR:=Lib.hid (show Zhz a b=bstN (crsL a b) (crsL a b).length from rfl)
 have HC:=Lib.hid (fun c=>Zvy a b c ha hbz)
 unfold Zdw at HC
 generalize crsL a b=l at*
 have HB:=Lib.hid (Zqc l)
 go_enter Tryz.func224,Tryz.ntmps224
 go_wp2_with fail
 refine(HC.out _).mono ?_;rintro e w1 ⟨ao,n,c,rfl,ho,hb1⟩
 have h:=ho.rd
 have hs:=h.2.1
 have HN:=Lib.hid h.1
 go_wp2_with fail
 go_loopw [6,7] (fun b i wr=>∃k:Nat,k≤n∧i= .int .i64 k∧b= .int .i64 (bstN l k)∧Qw w1 wr) (fun _ i _=>n-(intOf i).toNat)
 case atStart=>exact⟨0,Nat.zero_le _,rfl,rfl,Qw.refl _⟩
 case round=>
  obtain⟨k,hk,rfl,rfl,hq⟩:=hrel
  obtain⟨b1,b2,b3⟩:=HB.out k
  have h:=h.qw hq
  by_cases hlt:k<n
  ·obtain⟨b,off,rfl,hl,hc⟩:=h.at hlt
   have hgk:l.getD k 0=l[k]:=by simp[List.getD,hl]
   by_cases hneg:bstN l k<0
   ·have HS:=Lib.hid (Zt4 (l:=l) (k:=k) (.inl hneg))
    generalize bstN l k=B at*
    generalize l[k]=x at*
    clear hgk
    go_wp2_with fail
    go_quiet (fail)
    go_wp2_with fail
    go_roundw
    case rel=>exact⟨k+1,by omega,by go_num,by rw[HS.out],hq.trans (Qw.drewN _ _)⟩
    case measure=>simp[intOf];omega
   ·obtain⟨B,hB⟩:=Int.eq_ofNat_of_zero_le (show 0≤bstN l k by omega)
    have hBn:B<n:=by omega
    obtain⟨b',off',e',hl',hc'⟩:=h.at hBn
    cases e'
    have hgB:l.getD B 0=l[B]:=by simp[List.getD,hl']
    by_cases hgt:l[B]<l[k]
    ·have HS:=Lib.hid (Zt4 (l:=l) (k:=k) (.inr (by rw[hB,Int.toNat_natCast,hgk,hgB];exact hgt)))
     rw[hB]
     clear hneg hgk hgB hB b1 b2 b3
     generalize l[k]=x at*
     generalize l[B]=y at*
     have hd:decide (y<x)=true:=decide_eq_true hgt
     go_wp2_with fail
     go_quiet (fail)
     go_wp2_with fail
     go_roundw
     case rel=>exact⟨k+1,by omega,by go_num,by rw[HS.out],hq.trans (Qw.drewN _ _)⟩
     case measure=>simp[intOf];omega
    ·have HS:=Lib.hid ((Z7i (l:=l) (k:=k) (by rw[hB,Int.toNat_natCast,hgk,hgB];omega)).trans hB)
     rw[hB]
     clear hneg hgk hgB hB b1 b2 b3
     generalize l[k]=x at*
     generalize l[B]=y at*
     have hd:decide (y<x)=false:=decide_eq_false hgt
     go_wp2_with fail
     go_quiet (fail)
     go_wp2_with fail
     go_roundw
     case rel=>exact⟨k+1,by omega,by go_num,by rw[HS.out],hq.trans (Qw.drewN _ _)⟩
     case measure=>simp[intOf];omega
  ·obtain rfl:k=n:=by omega
   have HE:=Lib.hid (show bstN l k=Zhz a b by rw[HR.out,←HN.out])
   generalize bstN l k=B at*
   have hbz:=hb1.trans ((hq.below w1.heap.size).mono hb1.size)
   go_wp2_with fail
   go_ret
   exact⟨Zd6 HE.out,hbz⟩
end Go.Proofs.YtcjihfongfefoaaGreatDoor
