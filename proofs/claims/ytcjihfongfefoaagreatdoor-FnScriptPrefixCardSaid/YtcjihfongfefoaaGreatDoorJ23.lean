/- Ti Tk -/
import Derived.Test.YtcjihfongfefoaaGreatDoorJ10
import Derived.Test.YtcjihfongfefoaaGreatDoorShlf
namespace Go.Proofs.YtcjihfongfefoaaGreatDoor
open Go.RowKit
set_option maxHeartbeats 25600000
set_option maxRecDepth 100000
def dL (l:Byts):Byts:=Lib.trimPrefix l [45]
def ngB (l:Byts):Bool:=l.head?==some 45
theorem Z96 (d:Byts):dL (45::d)=d:=by simp[dL,Lib.trimPrefix,Lib.hasPrefix,List.isPrefixOf]
theorem Zahr {l:Byts} (h:l.head?≠some 45):dL l=l:=by
 unfold dL Lib.trimPrefix Lib.hasPrefix
 rw[if_neg]
 cases l with
 |nil=>simp[List.isPrefixOf]
 |cons b t=>
  simp only[List.head?_cons,ne_eq,Option.some.injEq]at h
  simp[List.isPrefixOf]
  exact fun e=>h e.symm
theorem Zvs (l:Byts):numL l=if Zsg (dL l)=true∧¬((dL l).head?=some 48∧l≠[48])then some (if ngB l=true then -(valD (dL l):Int)else(valD (dL l):Int))else none:=by
 by_cases h:l.head?=some 45
 ·obtain⟨d,rfl⟩:∃d,l=45::d:=by
   cases l with
   |nil=>cases h
   |cons b t=>simp only[List.head?_cons,Option.some.injEq]at h;exact⟨t,by rw[h]⟩
  rw[Z96]
  have e1:ngB (45::d)=true:=rfl
  have e2:(45::d:Byts)≠[48]:=by simp
  rw[e1]
  unfold numL
  simp only[ne_eq,e2,not_false_eq_true,and_true,if_true]
 ·have e1:ngB l=false:=by unfold ngB;rw[beq_eq_false_iff_ne];exact h
  rw[Z37 h,Zahr h,e1]
  have:(l.head?=some 48→l=[48])↔¬(l.head?=some 48∧l≠[48]):=by
   constructor
   ·exact fun h1 h2=>h2.2 (h1 h2.1)
   ·exact fun h1 h2=>Classical.byContradiction fun h3=>h1 ⟨h2,h3⟩
  simp only[this,Bool.false_eq_true,if_false]
def dgT (s:ByteArray):ByteArray:=txt (dL (bts s))
def valT (D:ByteArray) (k:Nat):Nat:=valD ((bts D).take k)
theorem Zaki {D:ByteArray} {k:Nat} (h:k<D.size):(bts D)[k]'h=D[k]:=rfl
theorem Zrz {D:ByteArray} {k:Nat} (h:k<D.size):valT D (k+1)=10*valT D k+(D[k].toNat-48):=by
 unfold valT;rw[List.take_succ_eq_append_getElem (by exact h),Zj2];rfl
def dgsT (D:ByteArray) (k:Nat):Bool:=((bts D).take k).all digC
theorem Zrj {D:ByteArray} {k:Nat} (h:k<D.size) (h1:dgsT D k=true) (h2:digC D[k]=true):dgsT D (k+1)=true:=by
 unfold dgsT at*;rw[List.take_succ_eq_append_getElem (by exact h),List.all_append,h1];simp[Zaki h,h2]
theorem Zz0 {D:ByteArray} {k:Nat} (h:dgsT D k=true) (hk:k≤16):valT D k<10000000000000000:=by
 have:=Z0c _ h
 have h2:10^((bts D).take k).length≤10^16:=Nat.pow_le_pow_right (by decide) (by rw[List.length_take];omega)
 have:(10:Nat)^16=10000000000000000:=by decide
 unfold valT;omega
theorem Zro {D:ByteArray} (h:dgsT D D.size=true) (h17:D.size≤17):valT D D.size<100000000000000000:=by
 have:=Z0c _ h
 have h2:10^((bts D).take D.size).length≤10^17:=Nat.pow_le_pow_right (by decide) (by rw[List.length_take,Zbz];omega)
 have:(10:Nat)^17=100000000000000000:=by decide
 unfold valT;omega
theorem Zadk (D:ByteArray):valT D D.size=valD (bts D):=by unfold valT;rw[List.take_of_length_le (by rw[Zbz];exact Nat.le_refl _)]
theorem Zxg {s:ByteArray} (h:¬(1≤(dgT s).size∧(dgT s).size≤17)):numT s=none:=by
 unfold numT
 rw[Zvs,if_neg]
 intro hc
 obtain⟨a,b,_⟩:=Zg2 hc.1
 exact h ⟨a,b⟩
theorem Z46 {s:ByteArray} (h1:0<(dgT s).size) (h2:(dgT s)[0].toNat=48) (h3:bts s≠[48]):numT s=none:=by
 unfold numT
 rw[Zvs,if_neg]
 intro hc
 refine hc.2 ⟨?_,h3⟩
 have:(dL (bts s))=bts (dgT s):=rfl
 rw[this,List.head?_eq_getElem?,List.getElem?_eq_getElem (by exact h1)]
 congr 1
 exact UInt8.toNat_inj.1 h2
theorem Zabl {s:ByteArray} {k:Nat} (h1:k<(dgT s).size) (h2:digC (dgT s)[k]=false):numT s=none:=by
 unfold numT
 rw[Zvs,if_neg]
 intro hc
 obtain⟨_,_,c⟩:=Zg2 hc.1
 have:=List.all_eq_true.1 c (dgT s)[k] (List.getElem_mem (l:=bts (dgT s)) h1)
 rw[h2]at this;cases this
theorem Z34 {s:ByteArray} (h0:1≤(dgT s).size∧(dgT s).size≤17) (h1:(∀h:0<(dgT s).size,(dgT s)[0]'h≠48)∨bts s=[48]) (h2:dgsT (dgT s) (dgT s).size=true):
 numT s=some (if ngB (bts s)=true then -(valT (dgT s) (dgT s).size:Int)else(valT (dgT s) (dgT s).size:Int)):=by
 unfold numT
 have e:dL (bts s)=bts (dgT s):=rfl
 have e2:(bts (dgT s)).take (dgT s).size=bts (dgT s):=List.take_of_length_le (by rw[Zbz];exact Nat.le_refl _)
 rw[Zvs,Zadk,e,if_pos]
 refine⟨Zvk h0.1 h0.2 (by unfold dgsT at h2;rw[e2]at h2;exact h2),fun hc=>?_⟩
 rcases h1 with h1|h1
 ·rw[List.head?_eq_getElem?,List.getElem?_eq_getElem (by rw[Zbz];omega)]at hc
  exact h1 (by omega) (Option.some.inj hc.1)
 ·exact hc.2 h1
theorem Zahn {s:ByteArray} (h:ngB (bts s)=true):s.size=(dgT s).size+1∧0<s.size:=by
 unfold ngB at h
 rw[beq_iff_eq]at h
 obtain⟨d,hd⟩:∃d,bts s=45::d:=by
  cases hb:bts s with
  |nil=>rw[hb]at h;cases h
  |cons b t=>rw[hb]at h;simp only[List.head?_cons,Option.some.injEq]at h;exact⟨t,by rw[h]⟩
 have e:(dgT s).size=d.length:=by unfold dgT;rw[hd,Z96,Zfi]
 have e2:s.size=d.length+1:=by rw[←Zbz,hd];rfl
 omega
theorem Zahp {s:ByteArray} (h:ngB (bts s)=false):dgT s=s:=by
 unfold ngB at h
 rw[beq_eq_false_iff_ne]at h
 unfold dgT;rw[Zahr h,Zlw]
def Z29 (r:Option Int) (w:World) (e:Ending) (w':World):Prop:=e= .returned (.tuple #[.int .i64 (r.getD 0),.bool r.isSome])∧w=w'
theorem Zbt {r:Option Int} {w:World} (h:r=none):Z29 r w (.returned (.tuple #[.int .i64 0,.bool false])) w:=by subst h;exact⟨rfl,rfl⟩
theorem Zix {r:Option Int} {w:World} {n:Int} (h:r=some n):Z29 r w (.returned (.tuple #[.int .i64 n,.bool true])) w:=by subst h;exact⟨rfl,rfl⟩
theorem Zbl (s:ByteArray) (w:World) (_hs:s.size≤1099511627776):Calls Tryz.prog 259 #[.string s] w (Z29 (numT s) w):=by
 have HDD:=Lib.hid (show(⟨(Lib.trimPrefix s.data.toList (⟨#[45]⟩:ByteArray).data.toList).toArray⟩:ByteArray)=dgT s from rfl)
 have hsh:=Lib.hid (Zxg (s:=s))
 have hze:=Lib.hid (Z46 (s:=s))
 have hba:=Lib.hid (fun k (h:k<(dgT s).size) (h2:digC (dgT s)[k]=false)=>Zabl h h2)
 have hgo:=Lib.hid (Z34 (s:=s))
 have hne:=Lib.hid (Zahn (s:=s))
 have hpo:=Lib.hid (Zahp (s:=s))
 generalize dgT s=D at*
 by_cases h1:(D.size:Int)<1
 ·have hr:=Lib.hid (hsh.out (by omega))
  go_enter Tryz.func259,Tryz.ntmps259
  go_wp2_with fail
  refine(Tryz.strings_TrimPrefix s (⟨#[45]⟩:ByteArray) _).mono ?_;rintro e w' ⟨rfl,rfl⟩
  rw[HDD.out]
  go_wp2_with fail
  go_ret2
  exact Zbt hr.out
 ·by_cases h2:(17:Int)<(D.size:Int)
  ·have hr:=Lib.hid (hsh.out (by omega))
   go_enter Tryz.func259,Tryz.ntmps259
   go_wp2_with fail
   refine(Tryz.strings_TrimPrefix s (⟨#[45]⟩:ByteArray) _).mono ?_;rintro e w' ⟨rfl,rfl⟩
   rw[HDD.out]
   go_wp2_with fail
   go_ret2
   exact Zbt hr.out
  ·have hD0:0<D.size:=by omega
   have hD17:D.size≤17:=by omega
   by_cases hz:D[0].toNat=48∧bts s≠[48]
   ·have hr:=Lib.hid (hze.out hD0 hz.1 hz.2)
    have c0:((D[0].toNat:Int)==48)=true:=by rw[beq_iff_eq];omega
    have c1:=Zou hz.2
    have c2:(s.toList != [48])=true:=by rw[bne,c1];rfl
    clear hz
    go_enter Tryz.func259,Tryz.ntmps259
    go_wp2_with fail
    refine(Tryz.strings_TrimPrefix s (⟨#[45]⟩:ByteArray) _).mono ?_;rintro e w' ⟨rfl,rfl⟩
    rw[HDD.out]
    go_wp2_with fail
    go_ret2
    exact Zbt hr.out
   ·have HZ:=Lib.hid (show(∀h:0<D.size,D[0]'h≠48)∨bts s=[48]by
     by_cases e:bts s=[48]
     ·exact .inr e
     ·exact .inl fun _ e2=>hz ⟨by rw[e2];rfl,e⟩)
    have hcs:((D[0].toNat:Int)==48)=false∨(((D[0].toNat:Int)==48)=true∧(s.toList==[48])=true∧(s.toList != [48])=false):=by
     by_cases e:D[0].toNat=48
     ·have e2:bts s=[48]:=Classical.byContradiction fun h=>hz ⟨e,h⟩
      exact .inr ⟨by rw[beq_iff_eq];omega,Zu6 e2,by rw[bne,Zu6 e2];rfl⟩
     ·exact .inl (by rw[beq_eq_false_iff_ne];omega)
    clear hz
    rcases hcs with c0|⟨c0,c1,c2⟩
    all_goals
     go_enter Tryz.func259,Tryz.ntmps259
     go_wp2_with fail
     refine(Tryz.strings_TrimPrefix s (⟨#[45]⟩:ByteArray) _).mono ?_;rintro e w' ⟨rfl,rfl⟩
     rw[HDD.out]
     go_wp2_with fail
     clear c0
     go_loop [5,26] (fun n i=>∃k:Nat,k≤D.size∧i= .int .i64 k∧n= .int .i64 (valT D k)∧Hid (dgsT D k=true)) (fun _ i=>D.size-(intOf i).toNat)
     case atStart=>exact⟨0,Nat.zero_le _,rfl,rfl,Lib.hid rfl⟩
     case round=>
      obtain⟨k,hk,rfl,rfl,HK⟩:=hrel
      by_cases hlt:k<D.size
      ·have hv:=Zz0 HK.out (by omega)
       have HS:=Lib.hid (Zrz hlt)
       have HB:=Lib.hid (hba.out k hlt)
       have HN:=Lib.hid (Zrj hlt HK.out)
       obtain⟨c,hc⟩:∃c,c=D[k].toNat:=⟨_,rfl⟩
       have HC:=Lib.hid (show digC D[k]=(decide (48≤c)&&decide (c≤57))by rw[hc];rfl)
       have hcI:(D[k].toNat:Int)=(c:Int):=by rw[hc]
       rw[←hc]at HS
       clear hc
       generalize valT D k=N at*
       by_cases ha:c<48
       ·have hr:=Lib.hid (HB.out (by rw[HC.out,decide_eq_false (by omega)];rfl))
        have ha':(c:Int)<48:=by omega
        go_wp2_with fail
        go_ret2
        exact Zbt hr.out
       ·by_cases hb:57<c
        ·have hr:=Lib.hid (HB.out (by rw[HC.out,decide_eq_false (show ¬c≤57 by omega),Bool.and_false]))
         have ha':¬(c:Int)<48:=by omega
         have hb':(57:Int)<(c:Int):=by omega
         go_wp2_with fail
         go_ret2
         exact Zbt hr.out
        ·have HG:=Lib.hid (HN.out (by rw[HC.out,decide_eq_true (by omega),decide_eq_true (by omega)];rfl))
         have ha':¬(c:Int)<48:=by omega
         have hb':¬(57:Int)<(c:Int):=by omega
         go_wp2_with fail
         go_round
         case rel=>exact⟨k+1,by omega,by go_num,by rw[HS.out];go_num,HG⟩
         case measure=>simp[intOf];omega
      ·obtain rfl:k=D.size:=by omega
       have HR:=Lib.hid (hgo.out ⟨by omega,by omega⟩ HZ.out HK.out)
       have hv:=Zro HK.out hD17
       generalize valT D D.size=N at*
       by_cases hn:ngB (bts s)=true
       ·have hsz:=(hne.out hn).1
        have hlt2:(D.size:Int)<(s.size:Int):=by omega
        have HR2:=Lib.hid (HR.out.trans (by rw[if_pos hn]))
        clear hn hsz
        go_wp2_with fail
        go_ret2
        exact Zix HR2.out
       ·have hn':ngB (bts s)=false:=by simpa using hn
        have hsz:¬(D.size:Int)<(s.size:Int):=by rw[hpo.out hn'];omega
        have HR2:=Lib.hid (HR.out.trans (by rw[if_neg hn]))
        clear hn hn'
        go_wp2_with fail
        go_ret2
        exact Zix HR2.out
theorem dg_ext {s:ByteArray} (h:ngB (bts s)=true):dgT s=s.extract 1 s.size:=by
 unfold ngB at h
 rw[beq_iff_eq]at h
 obtain⟨d,hd⟩:∃d,bts s=45::d:=by
  cases hb:bts s with
  |nil=>rw[hb]at h;cases h
  |cons b t=>rw[hb]at h;simp only[List.head?_cons,Option.some.injEq]at h;exact⟨t,by rw[h]⟩
 apply Zae
 unfold dgT
 rw[Zbv,hd,Z96]
 have:bts (s.extract 1 s.size)=(bts s).drop 1:=Lib.extract_to_end s 1
 rw[this,hd];rfl
theorem Zagl {s:ByteArray} (h0:s.size=1) (h1:s[0].toNat=48):bts s=[48]:=by
 have hl:(bts s).length=1:=h0
 obtain⟨b,hb⟩:=List.length_eq_one_iff.1 hl
 have:(bts s)[0]'(by omega)=s[0]:=rfl
 rw[hb]
 congr 1
 rw[←UInt8.toNat_inj,←show s[0]=b by rw[←this];simp[hb]];exact h1
theorem Zlk (s:ByteArray) (w:World) (hs:s.size≤1099511627776):Calls Tryz.prog 216 #[.string s] w (Z29 (numT s) w):=by
 have hsh:=Lib.hid (Zxg (s:=s))
 have hze:=Lib.hid (Z46 (s:=s))
 have hba:=Lib.hid (fun k (h:k<(dgT s).size) (h2:digC (dgT s)[k]=false)=>Zabl h h2)
 have hgo:=Lib.hid (Z34 (s:=s))
 have hne:=Lib.hid (Zahn (s:=s))
 have hpo:=Lib.hid (Zahp (s:=s))
 have hex:=Lib.hid (dg_ext (s:=s))
 generalize dgT s=D at*
 by_cases hn:ngB (bts s)=true
 ·have hE:s.extract 1 s.size=D:=(hex.out hn).symm
  obtain⟨hsz,hs0⟩:=hne.out hn
  have hg:(0:Int)<(s.size:Int):=by omega
  have c45:((s[0].toNat:Int)==45)=true:=by
   have h:=hn
   unfold ngB at h
   rw[beq_iff_eq,List.head?_eq_getElem?,List.getElem?_eq_getElem (by exact hs0)]at h
   have h2:s[0]=45:=Option.some.inj h
   rw[h2];rfl
  have hx:1≤s.size:=by omega
  have HN:=Lib.hid hn
  have hX0:D.size≤s.size:=by omega
  clear hex hpo hne hn hsz
  have hXz:D.size≤1099511627776:=by omega
  by_cases h1:D.size<1
  ·have hr:=Lib.hid (hsh.out (by omega))
   have hg2:((D.size:Int)==0)=true:=by rw[beq_iff_eq];omega
   go_enter Tryz.func216,Tryz.ntmps216
   go_wp2_with fail
   go_ret2
   exact Zbt hr.out
  ·have hg2:((D.size:Int)==0)=false:=by rw[beq_eq_false_iff_ne];omega
   by_cases h2:(17:Int)<(D.size:Int)
   ·have hr:=Lib.hid (hsh.out (by omega))
    go_enter Tryz.func216,Tryz.ntmps216
    go_wp2_with fail
    go_ret2
    exact Zbt hr.out
   ·have hD0:0<D.size:=by omega
    have hD17:D.size≤17:=by omega
    have hb48:bts s≠[48]:=fun e=>by have h:=HN.out;rw[e]at h;exact absurd h (by decide)
    by_cases hz:D[0].toNat=48
    ·have hr:=Lib.hid (hze.out hD0 hz hb48)
     have c0:((D[0].toNat:Int)==48)=true:=by rw[beq_iff_eq];omega
     clear hz
     by_cases hl1:(1:Int)<(D.size:Int)
     all_goals
      go_enter Tryz.func216,Tryz.ntmps216
      go_wp2_with fail
      go_ret2
      exact Zbt hr.out
    ·have HZ:=Lib.hid (show(∀h:0<D.size,D[0]'h≠48)∨bts s=[48]from .inl fun _ e2=>hz (by rw[e2];rfl))
     have c0:((D[0].toNat:Int)==48)=false:=by rw[beq_eq_false_iff_ne];omega
     clear hz
     go_enter Tryz.func216,Tryz.ntmps216
     go_wp2_with fail
     clear c0
     go_loop [5,6] (fun n i=>∃k:Nat,k≤D.size∧i= .int .i64 k∧n= .int .i64 (valT D k)∧Hid (dgsT D k=true)) (fun _ i=>D.size-(intOf i).toNat)
     case atStart=>exact⟨0,Nat.zero_le _,rfl,rfl,Lib.hid rfl⟩
     case round=>
      obtain⟨k,hk,rfl,rfl,HK⟩:=hrel
      by_cases hlt:k<D.size
      ·have hv:=Zz0 HK.out (by omega)
       have HS:=Lib.hid (Zrz hlt)
       have HB:=Lib.hid (hba.out k hlt)
       have HNX:=Lib.hid (Zrj hlt HK.out)
       obtain⟨c,hc⟩:∃c,c=(D[k]'hlt).toNat:=⟨_,rfl⟩
       have HC:=Lib.hid (show digC (D[k]'hlt)=(decide (48≤c)&&decide (c≤57))by rw[hc];rfl)
       have hcI:((D[k]'hlt).toNat:Int)=(c:Int):=by rw[hc]
       rw[←hc]at HS
       clear hc
       generalize valT D k=N at*
       by_cases ha:c<48
       ·have hr:=Lib.hid (HB.out (by rw[HC.out,decide_eq_false (by omega)];rfl))
        have ha':(c:Int)<48:=by omega
        go_wp2_with fail
        go_ret2
        exact Zbt hr.out
       ·by_cases hb:57<c
        ·have hr:=Lib.hid (HB.out (by rw[HC.out,decide_eq_false (show ¬c≤57 by omega),Bool.and_false]))
         have ha':¬(c:Int)<48:=by omega
         have hb':(57:Int)<(c:Int):=by omega
         go_wp2_with fail
         go_ret2
         exact Zbt hr.out
        ·have HG:=Lib.hid (HNX.out (by rw[HC.out,decide_eq_true (by omega),decide_eq_true (by omega)];rfl))
         have ha':¬(c:Int)<48:=by omega
         have hb':¬(57:Int)<(c:Int):=by omega
         go_wp2_with fail
         go_round
         case rel=>exact⟨k+1,by omega,by go_num,by rw[HS.out];go_num,HG⟩
         case measure=>simp[intOf];omega
      ·obtain rfl:k=D.size:=by omega
       have HR:=Lib.hid (hgo.out ⟨by omega,by omega⟩ HZ.out HK.out)
       have hv:=Zro HK.out hD17
       generalize valT D D.size=N at*
       have HR2:=Lib.hid (HR.out.trans (by rw[if_pos HN.out]))
       go_wp2_with fail
       go_ret2
       exact Zix HR2.out
 ·have hn':ngB (bts s)=false:=by simpa using hn
  obtain rfl:=hpo.out hn'
  by_cases hs0:0<D.size
  ·have hg:(0:Int)<(D.size:Int):=by omega
   have c45:((D[0].toNat:Int)==45)=false:=by
    rw[beq_eq_false_iff_ne]
    intro e
    unfold ngB at hn'
    rw[beq_eq_false_iff_ne]at hn'
    apply hn'
    rw[List.head?_eq_getElem?,List.getElem?_eq_getElem (by exact hs0)]
    congr 1
    exact UInt8.toNat_inj.1 (by show D[0].toNat=45;omega)
   have HN:=Lib.hid hn'
   clear hex hpo hne hn hn'
   have hXz:D.size≤1099511627776:=by omega
   by_cases h1:D.size<1
   ·have hr:=Lib.hid (hsh.out (by omega))
    have hg2:((D.size:Int)==0)=true:=by rw[beq_iff_eq];omega
    go_enter Tryz.func216,Tryz.ntmps216
    go_wp2_with fail
    go_ret2
    exact Zbt hr.out
   ·have hg2:((D.size:Int)==0)=false:=by rw[beq_eq_false_iff_ne];omega
    by_cases h2:(17:Int)<(D.size:Int)
    ·have hr:=Lib.hid (hsh.out (by omega))
     go_enter Tryz.func216,Tryz.ntmps216
     go_wp2_with fail
     go_ret2
     exact Zbt hr.out
    ·have hD0:0<D.size:=by omega
     have hD17:D.size≤17:=by omega
     by_cases hz:D[0].toNat=48∧1<D.size
     ·have hr:=Lib.hid (hze.out hD0 hz.1 (fun e=>by have:=congrArg List.length e;rw[Zbz]at this;simp at this;omega))
      have c0:((D[0].toNat:Int)==48)=true:=by rw[beq_iff_eq];omega
      have c1:(1:Int)<(D.size:Int):=by omega
      clear hz
      go_enter Tryz.func216,Tryz.ntmps216
      go_wp2_with fail
      go_ret2
      exact Zbt hr.out
     ·have HZ:=Lib.hid (show(∀h:0<D.size,D[0]'h≠48)∨bts D=[48]by
       by_cases e:D[0].toNat=48
       ·exact .inr (Zagl (by omega) e)
       ·exact .inl fun _ e2=>e (by rw[e2];rfl))
      have hcs:((D[0].toNat:Int)==48)=false∨(((D[0].toNat:Int)==48)=true∧¬(1:Int)<(D.size:Int)):=by
       by_cases e:D[0].toNat=48
       ·exact .inr ⟨by rw[beq_iff_eq];omega,by omega⟩
       ·exact .inl (by rw[beq_eq_false_iff_ne];omega)
      clear hz
      rcases hcs with c0|⟨c0,c1⟩
      all_goals
       go_enter Tryz.func216,Tryz.ntmps216
       go_wp2_with fail
       clear c0
       go_loop [5,6] (fun n i=>∃k:Nat,k≤D.size∧i= .int .i64 k∧n= .int .i64 (valT D k)∧Hid (dgsT D k=true)) (fun _ i=>D.size-(intOf i).toNat)
       case atStart=>exact⟨0,Nat.zero_le _,rfl,rfl,Lib.hid rfl⟩
       case round=>
        obtain⟨k,hk,rfl,rfl,HK⟩:=hrel
        by_cases hlt:k<D.size
        ·have hv:=Zz0 HK.out (by omega)
         have HS:=Lib.hid (Zrz hlt)
         have HB:=Lib.hid (hba.out k hlt)
         have HNX:=Lib.hid (Zrj hlt HK.out)
         obtain⟨c,hc⟩:∃c,c=(D[k]'hlt).toNat:=⟨_,rfl⟩
         have HC:=Lib.hid (show digC (D[k]'hlt)=(decide (48≤c)&&decide (c≤57))by rw[hc];rfl)
         have hcI:((D[k]'hlt).toNat:Int)=(c:Int):=by rw[hc]
         rw[←hc]at HS
         clear hc
         generalize valT D k=N at*
         by_cases ha:c<48
         ·have hr:=Lib.hid (HB.out (by rw[HC.out,decide_eq_false (by omega)];rfl))
          have ha':(c:Int)<48:=by omega
          go_wp2_with fail
          go_ret2
          exact Zbt hr.out
         ·by_cases hb:57<c
          ·have hr:=Lib.hid (HB.out (by rw[HC.out,decide_eq_false (show ¬c≤57 by omega),Bool.and_false]))
           have ha':¬(c:Int)<48:=by omega
           have hb':(57:Int)<(c:Int):=by omega
           go_wp2_with fail
           go_ret2
           exact Zbt hr.out
          ·have HG:=Lib.hid (HNX.out (by rw[HC.out,decide_eq_true (by omega),decide_eq_true (by omega)];rfl))
           have ha':¬(c:Int)<48:=by omega
           have hb':¬(57:Int)<(c:Int):=by omega
           go_wp2_with fail
           go_round
           case rel=>exact⟨k+1,by omega,by go_num,by rw[HS.out];go_num,HG⟩
           case measure=>simp[intOf];omega
        ·obtain rfl:k=D.size:=by omega
         have HR:=Lib.hid (hgo.out ⟨by omega,by omega⟩ HZ.out HK.out)
         have hv:=Zro HK.out hD17
         generalize valT D D.size=N at*
         have HR2:=Lib.hid (HR.out.trans (by rw[if_neg (by rw[HN.out];exact Bool.false_ne_true)]))
         go_wp2_with fail
         go_ret2
         exact Zix HR2.out
  ·have hr:=Lib.hid (hsh.out (by omega))
   have hg:¬(0:Int)<(D.size:Int):=by omega
   have hg2:((D.size:Int)==0)=true:=by rw[beq_iff_eq];omega
   go_enter Tryz.func216,Tryz.ntmps216
   go_wp2_with fail
   go_ret2
   exact Zbt hr.out
def TabW (w:World):Prop:=Lib.TabIs Tryz.prog w "internal/strconv.uint64pow10" .u64 Lib.pow10Tab
theorem TabW.below {w w':World} (h:TabW w) (hb:Below w.heap.size w w'):TabW w':=by
 have hgn:Tryz.prog.globalNamed "internal/strconv.uint64pow10" =some 1:=by kernel_rfl
 unfold TabW Lib.TabIs World.var? at h ⊢
 rw[hgn]at h ⊢
 simp only[Option.bind_some]at h ⊢
 have hlt:1<w.heap.size:=by
  rcases Nat.lt_or_ge 1 w.heap.size with h'|h'
  ·exact h'
  ·rw[Array.getElem?_eq_none h']at h;cases h
 rw[hb.block _ hlt]
 exact h
theorem Z55 (w:World) (k:Nat) (os:Array Obj):Below w.heap.size w (Sort.grow (w.drewN k) os):=
 ⟨rfl,rfl,rfl,by simp[Sort.grow],fun j hj=>by simp only[Sort.grow];rw[Array.getElem?_append_left (by exact hj)];rfl⟩
theorem Itoa_c (n:Int) (w:World) (h0: -9223372036854775808≤n) (h1:n≤9223372036854775807) (h:TabW w):Calls Tryz.prog 54 #[.int .i64 n] w fun e w'=>e= .returned (.string (decT n))∧Below w.heap.size w w':=by
 refine(Tryz.strconv_Itoa n h0 h1 w h).mono ?_
 rintro e w' ⟨rfl,k,os,rfl⟩
 exact⟨rfl,Z55 w k os⟩
def I64 (n:Int):Prop:= -9223372036854775808≤n∧n≤9223372036854775807
theorem Zob (n:Int) (w:World) (h0:I64 n) (h:TabW w):Calls Tryz.prog 54 #[.int .i64 n] w fun e w'=>e= .returned (.string (decT n))∧Below w.heap.size w w':=Itoa_c n w h0.1 h0.2 h
theorem Zcl {n:Int} (h0: -9223372036854775808≤n) (h1:n≤9223372036854775807):(decT n).size≤21:=by
 unfold decT;rw[Zfi];exact Lib.itoa_length_le n h0 h1
theorem Zg0 (a b:ByteArray):bts (a++b)=bts a++bts b:=by simp[bts]
theorem Zaak (s:Stn):s.nm++⟨#[58]⟩++Zaf s.ph++⟨#[58]⟩++decT s.g++⟨#[58]⟩++decT s.l=stT s:=by
 apply Zae
 simp only[Zg0]
 unfold stT Zbi stF
 rw[Zbv]
 simp only[List.map_cons,List.map_nil]
 rw[Zeg,Zeg,Zeg,Lib.join_one]
 have:bts (⟨#[58]⟩:ByteArray)=[58]:=rfl
 rw[this]
 simp only[List.append_assoc]
theorem Zhp (s:ByteArray):(Zaf s).size≤s.size+1:=by
 unfold Zaf;split
 ·show 1≤_;omega
 ·omega
theorem Z0g {s:ByteArray} (h:Zdv s=true):s.size≤8:=by
 unfold Zdv at h;rw[Bool.and_eq_true]at h;have:=(inB_iff.1 h.1).2;omega
theorem Zl1 {w:World} {b b0 o o0:Nat} {v:Value} (hne:b≠b0) (h:w.cell? ⟨b,o,none⟩=some v) (x:Value):(w.setCell ⟨b0,o0,none⟩ x).cell? ⟨b,o,none⟩=some v:=by
 simp only[World.cell?]at h ⊢
 rw[Below.heap_setCell _ _ _ _ hne]
 exact h
theorem Zaap {w:World} {b b0 o0:Nat} {v0 v1 v2 v3:Value} (hne:b≠b0) (h:w.cell? ⟨b,0,none⟩=some v0∧w.cell? ⟨b,1,none⟩=some v1∧w.cell? ⟨b,2,none⟩=some v2∧w.cell? ⟨b,3,none⟩=some v3) (x:Value):
 (w.setCell ⟨b0,o0,none⟩ x).cell? ⟨b,0,none⟩=some v0∧(w.setCell ⟨b0,o0,none⟩ x).cell? ⟨b,1,none⟩=some v1∧(w.setCell ⟨b0,o0,none⟩ x).cell? ⟨b,2,none⟩=some v2∧(w.setCell ⟨b0,o0,none⟩ x).cell? ⟨b,3,none⟩=some v3:=
 ⟨Zl1 hne h.1 x,Zl1 hne h.2.1 x,Zl1 hne h.2.2.1 x,Zl1 hne h.2.2.2 x⟩
theorem Z9i {w:World} {b:Nat} {x y:ByteArray} {g l:Int} {t:TypeId} (h:Box w b #[.string x,.string y,.int .i64 g,.int .i64 l] t):w.cell? ⟨b,0,none⟩=some (.string x)∧w.cell? ⟨b,1,none⟩=some (.string y)∧w.cell? ⟨b,2,none⟩=some (.int .i64 g)∧w.cell? ⟨b,3,none⟩=some (.int .i64 l):=
 ⟨h.cell rfl,h.cell rfl,h.cell rfl,h.cell rfl⟩
theorem Zaam {l:List Stn} (h:Zay l=false):fmtT l=⟨#[]⟩:=by unfold fmtT;rw[h];rfl
theorem Z0j {l:List Stn} (h:Zay l=true):fmtT l=Zaf (Zbi 59 (l.map stT)):=by unfold fmtT;rw[if_pos h]
theorem Zuh {s:Stn} (h:stOk s):(stT s).size≤60:=by
 obtain⟨h1,h2,h3,h4⟩:=Zeu h
 rw[←Zaak]
 simp only[ByteArray.size_append]
 have a:=Z0g h1
 have b:=Zhp s.ph
 have c:=Zcr h2
 have d:=Zcl (n:=s.g) (by omega) (by omega)
 have e:=Zcl (n:=s.l) (by omega) (by omega)
 have f:(⟨#[58]⟩:ByteArray).size=1:=rfl
 omega
theorem Ziv {M:Nat} {s:Byts} (hs:s.length=1):∀{ps:List Byts},(∀p∈ps,p.length≤M)→(Lib.join ps s).length≤ps.length*(M+1)
 |[],_=>by rw[Lib.join_nil];simp
 |[p],h=>by rw[Lib.join_one];have:=h p (by simp);simp;omega
 |p::q::r,h=>by
  rw[Zeg,List.length_append,List.length_append,hs]
  have h1:=h p (by simp)
  have h2:=Ziv hs (ps:=q::r) (fun x hx=>h x (by simp[hx]))
  rw[List.length_cons,Nat.succ_mul];omega
theorem Zoq {ao:Option Addr} {n c:Nat} {l:List Stn} {w:World} (h:RdS w ao n l) (hcap:n≤c) (htab:TabW w):
 Calls Tryz.prog 13 #[.slice ao n c] w fun e w'=>e= .returned (.string (fmtT l))∧Below w.heap.size w w':=by
 have hs:=h.2.1
 have HN:=Lib.hid h.1
 by_cases hcb:Zay l=true
 ·have HC:=Lib.hid hcb
  have HFY:=Lib.hid (Z0j hcb)
  have hn8:n≤8:=by have:=(cellB_iff.1 hcb).1;have:=HN.out;omega
  have HML:=Lib.hid (show(l.map stT).length=n by rw[List.length_map];exact HN.out.symm)
  clear hcb
  go_enter Tryz.func13,Tryz.ntmps13
  go_wp2_with fail
  refine(Zba h hcap).mono ?_;rintro e w1 ⟨rfl,hb1⟩
  rw[HC.out]
  have h1:=h.below hb1
  have ht1:=htab.below hb1
  clear h htab
  go_wp2_with (at_make;refine Zcd 24 9 16 ByteArray.empty Tryz.underlying24 Zd2 rfl (by decide) w1 rfl _ _ rfl .i64 .i64 n rfl rfl (by omega) ?_;intro w2 hownF hbF)
  have hF:=FillF.start (L:=l.map stT) hownF HML.out (by simp)
  have hb2:=hbF
  clear hownF
  obtain⟨g,hg⟩:∃g,g=w1.heap.size:=⟨_,rfl⟩
  rw[←hg]at hF hb2 hbF ⊢
  have HG:=Lib.hid hg
  clear hg
  go_wp2_with fail
  go_loopw [14] (fun i wr=>∃k:Nat,k≤n∧i= .int .i64 k∧Zaaj wr g g n (l.map stT) (List.replicate n ByteArray.empty) k∧Below g w1 wr) (fun i _=>n-(intOf i).toNat)
  case atStart=>exact⟨0,Nat.zero_le _,rfl,hF,hb2⟩
  case round=>
   clear hF hb2 hbF
   obtain⟨k,hk,rfl,hF,hb⟩:=hrel
   obtain⟨wo,hwo⟩:∃wo:World,wo=wr:=⟨_,rfl⟩
   subst hwo
   have hgz:=hF.lt
   have hbG:Below w1.heap.size w1 wo:=by rw[←HG.out];exact hb
   have hS:=h1.below hbG
   have hT:=ht1.below hbG
   by_cases hlt:k<n
   ·obtain⟨bk,off,rfl,hl,s0,s1,s2,s3⟩:=hS.at hlt
    have hst:=Zej HC.out hl
    obtain⟨p1,p2,p3,p4⟩:=Zeu hst
    have HS:=Lib.hid (Zaak l[k])
    have hnz:=Z0g p1
    have hdz:(Zaf l[k].ph).size≤7:=by have:=Zhp l[k].ph;have:=Zcr p2;omega
    have hz1:=Zcl (n:=l[k].g) (by omega) (by omega)
    have hz2:=Zcl (n:=l[k].l) (by omega) (by omega)
    have hI1:I64 l[k].g:=⟨by omega,by omega⟩
    have hI2:I64 l[k].l:=⟨by omega,by omega⟩
    have n1:¬l[k].nm.size+1>9223372036854775807:=by omega
    have n1':¬9223372036854775807<l[k].nm.size+1:=by omega
    have n1'':¬9223372036854775807≤l[k].nm.size:=by omega
    have n2:¬l[k].nm.size+1+(Zaf l[k].ph).size>9223372036854775807:=by omega
    have n2':¬9223372036854775807<l[k].nm.size+1+(Zaf l[k].ph).size:=by omega
    have n3:¬l[k].nm.size+1+(Zaf l[k].ph).size+1>9223372036854775807:=by omega
    have n3':¬9223372036854775807<l[k].nm.size+1+(Zaf l[k].ph).size+1:=by omega
    have n3'':¬9223372036854775807≤l[k].nm.size+1+(Zaf l[k].ph).size:=by omega
    have n4:¬l[k].nm.size+1+(Zaf l[k].ph).size+1+(decT l[k].g).size>9223372036854775807:=by omega
    have n4':¬9223372036854775807<l[k].nm.size+1+(Zaf l[k].ph).size+1+(decT l[k].g).size:=by omega
    have n5:¬l[k].nm.size+1+(Zaf l[k].ph).size+1+(decT l[k].g).size+1>9223372036854775807:=by omega
    have n5':¬9223372036854775807<l[k].nm.size+1+(Zaf l[k].ph).size+1+(decT l[k].g).size+1:=by omega
    have n5'':¬9223372036854775807≤l[k].nm.size+1+(Zaf l[k].ph).size+1+(decT l[k].g).size:=by omega
    have n6:¬l[k].nm.size+1+(Zaf l[k].ph).size+1+(decT l[k].g).size+1+(decT l[k].l).size>9223372036854775807:=by omega
    have n6':¬9223372036854775807<l[k].nm.size+1+(Zaf l[k].ph).size+1+(decT l[k].g).size+1+(decT l[k].l).size:=by omega
    have HGT:=Lib.hid (show ∀hl':k<(l.map stT).length,(l.map stT)[k]'hl'=stT l[k]from fun hl'=>List.getElem_map _)
    generalize l[k]=st at*
    have hBx:=Box.new wo #[.string st.nm,.string st.ph,.int .i64 st.g,.int .i64 st.l] 37
    have hB0:Below wo.heap.size wo (wo.alloc (.cells #[.string st.nm,.string st.ph,.int .i64 st.g,.int .i64 st.l] 37)):=(Below.refl _ _).alloc (Nat.le_refl _) _
    have hTa:TabW (wo.alloc (.cells #[.string st.nm,.string st.ph,.int .i64 st.g,.int .i64 st.l] 37)).drew:=hT.below (Below.drew hB0)
    have hFa:Zaaj (wo.alloc (.cells #[.string st.nm,.string st.ph,.int .i64 st.g,.int .i64 st.l] 37)).drew g g n (l.map stT) (List.replicate n ByteArray.empty) k:=hF.alter (Below.drew hB0)
    have hba:=Below.drew hB0
    have hBx:Box (wo.alloc (.cells #[.string st.nm,.string st.ph,.int .i64 st.g,.int .i64 st.l] 37)).drew wo.heap.size #[.string st.nm,.string st.ph,.int .i64 st.g,.int .i64 st.l] 37:=hBx
    have C:=Z9i hBx
    have hBg:wo.heap.size≠g:=by omega
    clear p1 p2 hst hT hF hS hB0
    obtain⟨z,hcz⟩:=hFa.cell hlt
    have hfz:=hFa.free k
    go_wp2_with fail
    go_region_held3 (fun w'=>w'.cell? ⟨wo.heap.size,0,none⟩=some (.string st.nm)∧w'.cell? ⟨wo.heap.size,1,none⟩=some (.string st.ph)∧w'.cell? ⟨wo.heap.size,2,none⟩=some (.int .i64 st.g)∧w'.cell? ⟨wo.heap.size,3,none⟩=some (.int .i64 st.l)) (first|with_reducible exact C|exact Zaap hBg C _) (first|(go_at_call 53;refine(Zcg _ _).mono ?_;rintro e w' ⟨rfl,rfl⟩)|(go_at_call 54;refine(Zob _ _ (by first|exact hI1|exact hI2) hTa).mono ?_;rintro e w5 ⟨rfl,hb5⟩;have hTa:=hTa.below hb5;have hFa:=hFa.alter hb5;have hba:=hba.trans (hb5.mono hba.size);have hBx:=hBx.below hb5 hBx.lt;have C:=Z9i hBx;obtain⟨z,hcz⟩:=hFa.cell hlt;have hfz:=hFa.free k))
    all_goals
     have hst2:=hFa.step hlt (y:=.string (stT st)) (fun hl'=>by rw[HGT.out hl'])
     have hbw:=hb.trans (hba.mono (Nat.le_of_lt hgz))
     have hbw2:=hFa.below hbw (.string (stT st))
     rw[HS.out]
     clear hFa hba hBx C hTa hbw
     go_wp2_with fail
     go_roundw
     case rel=>exact⟨k+1,by omega,by go_num,hst2,hbw2⟩
     case measure=>simp[intOf];omega
   ·obtain rfl:k=n:=by omega
    have hbE:=hb1.trans (hbG.mono hb1.size)
    have hat:=fun j (hj:j<k)=>hF.at hj (Nat.le_refl k)
    have HAT:=Lib.hid hat
    clear hat hF hb hbG hS hT hgz
    by_cases hk0:k=0
    ·have HR:=Lib.hid (show Zaf (⟨#[]⟩:ByteArray)=fmtT l by
      rw[HFY.out]
      have:l=[]:=List.length_eq_zero_iff.1 (by have:=HN.out;omega)
      rw[this];rfl)
     have hkz:(k:Int)=0:=by omega
     obtain rfl:=hk0
     clear hkz
     go_wp2_with fail
     refine(Tryz.strings_Join_none _ _ _ _).mono ?_;rintro e w' ⟨rfl,rfl⟩
     go_wp2_with fail
     refine(Zcg _ _).mono ?_;rintro e w' ⟨rfl,rfl⟩
     rw[HR.out]
     go_wp2_with fail
     go_ret
     exact⟨rfl,hbE⟩
    ·have hjc:∀(j:Nat) x,(l.map stT)[j]?=some x→wo.cell? ⟨g,0+j,none⟩=some (.string x):=by
      intro j x hx
      obtain⟨hj,hx2⟩:=List.getElem?_eq_some_iff.1 hx
      obtain⟨hl,hc⟩:=HAT.out j (by rw[←HML.out];exact hj)
      rw[Nat.zero_add,hc]
      rw[hx2]
     have hgl:g<wo.heap.size:=by
      obtain⟨hl,hc⟩:=HAT.out 0 (by omega)
      exact Zaa hc
     have hjl:(Lib.join ((l.map stT).map (·.data.toList)) (⟨#[59]⟩:ByteArray).data.toList).length≤140737488355328:=by
      have:=Ziv (M:=60) (s:=[59]) rfl (ps:=(l.map stT).map bts) (fun p hp=>by
       obtain⟨x,hx,rfl⟩:=List.mem_map.1 hp
       obtain⟨y,hy,rfl⟩:=List.mem_map.1 hx
       exact Zuh ((cellB_iff.1 HC.out).2.1 y hy))
      rw[List.length_map,HML.out]at this
      show(Lib.join ((l.map stT).map bts) [59]).length≤_
      omega
     have HJ:=Tryz.strings_Join g 0 k (l.map stT) (⟨#[59]⟩:ByteArray) wo hjc hgl (by rw[HML.out];omega) (by rw[HML.out];exact Nat.le_refl _) hjl
     rw[HML.out]at HJ
     have HJT:=Lib.hid (show(⟨(Lib.join ((l.map stT).map (·.data.toList)) (⟨#[59]⟩:ByteArray).data.toList).toArray⟩:ByteArray)=Zbi 59 (l.map stT)from rfl)
     have HJ':=Lib.hid HJ
     clear hjc hjl HJ hk0
     go_wp2_with fail
     refine HJ'.out.mono ?_;rintro e w6 ⟨rfl,hb6⟩
     rw[HJT.out]
     have hbF:=hbE.trans (hb6.mono hbE.size)
     go_wp2_with fail
     refine(Zcg _ _).mono ?_;rintro e w' ⟨rfl,rfl⟩
     rw[←HFY.out]
     go_wp2_with fail
     go_ret
     exact⟨rfl,hbF⟩
 ·have hcb':Zay l=false:=by simpa using hcb
  have hr:=Lib.hid (Zaam hcb')
  go_enter Tryz.func13,Tryz.ntmps13
  go_wp2_with fail
  refine(Zba h hcap).mono ?_;rintro e w1 ⟨rfl,hb1⟩
  rw[hcb']
  go_wp2_with fail
  go_ret
  exact⟨by rw[hr.out];rfl,hb1⟩
def I63 (n:Int):Prop:= -9223372036854775807≤n∧n≤9223372036854775807
theorem Zq7 (n:Int) (w:World) (h:I63 n):Calls Tryz.prog 141 #[.int .i64 n] w fun e w'=>e= .returned (.string (decT n))∧Below w.heap.size w w':=Zhl n w h.1 h.2
def oT (l:List Stn) (k:Nat):ByteArray:=Zbi 59 ((l.map stT).take k)
theorem Zaiu (l:List Stn):oT l 0=⟨#[]⟩:=rfl
theorem Zly (x:Byts) (s:Byts):∀{ps:List Byts},ps≠[]→Lib.join (ps++[x]) s=Lib.join ps s++s++x
 |[],h=>absurd rfl h
 |[p],_=>by rw[List.singleton_append,Zeg,Lib.join_one,Lib.join_one]
 |p::q::r,_=>by
  rw[List.cons_append,List.cons_append,Zeg,←List.cons_append,Zly x s (by simp),Zeg];simp only[List.append_assoc]
theorem oT_one {l:List Stn} {k:Nat} (h:k<l.length) (h0:k=0):oT l k++stT l[k]=oT l (k+1):=by
 subst h0
 apply Zae
 rw[Zg0]
 unfold oT Zbi
 rw[Zbv,Zbv,List.take_succ_eq_append_getElem (by simpa using h)]
 simp[Lib.join_one,Lib.join_nil]
theorem Zajz {l:List Stn} {k:Nat} (h:k<l.length) (h0:0<k):oT l k++⟨#[59]⟩++stT l[k]=oT l (k+1):=by
 apply Zae
 rw[Zg0,Zg0]
 unfold oT Zbi
 rw[Zbv,Zbv,List.take_succ_eq_append_getElem (by simpa using h),List.map_append,List.map_singleton,Zly _ _ (by
  intro e
  have:=congrArg List.length e
  rw[List.length_map,List.length_take,List.length_map,List.length_nil]at this
  omega),List.getElem_map]
 rfl
theorem oT_all {l:List Stn} {k:Nat} (h:l.length≤k):oT l k=Zbi 59 (l.map stT):=by unfold oT;rw[List.take_of_length_le (by simpa using h)]
theorem Zaiv {l:List Stn} (h:∀s∈l,stOk s) (k:Nat) (hk:k≤8):(oT l k).size≤488:=by
 unfold oT Zbi
 rw[Zfi]
 have:=Ziv (M:=60) (s:=[59]) rfl (ps:=((l.map stT).take k).map bts) (fun p hp=>by
  obtain⟨x,hx,rfl⟩:=List.mem_map.1 hp
  obtain⟨y,hy,rfl⟩:=List.mem_map.1 (List.mem_of_mem_take hx)
  exact Zuh (h y hy))
 have h2:(((l.map stT).take k).map bts).length≤8:=by rw[List.length_map,List.length_take];omega
 have h3:=Nat.mul_le_mul_right 61 h2
 omega
theorem Zaes (X:ByteArray) (s:Stn):X++s.nm++⟨#[58]⟩++Zaf s.ph++⟨#[58]⟩++decT s.g++⟨#[58]⟩++decT s.l=X++stT s:=by
 rw[←Zaak]
 apply Zae
 simp only[Zg0,List.append_assoc]
theorem Zf6 {ao:Option Addr} {n c:Nat} {l:List Stn} {w:World} (h:RdS w ao n l) (hm2:∀i (h:i<l.length),(l[i]'h).nm.size≤1099511627776∧(l[i]'h).ph.size≤1099511627776):
 Calls Tryz.prog 144 #[.slice ao n c] w fun e w'=>e= .returned (.string (fmtT l))∧Below w.heap.size w w':=by
 have hs:=h.2.1
 have HN:=Lib.hid h.1
 by_cases hcb:Zay l=true
 ·have HC:=Lib.hid hcb
  have HFY:=Lib.hid (Z0j hcb)
  have hn8:n≤8:=by have:=(cellB_iff.1 hcb).1;have:=HN.out;omega
  clear hcb
  go_enter Tryz.func144,Tryz.ntmps144
  go_wp2_with fail
  refine(Za8 h hm2).mono ?_;rintro e w1 ⟨rfl,hb1⟩
  rw[HC.out]
  have h1:=h.below hb1
  clear h hm2
  have HO0:=Lib.hid (Zaiu l).symm
  go_wp2_with fail
  go_loopw [3,4] (fun o i wr=>∃k:Nat,k≤n∧i= .int .i64 k∧o= .string (oT l k)∧Below w1.heap.size w1 wr) (fun _ i _=>n-(intOf i).toNat)
  case atStart=>exact⟨0,Nat.zero_le _,rfl,rfl,Below.refl _ _⟩
  case round=>
   obtain⟨k,hk,rfl,rfl,hb⟩:=hrel
   obtain⟨wo,hwo⟩:∃wo:World,wo=wr:=⟨_,rfl⟩
   subst hwo
   have hS:=h1.below hb
   by_cases hlt:k<n
   ·obtain⟨bk,off,rfl,hl,s0,s1,s2,s3⟩:=hS.at hlt
    have hst:=Zej HC.out hl
    obtain⟨p1,p2,p3,p4⟩:=Zeu hst
    have hnz:=Z0g p1
    have hdz:(Zaf l[k].ph).size≤7:=by have:=Zhp l[k].ph;have:=Zcr p2;omega
    have hz1:=Zcl (n:=l[k].g) (by omega) (by omega)
    have hz2:=Zcl (n:=l[k].l) (by omega) (by omega)
    have hoz:=Zaiv (cellB_iff.1 HC.out).2.1 k (by omega)
    have hI1:I63 l[k].g:=⟨by omega,by omega⟩
    have hI2:I63 l[k].l:=⟨by omega,by omega⟩
    have hcase:(¬(0:Int)<(k:Int)∧∃X,X=oT l k∧X++stT l[k]=oT l (k+1))∨((0:Int)<(k:Int)∧oT l k++⟨#[59]⟩++stT l[k]=oT l (k+1)):=by
     by_cases e:k=0
     ·exact .inl ⟨by omega,_,rfl,oT_one hl e⟩
     ·exact .inr ⟨by omega,Zajz hl (by omega)⟩
    have HCS:=Lib.hid hcase
    clear hcase p1 p2 hst hS
    have HTM:=Lib.hid (fun X=>Zaes X l[k])
    generalize l[k]=st at*
    generalize hOk:oT l k=O at*
    have HOK:=Lib.hid hOk
    clear hOk
    have C:wo.drew.cell? ⟨bk,off+k*4,none⟩=some (.string st.nm)∧wo.drew.cell? ⟨bk,off+k*4+1,none⟩=some (.string st.ph)∧wo.drew.cell? ⟨bk,off+k*4+2,none⟩=some (.int .i64 st.g)∧wo.drew.cell? ⟨bk,off+k*4+3,none⟩=some (.int .i64 st.l):=⟨s0,s1,s2,s3⟩
    have hba:=Below.drew (Below.refl wo.heap.size wo)
    rcases HCS.out with ⟨h0,hX⟩|⟨h0,hX⟩
    ·obtain⟨X,rfl,hX⟩:=hX
     have HXN:=Lib.hid hX
     clear hX HOK
     have n1:¬X.size+st.nm.size>9223372036854775807:=by omega
     have n1':¬9223372036854775807<X.size+st.nm.size:=by omega
     have n2:¬X.size+st.nm.size+1>9223372036854775807:=by omega
     have n2':¬9223372036854775807<X.size+st.nm.size+1:=by omega
     have n2'':¬9223372036854775807≤X.size+st.nm.size:=by omega
     have n3:¬X.size+st.nm.size+1+(Zaf st.ph).size>9223372036854775807:=by omega
     have n3':¬9223372036854775807<X.size+st.nm.size+1+(Zaf st.ph).size:=by omega
     have n4:¬X.size+st.nm.size+1+(Zaf st.ph).size+1>9223372036854775807:=by omega
     have n4':¬9223372036854775807<X.size+st.nm.size+1+(Zaf st.ph).size+1:=by omega
     have n4'':¬9223372036854775807≤X.size+st.nm.size+1+(Zaf st.ph).size:=by omega
     have n5:¬X.size+st.nm.size+1+(Zaf st.ph).size+1+(decT st.g).size>9223372036854775807:=by omega
     have n5':¬9223372036854775807<X.size+st.nm.size+1+(Zaf st.ph).size+1+(decT st.g).size:=by omega
     have n6:¬X.size+st.nm.size+1+(Zaf st.ph).size+1+(decT st.g).size+1>9223372036854775807:=by omega
     have n6':¬9223372036854775807<X.size+st.nm.size+1+(Zaf st.ph).size+1+(decT st.g).size+1:=by omega
     have n6'':¬9223372036854775807≤X.size+st.nm.size+1+(Zaf st.ph).size+1+(decT st.g).size:=by omega
     have n7:¬X.size+st.nm.size+1+(Zaf st.ph).size+1+(decT st.g).size+1+(decT st.l).size>9223372036854775807:=by omega
     have n7':¬9223372036854775807<X.size+st.nm.size+1+(Zaf st.ph).size+1+(decT st.g).size+1+(decT st.l).size:=by omega
     go_wp2_with fail
     go_region_held3 (fun w'=>w'.cell? ⟨bk,off+k*4,none⟩=some (.string st.nm)∧w'.cell? ⟨bk,off+k*4+1,none⟩=some (.string st.ph)∧w'.cell? ⟨bk,off+k*4+2,none⟩=some (.int .i64 st.g)∧w'.cell? ⟨bk,off+k*4+3,none⟩=some (.int .i64 st.l)) (first|with_reducible exact C) (first|(go_at_call 154;refine(Zev _ _).mono ?_;rintro e w' ⟨rfl,rfl⟩)|(go_at_call 141;refine(Zq7 _ _ (by first|exact hI1|exact hI2)).mono ?_;rintro e w5 ⟨rfl,hb5⟩;have hba:=hba.trans (hb5.mono hba.size);have C:w5.cell? ⟨bk,off+k*4,none⟩=some (.string st.nm)∧w5.cell? ⟨bk,off+k*4+1,none⟩=some (.string st.ph)∧w5.cell? ⟨bk,off+k*4+2,none⟩=some (.int .i64 st.g)∧w5.cell? ⟨bk,off+k*4+3,none⟩=some (.int .i64 st.l):=⟨(hb5.cell (Zaa C.1)).trans C.1,(hb5.cell (Zaa C.2.1)).trans C.2.1,(hb5.cell (Zaa C.2.2.1)).trans C.2.2.1,(hb5.cell (Zaa C.2.2.2)).trans C.2.2.2⟩))
     all_goals
      have hbw:=hb.trans (hba.mono hb.size)
      rw[HTM.out,HXN.out]
      clear hba C
      go_wp2_with fail
      go_roundw
      case rel=>exact⟨k+1,by omega,by go_num,rfl,hbw⟩
      case measure=>simp[intOf];omega
    ·obtain⟨X,hX0⟩:∃X,X=O++(⟨#[59]⟩:ByteArray):=⟨_,rfl⟩
     rw[←hX0]at hX
     have hXz:X.size≤489:=by rw[hX0,ByteArray.size_append];have:(⟨#[59]⟩:ByteArray).size=1:=rfl;omega
     have HXN:=Lib.hid hX
     have HX0:=Lib.hid hX0
     clear hX hX0 HOK
     go_wp2_with fail
     rw[←HX0.out]
     have n1:¬X.size+st.nm.size>9223372036854775807:=by omega
     have n1':¬9223372036854775807<X.size+st.nm.size:=by omega
     have n2:¬X.size+st.nm.size+1>9223372036854775807:=by omega
     have n2':¬9223372036854775807<X.size+st.nm.size+1:=by omega
     have n2'':¬9223372036854775807≤X.size+st.nm.size:=by omega
     have n3:¬X.size+st.nm.size+1+(Zaf st.ph).size>9223372036854775807:=by omega
     have n3':¬9223372036854775807<X.size+st.nm.size+1+(Zaf st.ph).size:=by omega
     have n4:¬X.size+st.nm.size+1+(Zaf st.ph).size+1>9223372036854775807:=by omega
     have n4':¬9223372036854775807<X.size+st.nm.size+1+(Zaf st.ph).size+1:=by omega
     have n4'':¬9223372036854775807≤X.size+st.nm.size+1+(Zaf st.ph).size:=by omega
     have n5:¬X.size+st.nm.size+1+(Zaf st.ph).size+1+(decT st.g).size>9223372036854775807:=by omega
     have n5':¬9223372036854775807<X.size+st.nm.size+1+(Zaf st.ph).size+1+(decT st.g).size:=by omega
     have n6:¬X.size+st.nm.size+1+(Zaf st.ph).size+1+(decT st.g).size+1>9223372036854775807:=by omega
     have n6':¬9223372036854775807<X.size+st.nm.size+1+(Zaf st.ph).size+1+(decT st.g).size+1:=by omega
     have n6'':¬9223372036854775807≤X.size+st.nm.size+1+(Zaf st.ph).size+1+(decT st.g).size:=by omega
     have n7:¬X.size+st.nm.size+1+(Zaf st.ph).size+1+(decT st.g).size+1+(decT st.l).size>9223372036854775807:=by omega
     have n7':¬9223372036854775807<X.size+st.nm.size+1+(Zaf st.ph).size+1+(decT st.g).size+1+(decT st.l).size:=by omega
     go_region_held3 (fun w'=>w'.cell? ⟨bk,off+k*4,none⟩=some (.string st.nm)∧w'.cell? ⟨bk,off+k*4+1,none⟩=some (.string st.ph)∧w'.cell? ⟨bk,off+k*4+2,none⟩=some (.int .i64 st.g)∧w'.cell? ⟨bk,off+k*4+3,none⟩=some (.int .i64 st.l)) (first|with_reducible exact C) (first|(go_at_call 154;refine(Zev _ _).mono ?_;rintro e w' ⟨rfl,rfl⟩)|(go_at_call 141;refine(Zq7 _ _ (by first|exact hI1|exact hI2)).mono ?_;rintro e w5 ⟨rfl,hb5⟩;have hba:=hba.trans (hb5.mono hba.size);have C:w5.cell? ⟨bk,off+k*4,none⟩=some (.string st.nm)∧w5.cell? ⟨bk,off+k*4+1,none⟩=some (.string st.ph)∧w5.cell? ⟨bk,off+k*4+2,none⟩=some (.int .i64 st.g)∧w5.cell? ⟨bk,off+k*4+3,none⟩=some (.int .i64 st.l):=⟨(hb5.cell (Zaa C.1)).trans C.1,(hb5.cell (Zaa C.2.1)).trans C.2.1,(hb5.cell (Zaa C.2.2.1)).trans C.2.2.1,(hb5.cell (Zaa C.2.2.2)).trans C.2.2.2⟩))
     all_goals
      have hbw:=hb.trans (hba.mono hb.size)
      rw[HTM.out,HXN.out]
      clear hba C
      go_wp2_with fail
      go_roundw
      case rel=>exact⟨k+1,by omega,by go_num,rfl,hbw⟩
      case measure=>simp[intOf];omega
   ·obtain rfl:k=n:=by omega
    have HA:=Lib.hid (oT_all (l:=l) (k:=k) (by have:=HN.out;omega))
    rw[HA.out]
    have hbE:=hb1.trans (hb.mono hb1.size)
    go_wp2_with fail
    refine(Zev _ _).mono ?_;rintro e w' ⟨rfl,rfl⟩
    rw[←HFY.out]
    go_wp2_with fail
    go_ret
    exact⟨rfl,hbE⟩
 ·have hcb':Zay l=false:=by simpa using hcb
  have hr:=Lib.hid (Zaam hcb')
  go_enter Tryz.func144,Tryz.ntmps144
  go_wp2_with fail
  refine(Za8 h hm2).mono ?_;rintro e w1 ⟨rfl,hb1⟩
  rw[hcb']
  go_wp2_with fail
  go_ret
  exact⟨by rw[hr.out];rfl,hb1⟩
end Go.Proofs.YtcjihfongfefoaaGreatDoor
