/- Ne Nf Pc -/
import Derived.Test.YtcjihfongfefoaaGreatDoorJ12
namespace Go.Proofs.YtcjihfongfefoaaGreatDoor
open Go.RowKit
set_option maxHeartbeats 25600000
set_option maxRecDepth 100000
def uIn (u:Stn):Prop:=seqB u.nm=true∧(0≤u.g∧u.g≤1000)∧u.l=0
theorem Zv8 {u:Stn} (h:uIn u):Zed u=(Zan u.ph&&decide (u.ph.size*u.nm.size≤3000)):=by
 obtain⟨h1,h2,h3⟩:=h
 unfold Zed
 rw[h1,h3,Zax h2.1 h2.2,Zax (by omega:(0:Int)≤0) (by omega:(0:Int)≤1000)]
 have e:(u.ph.size:Int)*u.nm.size=((u.ph.size*u.nm.size:Nat):Int):=by simp
 rw[e,Int.add_zero,Bool.true_and,Bool.and_true,Bool.and_true]
 congr 1
 exact decide_eq_decide.2 (by omega)
theorem Z9v {u:Stn} (h:uIn u) (h1:Zan u.ph=false):Zed u=false:=by rw[Zv8 h,h1];rfl
theorem Z70 {u:Stn} (h:uIn u) (h1:¬u.ph.size*u.nm.size≤3000):Zed u=false:=by rw[Zv8 h,decide_eq_false h1,Bool.and_false]
theorem Z9d {u:Stn} (h:uIn u) (h1:Zan u.ph=true) (h2:u.ph.size*u.nm.size≤3000):Zed u=true:=by rw[Zv8 h,decide_eq_true h2,h1];rfl
theorem Z0o (s d:ByteArray) (g:Int) (w:World) (h:uIn ⟨s,d,g,0⟩):Calls Tryz.prog 184 #[.agg #[.string s,.string d,.int .i64 g,.int .i64 0]] w fun e w'=>e= .returned (.bool (Zed ⟨s,d,g,0⟩))∧Below w.heap.size w w':=by
 have h1:seqB s=true:=h.1
 have hg0:0≤g:=h.2.1.1
 have hg1:g≤1000:=h.2.1.2
 have hB:=Box.new w #[.string s,.string d,.int .i64 g,.int .i64 0] 76
 have hb0:Below w.heap.size w (w.alloc (.cells #[.string s,.string d,.int .i64 g,.int .i64 0] 76)):=(Below.refl _ _).alloc (Nat.le_refl _) _
 have c0:=hB.cell (i:=0) rfl
 have c1:=hB.cell (i:=1) rfl
 have c2:=hB.cell (i:=2) rfl
 have c3:=hB.cell (i:=3) rfl
 by_cases h2:Zan d=true
 ·have hd6:=Zem h2
  obtain⟨hs1,hs2⟩:=Zbg h1
  obtain⟨m,hm⟩:∃m,d.size*s.size=m:=⟨_,rfl⟩
  have hm2:m≤600*255:=by rw[←hm];exact Nat.mul_le_mul hd6 hs2
  have b0:IntKind.i64.wrap ((d.size:Int)*(s.size:Int))=(m:Int):=Z04 hm (by omega)
  have b1:IntKind.i64.wrap ((m:Int)+0)=(m:Int):=by rw[Int.add_zero];exact IntWalk.i64_in _ (by omega)
  by_cases h3:m≤3000
  ·have hr:=Lib.hid (Z9d h h2 (by show d.size*s.size≤3000;rw[hm];exact h3))
   have h3':(m:Int)≤3000:=by omega
   clear hB hm h
   go_enter Tryz.func184,Tryz.ntmps184
   go_wp2_with fail
   refine(Zat _ _).mono ?_;rintro e w' ⟨rfl,rfl⟩
   rw[h1]
   go_wp2_with fail
   refine(Za2 _ _).mono ?_;rintro e w' ⟨rfl,rfl⟩
   rw[h2]
   clear h1 h2
   go_wp2_with fail
   go_ret
   exact⟨Zav hr.out.symm,hb0⟩
  ·have hr:=Lib.hid (Z70 h (by show ¬d.size*s.size≤3000;rw[hm];exact h3))
   have h3':¬(m:Int)≤3000:=by omega
   clear hB hm h h3
   go_enter Tryz.func184,Tryz.ntmps184
   go_wp2_with fail
   refine(Zat _ _).mono ?_;rintro e w' ⟨rfl,rfl⟩
   rw[h1]
   go_wp2_with fail
   refine(Za2 _ _).mono ?_;rintro e w' ⟨rfl,rfl⟩
   rw[h2]
   clear h1 h2
   go_wp2_with fail
   go_ret
   exact⟨Zav (by rw[hr.out];exact decide_eq_false (by omega)),hb0⟩
 ·have h2':Zan d=false:=by simpa using h2
  have hr:=Lib.hid (Z9v h h2')
  clear hB h
  go_enter Tryz.func184,Tryz.ntmps184
  go_wp2_with fail
  refine(Zat _ _).mono ?_;rintro e w' ⟨rfl,rfl⟩
  rw[h1]
  go_wp2_with fail
  refine(Za2 _ _).mono ?_;rintro e w' ⟨rfl,rfl⟩
  rw[h2']
  clear h1 h2 h2'
  go_wp2_with fail
  go_ret
  exact⟨Zav hr.out.symm,hb0⟩
theorem Zy1 (s d:ByteArray) (g:Int) (w:World) (h:uIn ⟨s,d,g,0⟩) (hdz:d.size≤1099511627776):Calls Tryz.prog 187 #[.agg #[.string s,.string d,.int .i64 g,.int .i64 0]] w fun e w'=>e= .returned (.bool (Zed ⟨s,d,g,0⟩))∧Below w.heap.size w w':=by
 have h1:seqB s=true:=h.1
 have HG1:=Lib.hid (Zax h.2.1.1 h.2.1.2)
 have HG2:=Lib.hid (Zax (by omega:(0:Int)≤0) (by omega:(0:Int)≤1000))
 have hB:=Box.new w #[.string s,.string d,.int .i64 g,.int .i64 0] 76
 have hb0:Below w.heap.size w (w.alloc (.cells #[.string s,.string d,.int .i64 g,.int .i64 0] 76)):=(Below.refl _ _).alloc (Nat.le_refl _) _
 have c0:=hB.cell (i:=0) rfl
 have c1:=hB.cell (i:=1) rfl
 have c2:=hB.cell (i:=2) rfl
 have c3:=hB.cell (i:=3) rfl
 obtain⟨hs1,hs2⟩:=Zbg h1
 by_cases h2:Zan d=true
 ·have hd6:=Zem h2
  obtain⟨m,hm⟩:∃m,d.size*s.size=m:=⟨_,rfl⟩
  have hm2:m≤600*255:=by rw[←hm];exact Nat.mul_le_mul hd6 hs2
  have b0:IntKind.i64.wrap ((d.size:Int)*(s.size:Int))=(m:Int):=Z04 hm (by omega)
  have b1:IntKind.i64.wrap ((m:Int)+0)=(m:Int):=by rw[Int.add_zero];exact IntWalk.i64_in _ (by omega)
  by_cases h3:m≤3000
  ·have hr:=Lib.hid (Z9d h h2 (by show d.size*s.size≤3000;rw[hm];exact h3))
   have h3':(m:Int)≤3000:=by omega
   clear hB hm h
   go_enter Tryz.func187,Tryz.ntmps187
   go_wp2_with fail
   refine(Za6 _ _ (by omega)).mono ?_;rintro e w' ⟨rfl,rfl⟩
   rw[h1]
   go_wp2_with fail
   refine(Za0 _ _ hdz).mono ?_;rintro e w' ⟨rfl,rfl⟩
   rw[h2]
   clear h1 h2
   go_wp2_with fail
   refine(Zbq _ _ _ _).mono ?_;rintro e w' ⟨rfl,rfl⟩
   rw[HG1.out]
   go_wp2_with fail
   refine(Zbq _ _ _ _).mono ?_;rintro e w' ⟨rfl,rfl⟩
   rw[HG2.out]
   go_wp2_with fail
   go_ret
   exact⟨Zav hr.out.symm,hb0⟩
  ·have hr:=Lib.hid (Z70 h (by show ¬d.size*s.size≤3000;rw[hm];exact h3))
   have h3':¬(m:Int)≤3000:=by omega
   clear hB hm h h3
   go_enter Tryz.func187,Tryz.ntmps187
   go_wp2_with fail
   refine(Za6 _ _ (by omega)).mono ?_;rintro e w' ⟨rfl,rfl⟩
   rw[h1]
   go_wp2_with fail
   refine(Za0 _ _ hdz).mono ?_;rintro e w' ⟨rfl,rfl⟩
   rw[h2]
   clear h1 h2
   go_wp2_with fail
   refine(Zbq _ _ _ _).mono ?_;rintro e w' ⟨rfl,rfl⟩
   rw[HG1.out]
   go_wp2_with fail
   refine(Zbq _ _ _ _).mono ?_;rintro e w' ⟨rfl,rfl⟩
   rw[HG2.out]
   go_wp2_with fail
   go_ret
   exact⟨Zav (by rw[hr.out];exact decide_eq_false (by omega)),hb0⟩
 ·have h2':Zan d=false:=by simpa using h2
  have hr:=Lib.hid (Z9v h h2')
  clear hB h
  go_enter Tryz.func187,Tryz.ntmps187
  go_wp2_with fail
  refine(Za6 _ _ (by omega)).mono ?_;rintro e w' ⟨rfl,rfl⟩
  rw[h1]
  go_wp2_with fail
  refine(Za0 _ _ hdz).mono ?_;rintro e w' ⟨rfl,rfl⟩
  rw[h2']
  clear h1 h2 h2'
  go_wp2_with fail
  go_ret
  exact⟨Zav hr.out.symm,hb0⟩
def UIn (us:List Stn):Prop:=∀i (h:i<us.length),uIn (us[i]'h)
theorem Z35 {u:Stn} (h:uIn u):u=⟨u.nm,u.ph,u.g,0⟩:=by
 obtain⟨_,_,h3⟩:=h
 rw[←h3]
theorem Zmc {us:List Stn} {k:Nat} (hk:k<us.length) (h:(us.take k).all Zed=true) (h1:Zed us[k]=true):(us.take (k+1)).all Zed=true:=by
 rw[List.take_succ_eq_append_getElem hk,List.all_append,h];simp[h1]
theorem Zwz {us:List Stn} {k:Nat} (hk:us.length≤k) (h8:us.length≤8) (h:(us.take k).all Zed=true):Zee us=true:=by
 rw[List.take_of_length_le hk]at h
 unfold Zee;rw[decide_eq_true h8,h];rfl
theorem Zol {ao:Option Addr} {n c:Nat} {us:List Stn} {w:World} (h:RdS w ao n us) (hi:UIn us):Calls Tryz.prog 119 #[.slice ao n c] w fun e w'=>e= .returned (.bool (Zee us))∧Below w.heap.size w w':=by
 have hs:=h.2.1
 have HI:=Lib.hid hi;clear hi
 by_cases h8:n≤8
 ·have HN:=Lib.hid h.1
  have h8':¬(8:Int)<(n:Int):=by omega
  go_enter Tryz.func119,Tryz.ntmps119
  go_wp2_with fail
  go_loopw [10] (fun i wr=>∃k:Nat,k≤n∧i= .int .i64 k∧Hid ((us.take k).all Zed=true)∧Below w.heap.size w wr) (fun i _=>n-(intOf i).toNat)
  case atStart=>exact⟨0,Nat.zero_le _,rfl,Lib.hid rfl,Below.refl _ _⟩
  case round=>
   obtain⟨k,hk,rfl,HA,hb⟩:=hrel
   obtain⟨wo,hwo⟩:∃wo:World,wo=wr:=⟨_,rfl⟩
   subst hwo
   by_cases hlt:k<n
   ·obtain⟨bk,off,rfl,hl,hc0,hc1,hc2,hc3⟩:=(h.below hb).at hlt
    have hu:=HI.out k hl
    have hl0:us[k].l=0:=hu.2.2
    rw[hl0]at hc3
    have HU:=Lib.hid (Z35 hu)
    have hu2:uIn ⟨us[k].nm,us[k].ph,us[k].g,0⟩:=⟨hu.1,hu.2.1,rfl⟩
    have HE:=Lib.hid (show Zed ⟨us[k].nm,us[k].ph,us[k].g,0⟩=Zed us[k]by rw[←HU.out])
    have hz:=hb.size
    have hB1:=hb.alloc hz (.cells #[.string us[k].nm,.string us[k].ph,.int .i64 us[k].g,.int .i64 0] 76)
    clear hl0 hu
    go_wp2_with fail
    refine(Z0o us[k].nm us[k].ph us[k].g _ hu2).mono ?_;rintro e w2 ⟨rfl,hb2⟩
    rw[HE.out]
    have hB2:=hB1.trans (hb2.mono hB1.size)
    clear hB1 hb2 hc0 hc1 hc2 hc3
    by_cases h1:Zed us[k]=true
    ·rw[h1]
     have HT:=Lib.hid (Zmc hl HA.out h1)
     clear h1
     go_wp2_with fail
     go_roundw
     case rel=>exact⟨k+1,by omega,by go_num,HT,hB2⟩
     case measure=>simp[intOf];omega
    ·have h1':Zed us[k]=false:=by simpa using h1
     rw[h1']
     have hr:=Lib.hid (Zsy hl h1')
     clear h1 h1'
     go_wp2_with fail
     go_ret
     exact⟨Zav hr.out.symm,hB2⟩
   ·have hr:=Lib.hid (Zwz (us:=us) (k:=k) (by have:=HN.out;omega) (by have:=HN.out;omega) HA.out)
    go_wp2_with fail
    go_ret
    exact⟨Zav hr.out.symm,hb⟩
 ·have hr:=Lib.hid (Zzz (us:=us) (by have:=h.1;omega))
  have h8':(8:Int)<(n:Int):=by omega
  clear h8
  go_enter Tryz.func119,Tryz.ntmps119
  go_wp2_with fail
  go_ret
  exact⟨Zav hr.out.symm,Below.refl _ _⟩
theorem Zyz {ao:Option Addr} {n c:Nat} {us:List Stn} {w:World} (h:RdS w ao n us) (hi:UIn us) (h8:n≤8) (hz:∀i (h:i<us.length),(us[i]'h).ph.size≤1099511627776):Calls Tryz.prog 125 #[.slice ao n c] w fun e w'=>e= .returned (.bool (Zee us))∧Below w.heap.size w w':=by
 have hs:=h.2.1
 have HI:=Lib.hid hi;clear hi
 have HZ:=Lib.hid hz;clear hz
 have HN:=Lib.hid h.1
 go_enter Tryz.func125,Tryz.ntmps125
 go_wp2
 go_loopw [3] (fun i wr=>∃k:Nat,k≤n∧i= .int .i64 k∧Hid ((us.take k).all Zed=true)∧Below w.heap.size w wr) (fun i _=>n-(intOf i).toNat)
 case atStart=>exact⟨0,Nat.zero_le _,rfl,Lib.hid rfl,Below.refl _ _⟩
 case round=>
  obtain⟨k,hk,rfl,HA,hb⟩:=hrel
  obtain⟨wo,hwo⟩:∃wo:World,wo=wr:=⟨_,rfl⟩
  subst hwo
  by_cases hlt:k<n
  ·obtain⟨bk,off,rfl,hl,hc0,hc1,hc2,hc3⟩:=(h.below hb).at hlt
   have hu:=HI.out k hl
   have hl0:us[k].l=0:=hu.2.2
   rw[hl0]at hc3
   have HU:=Lib.hid (Z35 hu)
   have hu2:uIn ⟨us[k].nm,us[k].ph,us[k].g,0⟩:=⟨hu.1,hu.2.1,rfl⟩
   have HE:=Lib.hid (show Zed ⟨us[k].nm,us[k].ph,us[k].g,0⟩=Zed us[k]by rw[←HU.out])
   clear hl0 hu
   go_wp2_with fail
   refine(Zy1 us[k].nm us[k].ph us[k].g _ hu2 (HZ.out k hl)).mono ?_;rintro e w2 ⟨rfl,hb2⟩
   rw[HE.out]
   have hB2:=hb.trans (hb2.mono hb.size)
   clear hb2 hc0 hc1 hc2 hc3
   by_cases h1:Zed us[k]=true
   ·rw[h1]
    have HT:=Lib.hid (Zmc hl HA.out h1)
    clear h1
    go_wp2_with fail
    go_roundw
    case rel=>exact⟨k+1,by omega,by go_num,HT,hB2⟩
    case measure=>simp[intOf];omega
   ·have h1':Zed us[k]=false:=by simpa using h1
    rw[h1']
    have hr:=Lib.hid (Zsy hl h1')
    clear h1 h1'
    go_wp2_with fail
    go_ret
    exact⟨Zav hr.out.symm,hB2⟩
  ·have hr:=Lib.hid (Zwz (us:=us) (k:=k) (by have:=HN.out;omega) (by have:=HN.out;omega) HA.out)
   have h8':(n:Int)≤8:=by omega
   go_wp2_with fail
   go_ret
   exact⟨Zav hr.out.symm,hb⟩
theorem Zst {u:Stn} (h:Zed u=true):sprR u.ph u.nm=some (Zbj (Zab u.ph) (Zab u.nm))∧sigB (Zbj (Zab u.ph) (Zab u.nm))=true∧sclR (Zbj (Zab u.ph) (Zab u.nm)) u.g=some (usrL u)∧sigB (usrL u)=true:=by
 obtain⟨h1,h2,h3,h4,h5⟩:=Zg4 h
 have e:(u.ph.size:Int)*u.nm.size=((u.ph.size*u.nm.size:Nat):Int):=by simp
 have hle:u.ph.size*u.nm.size≤3000:=by omega
 have hs1:sigB (Zbj (Zab u.ph) (Zab u.nm))=true:=Zqy (by rw[Zep,Zac,Zac];exact hle) (Zka (Zib _ _) (by omega))
 have hs2:sigB (usrL u)=true:=Zqy (Zp1 h) (Zka (Z1z h) (by omega))
 exact⟨Zt6 h2 h1 hle,hs1,Zpr hs1 (Zax (by omega) (by omega)) hs2,hs2⟩
theorem box4 {w:World} {b:Nat} {x y:ByteArray} {g l:Int} {t:TypeId} (h:Box w b #[.string x,.string y,.int .i64 g,.int .i64 l] t):w.cell? ⟨b,0,none⟩=some (.string x)∧w.cell? ⟨b,1,none⟩=some (.string y)∧w.cell? ⟨b,2,none⟩=some (.int .i64 g)∧w.cell? ⟨b,3,none⟩=some (.int .i64 l):=
 ⟨h.cell (i:=0) rfl,h.cell (i:=1) rfl,h.cell (i:=2) rfl,h.cell (i:=3) rfl⟩
theorem Zrn {w w':World} {r:Option (List Int)} {l:List Int} {e:Ending} (h:RetIntsB w r e w') (hr:r=some l):∃ao n c,e= .returned (.tuple #[.slice ao n c,.bool true])∧Own w' w.heap.size ao n c l∧Below w.heap.size w w':=by
 subst hr;exact h
theorem Zaa6 {ao:Option Addr} {n c:Nat} {us:List Stn} {w:World} (h:RdS w ao n us) (hi:UIn us):Calls Tryz.prog 49 #[.slice ao n c] w (RetIntsB w (sndR us)):=by
 have hs:=h.2.1
 by_cases h1:Zee us=true
 ·have hr:=Lib.hid (Z4p h1)
  have HOK:=Lib.hid (fun k (hk:k<us.length)=>Zrs h1 hk)
  have HI:=Lib.hid hi
  have HSG:=Lib.hid (fun k (hk:k≤us.length)=>Zrk h1 hk)
  have HN:=Lib.hid h.1
  go_enter Tryz.func49,Tryz.ntmps49
  go_wp2_with fail
  refine(Zol h hi).mono ?_;rintro e w1 ⟨rfl,hb1⟩
  rw[h1]
  have hA:=h.below hb1
  clear h1 h hi
  have hz1:=hb1.size
  have ho0:OwnV (w1.alloc (.cells #[] 3)) w.heap.size (.slice (some ⟨w1.heap.size,0,none⟩) 0 0) []:=OwnV.made0 w1 hz1
  have hb0:=hb1.alloc hz1 (.cells #[] 3)
  have hA0:=hA.below ((Below.refl w1.heap.size w1).alloc (Nat.le_refl _) (.cells #[] 3))
  have hbX:Below w1.heap.size w1 (w1.alloc (.cells #[] 3)):=(Below.refl w1.heap.size w1).alloc (Nat.le_refl _) (.cells #[] 3)
  go_wp2_with fail
  go_loopw [4,19] (fun v i wr=>∃k:Nat,k≤n∧i= .int .i64 k∧OwnV wr w.heap.size v (Zhv (us.take k))∧RdS wr ao n us∧Below w.heap.size w wr) (fun _ i _=>n-(intOf i).toNat)
  case atStart=>exact⟨0,Nat.zero_le _,rfl,ho0,hA0,hb0⟩
  case round=>
   clear ho0 hb0 hA0 hbX hA hb1
   obtain⟨k,hk,rfl,hov,hA,hb⟩:=hrel
   obtain⟨wo,hwo⟩:∃wo:World,wo=wr:=⟨_,rfl⟩
   subst hwo
   by_cases hlt:k<n
   ·obtain⟨bk,off,rfl,hl,hc0,hc1,hc2,hc3⟩:=hA.at hlt
    have hu:=HI.out k hl
    have hl0:us[k].l=0:=hu.2.2
    rw[hl0]at hc3
    obtain⟨q1,q2,q3,q4⟩:=Zst (HOK.out k hl)
    have Q1:=Lib.hid q1
    have Q2:=Lib.hid q2
    have Q3:=Lib.hid q3
    have Q4:=Lib.hid q4
    have HT:=Lib.hid (Znw hl)
    have S1:=Lib.hid (HSG.out k (by omega))
    have S2:=Lib.hid (HSG.out (k+1) (by omega))
    clear q1 q2 q3 q4 hl0 hu
    have hlen:(Zhv (us.take k)).length≤1099511627776:=by have:=Zhe S1.out;omega
    obtain⟨av,nv,cv,rfl,ho⟩:=hov.own hlen
    have hz:=hb.size
    have hBx0:=Box.new wo #[.string us[k].nm,.string us[k].ph,.int .i64 us[k].g,.int .i64 0] 76
    have hD0:Below wo.heap.size wo (wo.alloc (.cells #[.string us[k].nm,.string us[k].ph,.int .i64 us[k].g,.int .i64 0] 76)):=(Below.refl _ _).alloc (Nat.le_refl _) _
    have d0:=hBx0.cell (i:=0) rfl
    have d1:=hBx0.cell (i:=1) rfl
    have hzb:=hBx0.lt
    go_wp2_with fail
    refine(Zjz us[k].ph us[k].nm _).mono ?_;rintro e w2 hret
    obtain⟨a2,n2,c2,rfl,ho2,hb2⟩:=Zrn hret Q1.out
    have hBx2:=hBx0.below hb2 hzb
    have hD2:=hD0.trans (hb2.mono hD0.size)
    clear hc0 hc1 hc2 hc3 d0 d1
    have d2:=hBx2.cell (i:=2) rfl
    go_wp2_with fail
    refine(Ziw us[k].g ho2.rd).mono ?_;rintro e w3 hret
    obtain⟨a3,n3,c3,rfl,ho3,hb3⟩:=Zrn hret Q3.out
    have hBx3:=hBx2.below hb3 hBx2.lt
    have hD3:=hD2.trans (hb3.mono hD2.size)
    clear d2 hb2 hb3
    have d3:=hBx3.cell (i:=3) rfl
    go_wp2_with fail
    refine(Zsh ho3.rd Q4.out).mono ?_;rintro e w4 hret
    obtain⟨a4,n4,c4,rfl,ho4,hb4⟩:=hret.some
    have hD4:=hD3.trans (hb4.mono hD3.size)
    have ho5:=ho.below hD4
    clear d3 hb4
    go_wp2_with fail
    refine(Zw4 ho5.rd ho4.rd S1.out Q4.out (by rw[←HT.out];exact S2.out)).mono ?_;rintro e w5 hret
    obtain⟨a6,n6,c6,rfl,ho6,hb6⟩:=hret.some
    have hD6:=hD4.trans (hb6.mono hD4.size)
    have hB6:=hb.trans (hD6.mono hz)
    have hA6:=hA.below hD6
    have hov6:OwnV w5 w.heap.size (.slice a6 n6 c6) (Zhv (us.take (k+1))):=by
     rw[HT.out]
     have:=(ho6.mono (Nat.le_trans hz hD4.size)).2.2
     unfold OwnV
     rw[←ho6.1];exact this
    clear hb6 hov hA hBx0 hBx2 hBx3
    go_wp2_with fail
    go_roundw
    case rel=>exact⟨k+1,by omega,by go_num,hov6,hA6,hB6⟩
    case measure=>simp[intOf];omega
   ·obtain rfl:k=n:=by omega
    rw[List.take_of_length_le (by rw[←HN.out];exact Nat.le_refl _)]at hov
    have S1:=HSG.out us.length (Nat.le_refl _)
    rw[List.take_length]at S1
    obtain⟨av,nv,cv,rfl,ho⟩:=hov.own (by have:=Zhe S1;omega)
    clear S1
    go_wp2_with fail
    go_ret2
    exact⟨_,_,_,by rw[hr.out];rfl,by rw[hr.out];exact ho,hb⟩
 ·have h1':Zee us=false:=by simpa using h1
  have hr:=Lib.hid (Zacu h1')
  go_enter Tryz.func49,Tryz.ntmps49
  go_wp2_with fail
  refine(Zol h hi).mono ?_;rintro e w1 ⟨rfl,hb1⟩
  rw[h1']
  clear h1 h1'
  go_wp2_with fail
  go_ret2
  exact Zbd hr.out hb1
theorem Zac6 {ao:Option Addr} {n c:Nat} {us:List Stn} {w:World} (h:RdS w ao n us) (hi:UIn us) (h1:Zee us=true):Calls Tryz.prog 126 #[.slice ao n c] w (Zdw w (Zhv us)):=by
 have hs:=h.2.1
 have HOK:=Lib.hid (fun k (hk:k<us.length)=>Zrs h1 hk)
 have HI:=Lib.hid hi
 have HSG:=Lib.hid (fun k (hk:k≤us.length)=>Zrk h1 hk)
 have HN:=Lib.hid h.1
 have ho0:OwnV (w.alloc (.cells #[] 3)) w.heap.size (.slice (some ⟨w.heap.size,0,none⟩) 0 0) []:=OwnV.made0 w (Nat.le_refl _)
 have hb0:Below w.heap.size w (w.alloc (.cells #[] 3)):=(Below.refl _ _).alloc (Nat.le_refl _) _
 clear h1 hi
 go_enter Tryz.func126,Tryz.ntmps126
 go_wp2
 go_loopw [3,4] (fun v i wr=>∃k:Nat,k≤n∧i= .int .i64 k∧OwnV wr w.heap.size v (Zhv (us.take k))∧RdS wr ao n us∧Below w.heap.size w wr) (fun _ i _=>n-(intOf i).toNat)
 case atStart=>exact⟨0,Nat.zero_le _,rfl,ho0,h.below hb0,hb0⟩
 case round=>
  clear ho0 hb0 h
  obtain⟨k,hk,rfl,hov,hA,hb⟩:=hrel
  obtain⟨wo,hwo⟩:∃wo:World,wo=wr:=⟨_,rfl⟩
  subst hwo
  by_cases hlt:k<n
  ·obtain⟨bk,off,rfl,hl,hc0,hc1,hc2,hc3⟩:=hA.at hlt
   have hu:=HI.out k hl
   have hl0:us[k].l=0:=hu.2.2
   rw[hl0]at hc3
   have HOKk:=HOK.out k hl
   obtain⟨q1,q2,q3,q4⟩:=Zst HOKk
   obtain⟨p1,p2,p3,_,_⟩:=Zg4 HOKk
   have hp6:=Zem p2
   obtain⟨_,hn255⟩:=Zbg p1
   have PB:=Lib.hid (Zph p1)
   have P3: -1000000≤us[k].g∧us[k].g≤1000000:=by omega
   have Q2:=Lib.hid q2
   have Q4:=Lib.hid q4
   have HT:=Lib.hid (Znw hl)
   have S1:=Lib.hid (HSG.out k (by omega))
   have HUS:=Lib.hid (show Zb9 us[k].g (Zbj (Zab us[k].ph) (Zab us[k].nm))=usrL us[k]from rfl)
   have HLL:=Lib.hid (Zp1 HOKk)
   clear q1 q2 q3 q4 hl0 hu HOKk p1 p2 p3
   have hlen:(Zhv (us.take k)).length≤1099511627776:=by have:=Zhe S1.out;omega
   obtain⟨av,nv,cv,rfl,ho⟩:=hov.own hlen
   have hz:=hb.size
   have hBx0:=Box.new wo #[.string us[k].nm,.string us[k].ph,.int .i64 us[k].g,.int .i64 0] 76
   have hD0:Below wo.heap.size wo (wo.alloc (.cells #[.string us[k].nm,.string us[k].ph,.int .i64 us[k].g,.int .i64 0] 76)):=(Below.refl _ _).alloc (Nat.le_refl _) _
   have hzb:=hBx0.lt
   go_wp2_with fail
   obtain⟨wz,hwz⟩:∃wz:World,wz=(wo.alloc (.cells #[.string us[k].nm,.string us[k].ph,.int .i64 us[k].g,.int .i64 0] 76)).drew:=⟨_,rfl⟩
   have hBz:Box wz wo.heap.size #[.string us[k].nm,.string us[k].ph,.int .i64 us[k].g,.int .i64 0] 76:=by rw[hwz];exact hBx0
   have hDz:Below wo.heap.size wo wz:=by rw[hwz];exact hD0.drew
   have C0:(wo.alloc (.cells #[.string us[k].nm,.string us[k].ph,.int .i64 us[k].g,.int .i64 0] 76)).drew.cell? ⟨wo.heap.size,0,none⟩=some (.string us[k].nm)∧(wo.alloc (.cells #[.string us[k].nm,.string us[k].ph,.int .i64 us[k].g,.int .i64 0] 76)).drew.cell? ⟨wo.heap.size,1,none⟩=some (.string us[k].ph)∧(wo.alloc (.cells #[.string us[k].nm,.string us[k].ph,.int .i64 us[k].g,.int .i64 0] 76)).drew.cell? ⟨wo.heap.size,2,none⟩=some (.int .i64 us[k].g)∧(wo.alloc (.cells #[.string us[k].nm,.string us[k].ph,.int .i64 us[k].g,.int .i64 0] 76)).drew.cell? ⟨wo.heap.size,3,none⟩=some (.int .i64 0):=⟨hBx0.cell (i:=0) rfl,hBx0.cell (i:=1) rfl,hBx0.cell (i:=2) rfl,hBx0.cell (i:=3) rfl⟩
   clear hc0 hc1 hc2 hc3
   go_region_held3 (fun w'=>w'.cell? ⟨wo.heap.size,0,none⟩=some (.string us[k].nm)∧w'.cell? ⟨wo.heap.size,1,none⟩=some (.string us[k].ph)∧w'.cell? ⟨wo.heap.size,2,none⟩=some (.int .i64 us[k].g)∧w'.cell? ⟨wo.heap.size,3,none⟩=some (.int .i64 0)) (with_reducible assumption) (first|(go_at_call 109;refine(Ztl us[k].ph us[k].nm _ hp6 hn255 PB.out).mono ?_;rintro e w2 ⟨a2,n2,c2,rfl,ho2,hb2⟩;rw[←hwz]at hb2;have hBx2:=hBz.below hb2 hBz.lt;have hD2:=hDz.trans (hb2.mono hDz.size);have C1:=box4 hBx2)|(go_at_call 190;refine(Zx7 us[k].g ho2.rd Q2.out P3).mono ?_;rintro e w3 ⟨a3,n3,c3,rfl,ho3,hb3⟩;rw[HUS.out]at ho3;have hBx3:=hBx2.below hb3 hBx2.lt;have hD3:=hD2.trans (hb3.mono hD2.size);have C2:=box4 hBx3)|(go_at_call 189;refine(Z59 ho3.rd (fun h0=>ho3.zeroI h0) (by rw[ho3.1];have:=HLL.out;omega)).mono ?_;rintro e w4 ⟨a4,n4,c4,rfl,ho4,hb4⟩;have hBx4:=hBx3.below hb4 hBx3.lt;have hD4:=hD3.trans (hb4.mono hD3.size);have C3:=box4 hBx4)|(go_at_call 188;refine(Zaiy (ho.below hD4).rd ho4.rd S1.out Q4.out).mono ?_;rintro e w5 ⟨a6,n6,c6,rfl,ho6,hb6⟩;have hBx5:=hBx4.below hb6 hBx4.lt;have hD6:=hD4.trans (hb6.mono hD4.size);have C4:=box4 hBx5))
   all_goals
    have hB6:=hb.trans (hD6.mono hz)
    have hA6:=hA.below hD6
    have hov6:OwnV w5 w.heap.size (.slice a6 n6 c6) (Zhv (us.take (k+1))):=by
     rw[HT.out]
     have:=(ho6.mono (Nat.le_trans hz hD4.size)).2.2
     unfold OwnV
     rw[←ho6.1];exact this
    clear hwz
    go_wp2_with fail
    go_roundw
    case rel=>exact⟨k+1,by omega,by go_num,hov6,hA6,hB6⟩
    case measure=>simp[intOf];omega
  ·obtain rfl:k=n:=by omega
   rw[List.take_of_length_le (by rw[←HN.out];exact Nat.le_refl _)]at hov
   have S1:=HSG.out us.length (Nat.le_refl _)
   rw[List.take_length]at S1
   obtain⟨av,nv,cv,rfl,ho⟩:=hov.own (by have:=Zhe S1;omega)
   clear S1
   go_wp2_with fail
   go_ret
   exact⟨_,_,_,rfl,ho,hb⟩
theorem Z6r {ao:Option Addr} {n c:Nat} {us:List Stn} {w:World} (h:RdS w ao n us) (hi:UIn us) (h8:n≤8) (hz:∀i (h:i<us.length),(us[i]'h).ph.size≤1099511627776):Calls Tryz.prog 52 #[.slice ao n c] w (RetIntsB w (sndR us)):=by
 by_cases h1:Zee us=true
 ·have hr:=Lib.hid (Z4p h1)
  have H1:=Lib.hid h1
  go_enter Tryz.func52,Tryz.ntmps52
  go_wp2_with fail
  refine(Zyz h hi h8 hz).mono ?_;rintro e w1 ⟨rfl,hb1⟩
  rw[h1]
  clear h1
  go_wp2_with fail
  refine(Zac6 (h.below hb1) hi H1.out).mono ?_;rintro e w2 ⟨a2,n2,c2,rfl,ho,hb2⟩
  have hb3:=hb1.trans (hb2.mono hb1.size)
  have ho3:=ho.mono hb1.size
  go_wp2_with fail
  go_ret2
  exact⟨_,_,_,by rw[hr.out];rfl,by rw[hr.out];exact ho3,hb3⟩
 ·have h1':Zee us=false:=by simpa using h1
  have hr:=Lib.hid (Zacu h1')
  go_enter Tryz.func52,Tryz.ntmps52
  go_wp2_with fail
  refine(Zyz h hi h8 hz).mono ?_;rintro e w1 ⟨rfl,hb1⟩
  rw[h1']
  clear h1 h1'
  have ho0:OwnV (w1.alloc (.cells #[] 3)) w.heap.size (.slice (some ⟨w1.heap.size,0,none⟩) 0 0) []:=OwnV.made0 w1 hb1.size
  have hb3:=hb1.alloc hb1.size (.cells #[] 3)
  go_wp2_with fail
  go_ret2
  exact Zc0 ho0 (by simp) (by rw[hr.out];rfl) (by rw[hr.out];rfl) hb3
def Zaew (s:Stn) (d:ByteArray):Stn:=⟨Zfl s.ph,d,s.g/s.l,0⟩
def Zby (l:List Stn) (ds:List ByteArray):List Stn:=List.zipWith Zaew l ds
theorem Zim {l:List Stn} {ds:List ByteArray} (h:ds.length=l.length):(Zby l ds).length=l.length:=by simp[Zby,h]
theorem Zfc {l:List Stn} {ds:List ByteArray} {k:Nat} (h1:k<l.length) (h2:k<ds.length):(Zby l ds)[k]'(by simp[Zby];omega)=Zaew l[k] ds[k]:=by simp[Zby]
theorem Zym {l:List Stn} {ds:List ByteArray} {k:Nat} (h1:k<l.length) (h2:k<ds.length):(Zby l ds).take (k+1)=(Zby l ds).take k++[Zaew l[k] ds[k]]:=by
 rw[List.take_succ_eq_append_getElem (by simp[Zby];omega),Zfc h1 h2]
def csgR (l:List Stn) (ds:List ByteArray):Option (List Int):=if(Zay l&&decide (ds.length=l.length))=true then sndR (Zby l ds)else none
theorem Zagz {l:List Stn} {ds:List ByteArray} (h:Zay l=false):csgR l ds=none:=by simp[csgR,h]
theorem Zah1 {l:List Stn} {ds:List ByteArray} (h:¬ds.length=l.length):csgR l ds=none:=by simp[csgR,h]
theorem Z25 {l:List Stn} {ds:List ByteArray} (h1:Zay l=true) (h2:ds.length=l.length):csgR l ds=sndR (Zby l ds):=by simp[csgR,h1,h2]
theorem Zze {p:ByteArray} (h:Zcq p=true):seqB (Zfl p)=true:=by
 have h6:=Zks (Zcr h)
 have h1:1≤(Zfl p).size:=by unfold Zfl;rw[Zaq,Zic];exact Nat.one_le_two_pow
 have hb:Zan (Zfl p)=true:=by
  unfold Zan
  rw[decide_eq_true (by omega),Bool.true_and]
  unfold allS Zfl text
  rw[List.all_eq_true]
  intro c hc
  simp only[List.mem_map]at hc
  obtain⟨x,hx,rfl⟩:=hc
  rcases Zh8 p p.size x hx with rfl|rfl<;>rfl
 unfold seqB
 rw[hb,Zax (by omega) (by omega)]
 rfl
theorem Zacr {g l:Int} (h:(0≤g∧g≤1000)∧(1≤l∧l≤20)):0≤g/l∧g/l≤1000:=by
 refine⟨Int.ediv_nonneg h.1.1 (by omega),?_⟩
 exact Int.le_trans (Int.ediv_le_self l h.1.1) h.1.2
theorem Zto {l:List Stn} {ds:List ByteArray} (h:Zay l=true):UIn (Zby l ds):=by
 intro i hi
 have h1:i<l.length:=by simp[Zby]at hi;omega
 have h2:i<ds.length:=by simp[Zby]at hi;omega
 rw[Zfc h1 h2]
 have hst:=Zej h h1
 exact⟨Zze (Zg9 hst),Zacr (Ze9 hst),rfl⟩
theorem Z44:(Tryz.prog.info? 76).map (fun i=>(i.zero,i.size,i.bytes))=some (some (.agg #[.string ByteArray.empty,.string ByteArray.empty,.int .i64 0,.int .i64 0]),4,48):=by kernel_rfl
def OwnVU (w:World) (lo:Nat) (v:Value) (l:List Stn):Prop:=w.ownsRow lo 76 4 v l.length (Zbe l)
theorem OwnVU.made0 (w:World) {lo:Nat} (hb:lo≤w.heap.size):OwnVU (w.alloc (.cells #[] 76)) lo (.slice (some ⟨w.heap.size,0,none⟩) 0 0) []:=
 World.ownsRow_lit (size:=4) w #[] 0 hb (Nat.zero_le _) rfl
theorem OwnVU.grown {w w':World} {lo:Nat} {v:Value} {l:List Stn} (h:OwnVU w lo v l) (hg:w.grownBy w' v.ownBlock) (hlo:lo≤w.heap.size):Below lo w w':=
 (Below.refl _ _).grown hg hlo fun k hk=>(h.lt k hk).1
theorem OwnVU.below {w w':World} {lo:Nat} {v:Value} {l:List Stn} (h:OwnVU w lo v l) (hb:Below w.heap.size w w'):OwnVU w' lo v l:=Zam h hb fun k hk=>(h.lt k hk).2
theorem rowRd {w:World} {lo n c:Nat} {t:TypeId} {ao:Option Addr} {l:List Stn} (h:w.ownsRow lo t 4 (.slice ao n c) n (Zbe l)) (hn:n=l.length) (hs:n≤1099511627776):RdS w ao n l:=by
 refine⟨hn,hs,fun i hi=>?_⟩
 rcases h.2 with ⟨h1,h2⟩|⟨g,cap,cur,hv,hr⟩
 ·omega
 ·cases hv
  obtain⟨c0,c1,c2,c3⟩:=Zj5 hi
  refine⟨g,0,rfl,?_,?_,?_,?_⟩
  ·rw[Nat.zero_add,h.cellAt _ (by omega)];exact c0
  ·rw[Nat.zero_add,h.cellAt _ (by omega)];exact c1
  ·rw[Nat.zero_add,h.cellAt _ (by omega)];exact c2
  ·rw[Nat.zero_add,h.cellAt _ (by omega)];exact c3
theorem OwnVU.own {w:World} {lo:Nat} {v:Value} {l:List Stn} (h:OwnVU w lo v l) (hs:l.length≤1099511627776):∃ao n c,v= .slice ao n c∧RdS w ao n l:=by
 rcases h.2 with ⟨hv,hl⟩|⟨g,cap,cur,hv,hr⟩
 ·refine⟨none,0,0,hv,?_⟩
  have h0:l=[]:=List.eq_nil_of_length_eq_zero hl
  subst h0
  exact RdS.nil w
 ·subst hv
  exact⟨_,_,_,rfl,rowRd h rfl hs⟩
theorem Z6e {w:World} {lo g n c:Nat} {t:TypeId} {M:List Stn} (h:w.ownsRow lo t 4 (.slice (some ⟨g,0,none⟩) n c) n (Zbe M)) {k:Nat} (hk:k<n):
 (∃a b x y,w.cell? ⟨g,k*4,none⟩=some (.string a)∧w.cell? ⟨g,k*4+1,none⟩=some (.string b)∧w.cell? ⟨g,k*4+2,none⟩=some (.int .i64 x)∧w.cell? ⟨g,k*4+3,none⟩=some (.int .i64 y))∧
 w.frozen? ⟨g,k*4,none⟩=false∧w.frozen? ⟨g,k*4+1,none⟩=false∧w.frozen? ⟨g,k*4+2,none⟩=false∧w.frozen? ⟨g,k*4+3,none⟩=false:=by
 have hl:k<M.length:=by have:=h.1;rw[Zcb]at this;omega
 obtain⟨d0,d1,d2,d3⟩:=Zj5 hl
 refine⟨⟨M[k].nm,M[k].ph,M[k].g,M[k].l,?_,?_,?_,?_⟩,h.frozenAt _,h.frozenAt _,h.frozenAt _,h.frozenAt _⟩
 ·rw[h.cellAt _ (by omega)];exact d0
 ·rw[h.cellAt _ (by omega)];exact d1
 ·rw[h.cellAt _ (by omega)];exact d2
 ·rw[h.cellAt _ (by omega)];exact d3
theorem Zaeu {w:World} {lo g n c:Nat} {t:TypeId} {M:List Stn} (h:w.ownsRow lo t 4 (.slice (some ⟨g,0,none⟩) n c) n (Zbe M)) {k:Nat} (hk:k<n) (s:Stn):
 ((((w.setCell ⟨g,k*4,none⟩ (.string s.nm)).setCell ⟨g,k*4+1,none⟩ (.string s.ph)).setCell ⟨g,k*4+2,none⟩ (.int .i64 s.g)).setCell ⟨g,k*4+3,none⟩ (.int .i64 s.l)).ownsRow lo t 4 (.slice (some ⟨g,0,none⟩) n c) n (Zbe (M.set k s)):=by
 have hl:k<M.length:=by have:=h.1;rw[Zcb]at this;omega
 rw[←Zti s hl]
 exact((((h.stored (k*4) (.string s.nm)).1.stored (k*4+1) (.string s.ph)).1.stored (k*4+2) (.int .i64 s.g)).1.stored (k*4+3) (.int .i64 s.l)).1
theorem Zjq {w:World} {b b0 o o0 o1 o2 o3:Nat} {v:Value} (hne:b≠b0) (h:w.cell? ⟨b,o,none⟩=some v) (x0 x1 x2 x3:Value):
 ((((w.setCell ⟨b0,o0,none⟩ x0).setCell ⟨b0,o1,none⟩ x1).setCell ⟨b0,o2,none⟩ x2).setCell ⟨b0,o3,none⟩ x3).cell? ⟨b,o,none⟩=some v:=by
 have e:∀(w:World) (i:Nat) (x:Value),(w.setCell ⟨b0,i,none⟩ x).cell? ⟨b,o,none⟩=w.cell? ⟨b,o,none⟩:=fun w i x=>by
  apply World.cell?_of_block
  exact Below.heap_setCell _ _ _ _ hne
 rw[e,e,e,e];exact h
theorem Z9y {w:World} {b b' b0 o o0 o1 o2 o3 p0 p1 p2 p3:Nat} {v v0 v1 v2 v3:Value} (hne:b≠b0) (hne':b'≠b0)
 (h:w.cell? ⟨b,o,none⟩=some v∧w.cell? ⟨b',p0,none⟩=some v0∧w.cell? ⟨b',p1,none⟩=some v1∧w.cell? ⟨b',p2,none⟩=some v2∧w.cell? ⟨b',p3,none⟩=some v3) (x0 x1 x2 x3:Value):
 ((((w.setCell ⟨b0,o0,none⟩ x0).setCell ⟨b0,o1,none⟩ x1).setCell ⟨b0,o2,none⟩ x2).setCell ⟨b0,o3,none⟩ x3).cell? ⟨b,o,none⟩=some v∧
 ((((w.setCell ⟨b0,o0,none⟩ x0).setCell ⟨b0,o1,none⟩ x1).setCell ⟨b0,o2,none⟩ x2).setCell ⟨b0,o3,none⟩ x3).cell? ⟨b',p0,none⟩=some v0∧
 ((((w.setCell ⟨b0,o0,none⟩ x0).setCell ⟨b0,o1,none⟩ x1).setCell ⟨b0,o2,none⟩ x2).setCell ⟨b0,o3,none⟩ x3).cell? ⟨b',p1,none⟩=some v1∧
 ((((w.setCell ⟨b0,o0,none⟩ x0).setCell ⟨b0,o1,none⟩ x1).setCell ⟨b0,o2,none⟩ x2).setCell ⟨b0,o3,none⟩ x3).cell? ⟨b',p2,none⟩=some v2∧
 ((((w.setCell ⟨b0,o0,none⟩ x0).setCell ⟨b0,o1,none⟩ x1).setCell ⟨b0,o2,none⟩ x2).setCell ⟨b0,o3,none⟩ x3).cell? ⟨b',p3,none⟩=some v3:=by
 obtain⟨h0,h1,h2,h3,h4⟩:=h
 exact⟨Zjq hne h0 _ _ _ _,Zjq hne' h1 _ _ _ _,Zjq hne' h2 _ _ _ _,Zjq hne' h3 _ _ _ _,Zjq hne' h4 _ _ _ _⟩
theorem Zage {ops:Array Oper} {rest:List Oper} {o:Oper} {a:Act} {Q:Exit→Act→World→Prop} (w:World) (hgd:o.guard=none) (s x:Operand)
 (hop:o.op=Op.makeSlice 73 s x) (kl kc:IntKind) (n:Nat) (hs:a.eval s= .int kl n) (hx:a.eval x= .int kc n) (hn:n≤1099511627776)
 (h:∀w',w'.ownsRow w.heap.size 76 4 (.slice (some ⟨w.heap.size,0,none⟩) n n) n (Zbe (List.replicate n zstn))→Below w.heap.size w w'→
   wpList Tryz.prog ops Q rest (a.put o.dst (.slice (some ⟨w.heap.size,0,none⟩) n n)) w'):
 wpList Tryz.prog ops Q (o::rest) a w:=by
 obtain⟨i0,hi,hz0,hz1,hz2⟩:=info_parts Z44
 refine wpList_make_full w hgd s x 73 hop w.heap.size 76 i0 _ 4 Tryz.underlying73 hi hz0 hz1 kl kc n n n hs hx rfl rfl (by rw[hz2];omega) (by unfold maxLen;omega) (Nat.le_refl _) ?_
 intro w1 h1 h2
 exact h w1 ((Zu4 n)▸h1) ((Below.refl _ _).grown h2 (Nat.le_refl _) (by intro k hk;cases hk))
theorem Z6c {ops:Array Oper} {o:Oper} {a:Act} {K:Act→World→Prop} {Q:Exit→Act→World→Prop} {E:Prop} (wr:World) (hgd:o.guard=none) (s x:Operand)
 (ho:o.op= .call {callee:=.builtin .append,args:= #[s,x],argTypes:= #[73,73]})
 (lo:Nat) (v:Value) (l:List Stn) (u:Stn) (ad:Addr) (hs:a.eval s=v) (hown:OwnVU wr lo v l) (hx:a.eval x= .slice (some ad) 1 1) (hr:RdS wr (some ad) 1 [u])
 (hlen:l.length≤1099511627000) (hlo:lo≤wr.heap.size)
 (h:∀v' w',OwnVU w' lo v' (l++[u])→wr.grownBy w' v.ownBlock→Below lo wr w'→K (a.put o.dst v') w'):
 if Region.wanted o (yielded ops a.tmps)=true then Oper.wp Tryz.prog o a wr K Q else E:=by
 have hw:Region.wanted o (yielded ops a.tmps)=true:=by simp[Region.wanted,hgd]
 rw[if_pos hw]
 obtain⟨i0,hi,hz0,hz1,hz2⟩:=info_parts Z44
 refine wp_append_own wr s x 73 ho lo 76 i0 _ 4 48 Tryz.underlying73 hi hz0 hz1 hz2 rfl (by decide) v l.length (Zbe l) hs hown
  ad 1 1 (Zbe [u]) hx (by rw[Zcb];rfl) hr.news (Znp [u]) (by unfold maxLen;omega) (by omega) hlo ?_
 intro v' w1 h1 h2 _
 refine h v' w1 ?_ h2 (hown.grown h2 hlo)
 unfold OwnVU
 rw[List.length_append,Zi1]
 exact h1
theorem Zod {ao bo:Option Addr} {n c m d:Nat} {l:List Stn} {ds:List ByteArray} {w:World} (h:RdS w ao n l) (hcap:n≤c) (h':RdT w bo m ds):
 Calls Tryz.prog 10 #[.slice ao n c,.slice bo m d] w (RetIntsB w (csgR l ds)):=by
 have hs:=h.2.1
 have HN:=Lib.hid h.1
 have HM:=Lib.hid h'.1
 by_cases h1:Zay l=true
 ·by_cases h2:m=n
  ·subst h2
   have h8:=Zjc h1
   have hn8:m≤8:=by rw[HN.out];exact h8
   have HC:=Lib.hid h1
   have hr:=Lib.hid (Z25 h1 (ds:=ds) (by rw[←HM.out,←HN.out]))
   have HU:=Lib.hid (Zto (ds:=ds) h1)
   have HUL:=Lib.hid (show(Zby l ds).length=m by rw[Zim (by rw[←HM.out,←HN.out]),←HN.out])
   clear h8
   go_enter Tryz.func10,Tryz.ntmps10
   go_wp2_with fail
   refine(Zba h hcap).mono ?_;rintro e w1 ⟨rfl,hb1⟩
   rw[h1]
   have hA:=h.below hb1
   have hD:=h'.below hb1
   clear h1 h h'
   have hz1:=hb1.size
   go_wp2_with (at_make;refine Zage _ rfl _ _ rfl .i64 .i64 m rfl rfl (by omega) ?_;intro w2 hown0 hb2)
   have hown:=Zj1 hown0 hz1
   have hAlt:∀b,ao=some b→0<m→b.block<w1.heap.size:=hA.lt
   have hDlt:∀b,bo=some b→0<m→b.block<w1.heap.size:=hD.lt
   obtain⟨g,hg⟩:∃g,g=w1.heap.size:=⟨_,rfl⟩
   rw[←hg]at hown hAlt hDlt hz1 hb2
   rw[←hg]
   have HG:=Lib.hid hg
   clear hown0 hg
   go_wp2_with fail
   go_loopw [26] (fun i wr=>∃k:Nat,k≤m∧i= .int .i64 k∧wr.ownsRow w.heap.size 76 4 (.slice (some ⟨g,0,none⟩) m m) m (Zbe ((Zby l ds).take k++(List.replicate m zstn).drop k))∧Below g w1 wr) (fun i _=>m-(intOf i).toNat)
   case atStart=>exact⟨0,Nat.zero_le _,rfl,by simpa using hown,hb2⟩
   case round=>
    clear hown hb2
    obtain⟨k,hk,rfl,hown,hb⟩:=hrel
    obtain⟨wo,hwo⟩:∃wo:World,wo=wr:=⟨_,rfl⟩
    subst hwo
    have hgz:=(hown.lt g rfl).2
    have hz:g≤wo.heap.size:=Nat.le_of_lt hgz
    have hbG:Below w1.heap.size w1 wo:=by rw[←HG.out];exact hb
    have hA:=hA.below hbG
    have hD:=hD.below hbG
    clear hgz
    by_cases hlt:k<m
    ·obtain⟨bk,off,rfl,hl,hc0,hc1,hc2,hc3⟩:=hA.at hlt
     obtain⟨bd,od,rfl,hld,hdc⟩:=hD.at hlt
     have hst:=Zej HC.out hl
     have HP:=Lib.hid (Zg9 hst)
     have HQ:=Lib.hid (show Z63 l[k].nm l[k].ph l[k].g l[k].l=l[k].g/l[k].l from Zx0 hst)
     have hbdg:bd≠g:=by have:=hDlt _ rfl (by omega);simp at this;omega
     clear hst
     have hul:k<(Zby l ds).length:=by rw[HUL.out];exact hlt
     have HNX:=Lib.hid (Zi2 hul (show(List.replicate m zstn).length=(Zby l ds).length by rw[List.length_replicate,HUL.out]))
     have HGT:=Lib.hid (Zfc hl hld)
     have hgl0:=(hown.lt g rfl).1
     have hgl:=(hown.lt g rfl).2
     have hBx:=Box.new wo #[.string l[k].nm,.string l[k].ph,.int .i64 l[k].g,.int .i64 l[k].l] 37
     have hB0:Below wo.heap.size wo (wo.alloc (.cells #[.string l[k].nm,.string l[k].ph,.int .i64 l[k].g,.int .i64 l[k].l] 37)):=(Below.refl _ _).alloc (Nat.le_refl _) _
     have hlt0:=hBx.lt
     have d1:=hBx.cell (i:=1) rfl
     go_wp2_with fail
     refine(Znq _ _ HP.out).mono ?_;rintro e w3 ⟨rfl,hb3⟩
     rw[show text (Zdh l[k].ph l[k].ph.size)=Zfl l[k].ph from rfl]
     have hBy:=hBx.below hb3 hlt0
     have hB3:=hB0.trans (hb3.mono hB0.size)
     have hown3:=Zam hown hB3 fun j hj=>(hown.lt j hj).2
     have hA3:=hA.below hB3
     have hD3:=hD.below hB3
     have hdc3:=(hB3.cell (Zaa hdc)).trans hdc
     have hbw3:=hb.trans (hB3.mono hz)
     have hz3:g≤w3.heap.size:=by have:=hB3.size;omega
     have hBlt:=hBy.lt
     have hBg:wo.heap.size≠g:=by omega
     generalize wo.heap.size=B at*
     clear hc0 hc1 hc2 hc3 hdc d1 hBx hB0 hb3 hlt0 hown hA hD hb hB3 hbG hgl hz hA3 hD3
     have c4:=box4 hBy
     have C0:w3.drew.cell? ⟨bd,od+k,none⟩=some (.string ds[k])∧w3.drew.cell? ⟨B,0,none⟩=some (.string l[k].nm)∧w3.drew.cell? ⟨B,1,none⟩=some (.string l[k].ph)∧w3.drew.cell? ⟨B,2,none⟩=some (.int .i64 l[k].g)∧w3.drew.cell? ⟨B,3,none⟩=some (.int .i64 l[k].l):=⟨hdc3,c4⟩
     clear c4
     go_wp2_with fail
     go_region_held3 (fun w'=>w'.cell? ⟨bd,od+k,none⟩=some (.string ds[k])∧w'.cell? ⟨B,0,none⟩=some (.string l[k].nm)∧w'.cell? ⟨B,1,none⟩=some (.string l[k].ph)∧w'.cell? ⟨B,2,none⟩=some (.int .i64 l[k].g)∧w'.cell? ⟨B,3,none⟩=some (.int .i64 l[k].l)) (first|with_reducible exact C0|with_reducible exact C1|exact Z9y hbdg hBg C1 _ _ _ _) (first|(go_at_call 48;refine(Zxq _ _ _ _ _).mono ?_;rintro e w4 ⟨rfl,hb4⟩;rw[HQ.out];have hb5:Below w3.heap.size w3 w4:=(Below.drew (Below.refl w3.heap.size w3)).trans hb4;have hown4:=Zam hown3 hb5 (fun j hj=>(hown3.lt j hj).2);have C1:=And.intro ((hb5.cell (Zaa hdc3)).trans hdc3) (box4 (hBy.below hb5 hBlt));obtain⟨⟨x0,x1,x2,x3,f0,f1,f2,f3⟩,g0,g1,g2,g3⟩:=Z6e hown4 hlt))
     all_goals
      have hp:=Zaeu hown4 hlt (Zaew l[k] ds[k])
      rw[←HGT.out,HNX.out,HGT.out]at hp
      have hbw4:=hbw3.trans (hb5.mono hz3)
      have hbw5:=(((hbw4.setCell (p:=⟨g,k*4,none⟩) (Nat.le_refl _) (.string (Zfl l[k].ph))).setCell (p:=⟨g,k*4+1,none⟩) (Nat.le_refl _) (.string ds[k])).setCell (p:=⟨g,k*4+2,none⟩) (Nat.le_refl _) (.int .i64 (l[k].g/l[k].l))).setCell (p:=⟨g,k*4+3,none⟩) (Nat.le_refl _) (.int .i64 0)
      go_wp2_with fail
      go_roundw
      case rel=>exact⟨k+1,by omega,by go_num,hp,hbw5⟩
      case measure=>simp[intOf];omega
    ·obtain rfl:k=m:=by omega
     rw[List.take_of_length_le (by rw[HUL.out];exact Nat.le_refl _),List.drop_of_length_le (by simp),List.append_nil]at hown
     have hR:=rowRd hown HUL.out.symm (by omega)
     have hbw:=hb1.trans (hbG.mono hb1.size)
     have hzw:=hbw.size
     clear hA hD hlt
     go_wp2_with fail
     refine(Zaa6 hR HU.out).mono ?_;rintro e w5 ⟨a5,n5,c5,rfl,ho5,hb5⟩
     go_wp2_with fail
     go_ret2
     exact⟨_,_,_,by rw[hr.out];rfl,by rw[hr.out];exact ho5.mono hzw,hbw.trans (hb5.mono hzw)⟩
  ·have hr:=Lib.hid (Zah1 (l:=l) (ds:=ds) (by rw[←HM.out,←HN.out];exact h2))
   have h2':((m:Int)==(n:Int))=false:=by rw[beq_eq_false_iff_ne];omega
   go_enter Tryz.func10,Tryz.ntmps10
   go_wp2_with fail
   refine(Zba h hcap).mono ?_;rintro e w1 ⟨rfl,hb1⟩
   rw[h1]
   clear h1
   go_wp2_with fail
   go_ret2
   exact Zbd hr.out hb1
 ·have h1':Zay l=false:=by simpa using h1
  have hr:=Lib.hid (Zagz (ds:=ds) h1')
  go_enter Tryz.func10,Tryz.ntmps10
  go_wp2_with fail
  refine(Zba h hcap).mono ?_;rintro e w1 ⟨rfl,hb1⟩
  rw[h1']
  clear h1 h1'
  go_wp2_with fail
  go_ret2
  exact Zbd hr.out hb1
theorem Ztj {w w':World} {b b' o0 o1 o2 o':Nat} {v0 v1 v2 v:Value} (hb:Below w.heap.size w w')
 (h:w.cell? ⟨b,o0,none⟩=some v0∧w.cell? ⟨b,o1,none⟩=some v1∧w.cell? ⟨b,o2,none⟩=some v2∧w.cell? ⟨b',o',none⟩=some v):
 w'.cell? ⟨b,o0,none⟩=some v0∧w'.cell? ⟨b,o1,none⟩=some v1∧w'.cell? ⟨b,o2,none⟩=some v2∧w'.cell? ⟨b',o',none⟩=some v:=by
 obtain⟨h0,h1,h2,h3⟩:=h
 exact⟨(hb.cell (Zaa h0)).trans h0,(hb.cell (Zaa h1)).trans h1,(hb.cell (Zaa h2)).trans h2,(hb.cell (Zaa h3)).trans h3⟩
theorem Zad1 {B:Nat} {w w':World} {b b' o0 o1 o2 o':Nat} {v0 v1 v2 v:Value} (hb:Below B w w') (h1:b<B) (h2:b'<B)
 (h:w.cell? ⟨b,o0,none⟩=some v0∧w.cell? ⟨b,o1,none⟩=some v1∧w.cell? ⟨b,o2,none⟩=some v2∧w.cell? ⟨b',o',none⟩=some v):
 w'.cell? ⟨b,o0,none⟩=some v0∧w'.cell? ⟨b,o1,none⟩=some v1∧w'.cell? ⟨b,o2,none⟩=some v2∧w'.cell? ⟨b',o',none⟩=some v:=by
 obtain⟨c0,c1,c2,c3⟩:=h
 exact⟨(hb.cell h1).trans c0,(hb.cell h1).trans c1,(hb.cell h1).trans c2,(hb.cell h2).trans c3⟩
theorem Zu2 {ao bo:Option Addr} {n c m d:Nat} {l:List Stn} {ds:List ByteArray} {w:World} (h:RdS w ao n l) (h':RdT w bo m ds) (hm2:∀i (h:i<l.length),(l[i]'h).nm.size≤1099511627776∧(l[i]'h).ph.size≤1099511627776) (hds:∀i (h:i<ds.length),(ds[i]'h).size≤1099511627776):
 Calls Tryz.prog 11 #[.slice ao n c,.slice bo m d] w (RetIntsB w (csgR l ds)):=by
 have hs:=h.2.1
 have HN:=Lib.hid h.1
 have HM:=Lib.hid h'.1
 have HM2:=Lib.hid hm2;clear hm2
 by_cases h1:Zay l=true
 ·by_cases h2:m=n
  ·subst h2
   have h8:=Zjc h1
   have hn8:m≤8:=by rw[HN.out];exact h8
   have HC:=Lib.hid h1
   have hr:=Lib.hid (Z25 h1 (ds:=ds) (by rw[←HM.out,←HN.out]))
   have HU:=Lib.hid (Zto (ds:=ds) h1)
   have HUL:=Lib.hid (show(Zby l ds).length=m by rw[Zim (by rw[←HM.out,←HN.out]),←HN.out])
   have HUZ:=Lib.hid (show ∀i (h:i<(Zby l ds).length),((Zby l ds)[i]'h).ph.size≤1099511627776 by
    intro i hi
    have h1:i<l.length:=by simp[Zby]at hi;omega
    have h2:i<ds.length:=by simp[Zby]at hi;omega
    rw[Zfc h1 h2]
    exact hds i h2)
   clear h8 hds
   go_enter Tryz.func11,Tryz.ntmps11
   go_wp2_with fail
   refine(Za8 h HM2.out).mono ?_;rintro e w1 ⟨rfl,hb1⟩
   rw[h1]
   have hA:=h.below hb1
   have hD:=h'.below hb1
   clear h1 h h'
   have hz1:=hb1.size
   have hAlt:∀b,ao=some b→0<m→b.block<w1.heap.size:=hA.lt
   have hDlt:∀b,bo=some b→0<m→b.block<w1.heap.size:=hD.lt
   have ho0:OwnVU (w1.alloc (.cells #[] 76)) w1.heap.size (.slice (some ⟨w1.heap.size,0,none⟩) 0 0) []:=OwnVU.made0 w1 (Nat.le_refl _)
   have hb0:Below w1.heap.size w1 (w1.alloc (.cells #[] 76)):=(Below.refl _ _).alloc (Nat.le_refl _) _
   go_wp2_with fail
   go_loopw [6,7] (fun v i wr=>∃k:Nat,k≤m∧i= .int .i64 k∧OwnVU wr w1.heap.size v ((Zby l ds).take k)∧Below w1.heap.size w1 wr) (fun _ i _=>m-(intOf i).toNat)
   case atStart=>exact⟨0,Nat.zero_le _,rfl,ho0,hb0⟩
   case round=>
    clear ho0 hb0
    obtain⟨k,hk,rfl,hov,hb⟩:=hrel
    obtain⟨wo,hwo⟩:∃wo:World,wo=wr:=⟨_,rfl⟩
    subst hwo
    have hz:=hb.size
    have hA:=hA.below hb
    have hD:=hD.below hb
    by_cases hlt:k<m
    ·obtain⟨bk,off,rfl,hl,hc0,hc1,hc2,hc3⟩:=hA.at hlt
     obtain⟨bd,od,rfl,hld,hdc⟩:=hD.at hlt
     have hst:=Zej HC.out hl
     have h6:=Zcr (Zg9 hst)
     obtain⟨hg,hll⟩:=Ze9 hst
     obtain⟨q,hq⟩:∃q,q=l[k].g/l[k].l:=⟨_,rfl⟩
     have hqb:0≤q∧q≤1000:=by rw[hq];exact Zacr ⟨hg,hll⟩
     have a1:(l[k].g).tdiv l[k].l=q:=by rw[hq];exact Int.tdiv_eq_ediv_of_nonneg hg.1
     have a2:l[k].g/l[k].l=q:=hq.symm
     have a3:IntKind.i64.wrap q=q:=IntWalk.i64_in _ (by omega)
     have a4:¬l[k].l=0:=by omega
     have hbk:bk<w1.heap.size:=by have:=hAlt _ rfl (by omega);simpa using this
     have hbd:bd<w1.heap.size:=by have:=hDlt _ rfl (by omega);simpa using this
     have HT:=Lib.hid (show(Zby l ds).take (k+1)=(Zby l ds).take k++[⟨Zfl l[k].ph,ds[k],q,0⟩]by rw[Zym hl hld,hq];rfl)
     have hul:((Zby l ds).take k).length≤8:=by rw[List.length_take,HUL.out];omega
     have HUK:=Lib.hid hul
     have C0:wo.drew.cell? ⟨bk,off+k*4+1,none⟩=some (.string l[k].ph)∧wo.drew.cell? ⟨bk,off+k*4+2,none⟩=some (.int .i64 l[k].g)∧wo.drew.cell? ⟨bk,off+k*4+3,none⟩=some (.int .i64 l[k].l)∧wo.drew.cell? ⟨bd,od+k,none⟩=some (.string ds[k]):=⟨hc1,hc2,hc3,hdc⟩
     clear hst hq hg hll hqb hul hA hD hc0
     go_wp2_with fail
     go_region_held3 (fun w'=>w'.cell? ⟨bk,off+k*4+1,none⟩=some (.string l[k].ph)∧w'.cell? ⟨bk,off+k*4+2,none⟩=some (.int .i64 l[k].g)∧w'.cell? ⟨bk,off+k*4+3,none⟩=some (.int .i64 l[k].l)∧w'.cell? ⟨bd,od+k,none⟩=some (.string ds[k])) (first|with_reducible exact C0|with_reducible exact C1|with_reducible exact C2|with_reducible exact C3) (first|(go_at_call 51;refine(Zuw l[k].ph _ h6).mono ?_;rintro e w3 ⟨rfl,hb3⟩;rw[show text (Zdh l[k].ph l[k].ph.size)=Zfl l[k].ph from rfl];have hb4:Below wo.heap.size wo w3:=(Below.drew (Below.refl wo.heap.size wo)).trans hb3;have hov3:=hov.below hb4;have C1:=Ztj hb4 ⟨hc1,hc2,hc3,hdc⟩;have hb5:Below w3.heap.size w3 (w3.alloc (.cells #[.string (Zfl l[k].ph),.string ds[k],.int .i64 q,.int .i64 0] 76)):=(Below.refl _ _).alloc (Nat.le_refl _) _;have C2:=Ztj hb5 C1;have hov5:=hov3.below hb5;have hz3:=hb4.size)|(refine Z6c (w3.alloc (.cells #[.string (Zfl l[k].ph),.string ds[k],.int .i64 q,.int .i64 0] 76)) rfl (.tmp 26) (.tmp 49) rfl w1.heap.size _ ((Zby l ds).take k) ⟨Zfl l[k].ph,ds[k],q,0⟩ ⟨w3.heap.size,0,none⟩ rfl (by exact hov5) rfl (by exact Zq6 w3 ⟨Zfl l[k].ph,ds[k],q,0⟩ _) (by have:=HUK.out;omega) (by have:=hb5.size;omega) ?_;intro v' w5 ho5 _ hb6;have C3:=Zad1 hb6 hbk hbd C2))
     all_goals
      have hB5:=((hb.trans (hb4.mono hz)).trans (hb5.mono (by omega))).trans hb6
      rw[←HT.out]at ho5
      clear a1 a2 a3 a4
      go_wp2_with fail
      go_roundw
      case rel=>exact⟨k+1,by omega,by go_num,ho5,hB5⟩
      case measure=>simp[intOf];omega
    ·obtain rfl:k=m:=by omega
     rw[List.take_of_length_le (by rw[HUL.out];exact Nat.le_refl _)]at hov
     obtain⟨av,nv,cv,rfl,hR⟩:=hov.own (by rw[HUL.out];omega)
     have hnv:nv≤8:=by rw[hR.1,HUL.out];exact hn8
     have hbw:=hb1.trans (hb.mono hb1.size)
     have hzw:=hbw.size
     clear hA hD hlt
     go_wp2_with fail
     refine(Z6r hR HU.out hnv HUZ.out).mono ?_;rintro e w5 ⟨a5,n5,c5,rfl,ho5,hb5⟩
     go_wp2_with fail
     go_ret2
     exact⟨_,_,_,by rw[hr.out];rfl,by rw[hr.out];exact ho5.mono hzw,hbw.trans (hb5.mono hzw)⟩
  ·have hr:=Lib.hid (Zah1 (l:=l) (ds:=ds) (by rw[←HM.out,←HN.out];exact h2))
   have h2':((m:Int)==(n:Int))=false:=by rw[beq_eq_false_iff_ne];omega
   go_enter Tryz.func11,Tryz.ntmps11
   go_wp2_with fail
   refine(Za8 h HM2.out).mono ?_;rintro e w1 ⟨rfl,hb1⟩
   rw[h1]
   clear h1
   have ho0:OwnV (w1.alloc (.cells #[] 3)) w.heap.size (.slice (some ⟨w1.heap.size,0,none⟩) 0 0) []:=OwnV.made0 w1 hb1.size
   have hb3:=hb1.alloc hb1.size (.cells #[] 3)
   go_wp2_with fail
   go_ret2
   exact Zc0 ho0 (by simp) (by rw[hr.out];rfl) (by rw[hr.out];rfl) hb3
 ·have h1':Zay l=false:=by simpa using h1
  have hr:=Lib.hid (Zagz (ds:=ds) h1')
  go_enter Tryz.func11,Tryz.ntmps11
  go_wp2_with fail
  refine(Za8 h HM2.out).mono ?_;rintro e w1 ⟨rfl,hb1⟩
  rw[h1']
  clear h1 h1'
  have ho0:OwnV (w1.alloc (.cells #[] 3)) w.heap.size (.slice (some ⟨w1.heap.size,0,none⟩) 0 0) []:=OwnV.made0 w1 hb1.size
  have hb3:=hb1.alloc hb1.size (.cells #[] 3)
  go_wp2_with fail
  go_ret2
  exact Zc0 ho0 (by simp) (by rw[hr.out];rfl) (by rw[hr.out];rfl) hb3
def sm (f:Nat→Int):Nat→Int
 |0=>0
 |k+1=>sm f k+f k
theorem Z4m {f g:Nat→Int}:∀{k:Nat},(∀i,i<k→f i=g i)→sm f k=sm g k
 |0,_=>rfl
 |k+1,h=>by unfold sm;rw[Z4m fun i hi=>h i (by omega),h k (by omega)]
theorem sm_mul (c:Int) (f:Nat→Int):∀k,sm (fun i=>c*f i) k=c*sm f k
 |0=>by simp[sm]
 |k+1=>by simp only[sm];rw[sm_mul c f k,Int.mul_add]
theorem Z4q (c:Int):∀k:Nat,sm (fun _=>c) k=c*k
 |0=>by simp[sm]
 |k+1=>by simp only[sm];rw[Z4q c k,Int.natCast_add,Int.mul_add];simp
theorem Zail (l s:List Int) (f k:Nat):dotN l s f k=sm (fun i=>Zbk (s.getD i 0)*l.getD (f+i) 0) k:=by
 induction k with
 |zero=>rfl
 |succ k ih=>simp only[dotN,sm];rw[ih]
theorem Zadu (x:Int):Zbk x*Zbk x=1:=by rcases Zpm x with h|h<;>rw[h]<;>rfl
theorem Z7f {l:List Stn} (h:Zay l=true) {k:Nat} (hk:k<l.length):idxS l l[k].nm=k:=by
 refine Z0k hk (fun j hj=>?_) (by simp)
 have:=(cellB_iff.1 h).2.2
 rw[List.pairwise_iff_getElem]at this
 exact(this j k (by omega) hk hj).1
theorem Z7w {s:ByteArray} (h:Zan s=true) {j:Nat} (hj:j<s.size):Za7 ((Zab s).getD j 0):=by
 have hl:j<(Zab s).length:=by rw[Zac];exact hj
 rw[Zc9 hl];exact Zkf h _ (List.getElem_mem hl)
theorem Zaj7 {v:Int} {b:Int} (hv:0<v) (hb:Za7 b):Zl4 (v*Zbk b)=b:=by
 rcases hb with rfl|rfl
 ·have:Zbk 48=1:=rfl
  rw[this,Int.mul_one];unfold Zl4;rw[if_neg (by omega)]
 ·have:Zbk 49= -1:=rfl
  rw[this];unfold Zl4;rw[if_pos (by omega)]
theorem Zg3 {l:List Stn} {ds:List ByteArray} {L:List Int} (h:csgR l ds=some L):Zay l=true∧ds.length=l.length∧Zee (Zby l ds)=true∧L=Zhv (Zby l ds)∧sigB L=true:=by
 unfold csgR at h
 split at h
 ·next hc=>
  rw[Bool.and_eq_true,decide_eq_true_eq]at hc
  unfold sndR at h
  split at h
  ·next hu=>
   obtain rfl:=Option.some.inj h
   have:=Zrk hu (Nat.le_refl _)
   rw[List.take_length]at this
   exact⟨hc.1,hc.2,hu,rfl,this⟩
  ·cases h
 ·cases h
theorem Zad6 {l:List Stn} {ds:List ByteArray} {L:List Int} (h:csgR l ds=some L) {k:Nat} (hk:k<ds.length):Zan ds[k]=true:=by
 obtain⟨hc,hd,hu,_,_⟩:=Zg3 h
 have hk':k<l.length:=by omega
 have:=Zrs hu (k:=k) (by rw[Zim hd];exact hk')
 rw[Zfc hk' hk]at this
 exact(Zg4 this).2.1
theorem Z2t {l:List Stn} {s:List Int} {k:Nat} {m:Nat} (h:Zay l=true) (hs:sigB s=true) (hk:k<l.length) (hm:m≤600):crcR l s l[k].nm m=some (text (Zfk (Zes s (Zab (Zfl l[k].ph)) 0 m))):=by
 rw[Zwk h hk (Z7f h hk)]
 exact Zps (d:=0) (m:=m) (by unfold recB;rw[hs,Zze (Zg9 (Zej h hk)),Zax (by omega) (by omega),Zax (by omega) (by omega)];rfl)
theorem Zaio (l s:List Int) (n j:Nat) (h:j<n):(Zes l s 0 n)[j]'(by rw[Zdl];exact h)=dotN l s (j*s.length) s.length:=by rw[Zxe h,Nat.zero_add]
end Go.Proofs.YtcjihfongfefoaaGreatDoor
