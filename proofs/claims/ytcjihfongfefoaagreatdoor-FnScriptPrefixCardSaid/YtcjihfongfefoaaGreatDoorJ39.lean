/- Az Am -/
import Derived.Test.YtcjihfongfefoaaGreatDoorJ09
import Derived.Test.YtcjihfongfefoaaGreatDoorJ10
namespace Go.Proofs.YtcjihfongfefoaaGreatDoor
open Go.RowKit
set_option maxHeartbeats 25600000
set_option maxRecDepth 100000
theorem Zad0 {ao:Option Addr} {n c:Nat} {l:List Stn} {w:World} (nm:ByteArray) (d loss:Int) (h:RdS w ao n l) (hcz:ao=none→c=0) (hnm:nm.size≤1099511627776) (hm2:∀i (h:i<l.length),(l[i]'h).nm.size≤1099511627776∧(l[i]'h).ph.size≤1099511627776) (h1:Zay l=true) (h2:n<8) (h3:Zdv nm=true) (h4:idxS l nm= -1) (h5:inB loss 1 20=true):
 Calls Tryz.prog 181 #[.slice ao n c,.string nm,.int .i64 d,.int .i64 loss] w (RetSB w (admR l nm d loss)):=by
 have hs:=h.2.1
 have HM:=Lib.hid hm2;clear hm2
 have h8:=Zjc h1
 have hn:=h.1
 have hr:=Lib.hid (Zag8 (d:=d) h1 (by omega) h3 h4 h5)
 have H4:=Lib.hid h4;clear h4
 have HP:=Lib.hid (Z2y h1)
 have HN:=Lib.hid hn;clear hn
 have hne8:((n:Int)==8)=false:=by simp;omega
 go_enter Tryz.func181,Tryz.ntmps181
 go_wp2_with fail
 refine(Za8 h HM.out).mono ?_;rintro e w1 ⟨rfl,hb1⟩
 rw[h1]
 clear h1
 go_wp2_with fail
 refine(Zge _ _ hnm).mono ?_;rintro e w' ⟨rfl,rfl⟩
 rw[h3]
 clear h3
 go_wp2_with fail
 refine(Zec nm (h.below hb1)).mono ?_;rintro e w' ⟨rfl,rfl⟩
 rw[H4.out]
 go_wp2_with fail
 refine(Zbq _ _ _ _).mono ?_;rintro e w' ⟨rfl,rfl⟩
 rw[h5]
 clear h5
 have hA:=h.below hb1
 have hz1:=hb1.size
 have hb0:Below w1.heap.size w1 (w1.alloc (.cells #[] 9)):=(Below.refl _ _).alloc (Nat.le_refl _) _
 clear h
 go_wp2_with fail
 go_loopw [10,11] (fun v i wr=>∃k:Nat,k≤n∧i= .int .i64 k∧Zjo wr w1.heap.size v ((l.take k).map Stn.ph)∧Below w1.heap.size w1 wr) (fun _ i _=>n-(intOf i).toNat)
 case atStart=>exact⟨0,Nat.zero_le _,rfl,OwnVF.made0 _ _ w1 (Nat.le_refl _),hb0⟩
 case round=>
  obtain⟨k,hk,rfl,hown,hb⟩:=hrel
  obtain⟨wo,hwo⟩:∃wo:World,wo=wr:=⟨_,rfl⟩
  subst hwo
  have hz:=hb.size
  have h2:=hA.below hb
  by_cases hlt:k<n
  ·obtain⟨bk,off,rfl,hl,hc0,hc1,hc2,hc3⟩:=h2.at hlt
   have HT:=Lib.hid (show(l.take (k+1)).map Stn.ph=(l.take k).map Stn.ph++[l[k].ph]by rw[List.take_succ_eq_append_getElem hl,List.map_append];rfl)
   clear h2
   go_wp2_with (at_builtin;refine Zd5 24 9 16 ByteArray.empty Tryz.underlying24 Zd2 rfl (by decide) (fun _=>rfl) wo rfl _ _ rfl w1.heap.size _ _ _ rfl (by exact hown) rfl (by simp;omega) hz ?_;intro v' w3 hown3 _ hb3)
   have hown4:Zjo w3 w1.heap.size v' ((l.take (k+1)).map Stn.ph):=by rw[HT.out];exact hown3
   have hb4:=hb.trans hb3
   go_wp2_with fail
   go_roundw
   case rel=>exact⟨k+1,by omega,by go_num,hown4,hb4⟩
   case measure=>simp[intOf];omega
  ·obtain rfl:k=n:=by omega
   have HTA:=Lib.hid (show l.take k=l from List.take_of_length_le (by have:=HN.out;omega))
   rw[HTA.out]at hown
   obtain⟨au,nu,cu,rfl,ho⟩:=hown.own (by rw[List.length_map];have:=HN.out;omega)
   have hU:=ho.rd
   have hnu:nu≤70:=by rw[hU.1,List.length_map];have:=HN.out;omega
   have hB2:=hb1.trans (hb.mono hz1)
   have hzB:=hB2.size
   clear hb hA ho hlt
   go_wp2_with fail
   refine(Zq5 d hU HP.out hnu).mono ?_;rintro e w4 hret
   cases hal:Zf3 (l.map Stn.ph) d with
   |none=>
    rw[hal]at hret
    obtain⟨rfl,hb4⟩:=hret
    have hr2:=Lib.hid (show admR l nm d loss=none by rw[hr.out,hal];rfl)
    have HAL:=Lib.hid hal;clear hal
    have hB4:=hB2.trans (hb4.mono hzB)
    go_wp2_with fail
    go_ret2
    exact Zb2 (OwnVS.mono (OwnVS.made0 w4 (Nat.le_refl _)) hB4.size) (by simp) (by rw[hr2.out];rfl) (by rw[hr2.out];rfl) (hB4.alloc hB4.size _)
   |some p=>
    rw[hal]at hret
    obtain⟨he4,hb4⟩:=hret
    obtain rfl:e= .returned (.tuple #[.string p,.bool true]):=he4
    have hr2:=Lib.hid (show admR l nm d loss=some (l++[⟨nm,p,1,loss⟩])by rw[hr.out,hal];rfl)
    have HAL:=Lib.hid hal;clear hal
    have hB4:=hB2.trans (hb4.mono hzB)
    have hz4:=hB4.size
    have h4:=h2.below hb4
    clear h2 hU hb4 hB2
    go_wp2_with (first|(at_builtin;refine Zga _ rfl (.tmp 63) (.tmp 64) rfl w4.heap.size _ [] l ao k c rfl (OwnVS.made0 w4 (Nat.le_refl _)) rfl (h4.below ((Below.refl _ _).alloc (Nat.le_refl _) _)) hcz (by simp;omega) (by simp) ?_;intro v6 w6 hown6 _ hb6;have hB6:=(hB4.alloc hz4 _).trans (hb6.mono hz4);have hz6:=hB6.size;have hown6':=hown6.mono hz4)|(at_builtin;refine Zga _ rfl (.tmp 65) (.tmp 70) rfl w.heap.size _ ([]++l) [⟨nm,p,1,loss⟩] _ 1 1 rfl (by exact World.ownsRow.alloc hown6' _) rfl (Zq6 w6 ⟨nm,p,1,loss⟩ _) (by intro e;cases e) (by have:=HN.out;simp;omega) (by simp;omega) ?_;intro v7 w7 hown7 _ hb7;have hB7:=(hB6.alloc hz6 _).trans hb7))
    go_ret2
    exact Zb2 hown7 (by have:=HN.out;simp;omega) (by rw[hr2.out];rfl) (by rw[hr2.out];rfl) hB7
theorem Zad5 {ao:Option Addr} {n c:Nat} {l:List Stn} {w:World} (nm:ByteArray) (d loss:Int) (h:RdS w ao n l) (_hcz:ao=none→c=0) (hnm:nm.size≤1099511627776) (hm2:∀i (h:i<l.length),(l[i]'h).nm.size≤1099511627776∧(l[i]'h).ph.size≤1099511627776) (h1:Zay l=true) (h2:n<8) (h3:Zdv nm=true) (h4:idxS l nm= -1) (h5':inB loss 1 20=false):
 Calls Tryz.prog 181 #[.slice ao n c,.string nm,.int .i64 d,.int .i64 loss] w (RetSB w (admR l nm d loss)):=by
 have hs:=h.2.1
 have HM:=Lib.hid hm2;clear hm2
 have hr:=Lib.hid (Zahx (l:=l) (nm:=nm) (d:=d) h5')
 have H4:=Lib.hid h4;clear h4
 go_enter Tryz.func181,Tryz.ntmps181
 go_wp2_with fail
 refine(Za8 h HM.out).mono ?_;rintro e w1 ⟨rfl,hb1⟩
 rw[h1]
 clear h1
 go_wp2_with fail
 refine(Zge _ _ hnm).mono ?_;rintro e w' ⟨rfl,rfl⟩
 rw[h3]
 clear h3
 go_wp2_with fail
 refine(Zec nm (h.below hb1)).mono ?_;rintro e w' ⟨rfl,rfl⟩
 rw[H4.out]
 go_wp2_with fail
 refine(Zbq _ _ _ _).mono ?_;rintro e w' ⟨rfl,rfl⟩
 rw[h5']
 clear h5'
 go_wp2_with fail
 go_ret2
 exact Zb2 (OwnVS.mono (OwnVS.made0 w1 (Nat.le_refl _)) hb1.size) (by simp) (by rw[hr.out];rfl) (by rw[hr.out];rfl) (hb1.alloc hb1.size _)
theorem Zadv {ao:Option Addr} {n c:Nat} {l:List Stn} {w:World} (nm:ByteArray) (d loss:Int) (h:RdS w ao n l) (_hcz:ao=none→c=0) (hnm:nm.size≤1099511627776) (hm2:∀i (h:i<l.length),(l[i]'h).nm.size≤1099511627776∧(l[i]'h).ph.size≤1099511627776) (h1:Zay l=true) (h2:¬n<8) (h3:Zdv nm=true) (h4:idxS l nm= -1):
 Calls Tryz.prog 181 #[.slice ao n c,.string nm,.int .i64 d,.int .i64 loss] w (RetSB w (admR l nm d loss)):=by
 have hs:=h.2.1
 have HM:=Lib.hid hm2;clear hm2
 have hn:=h.1
 have hr:=Lib.hid (Zahu (l:=l) (nm:=nm) (d:=d) (loss:=loss) (by omega))
 have h88:=Zjc h1
 have h8e:n=8:=by omega
 subst h8e
 clear hn h88 h2
 have H4:=Lib.hid h4;clear h4
 go_enter Tryz.func181,Tryz.ntmps181
 go_wp2_with fail
 refine(Za8 h HM.out).mono ?_;rintro e w1 ⟨rfl,hb1⟩
 rw[h1]
 clear h1
 go_wp2_with fail
 refine(Zge _ _ hnm).mono ?_;rintro e w' ⟨rfl,rfl⟩
 rw[h3]
 clear h3
 go_wp2_with fail
 refine(Zec nm (h.below hb1)).mono ?_;rintro e w' ⟨rfl,rfl⟩
 rw[H4.out]
 go_wp2_with fail
 go_ret2
 exact Zb2 (OwnVS.mono (OwnVS.made0 w1 (Nat.le_refl _)) hb1.size) (by simp) (by rw[hr.out];rfl) (by rw[hr.out];rfl) (hb1.alloc hb1.size _)
theorem Zafp {ao:Option Addr} {n c:Nat} {l:List Stn} {w:World} (nm:ByteArray) (d loss:Int) (h:RdS w ao n l) (_hcz:ao=none→c=0) (hnm:nm.size≤1099511627776) (hm2:∀i (h:i<l.length),(l[i]'h).nm.size≤1099511627776∧(l[i]'h).ph.size≤1099511627776) (h1:Zay l=true) (h3:Zdv nm=true) {f:Nat} (h4:idxS l nm=f):
 Calls Tryz.prog 181 #[.slice ao n c,.string nm,.int .i64 d,.int .i64 loss] w (RetSB w (admR l nm d loss)):=by
 have hs:=h.2.1
 have HM:=Lib.hid hm2;clear hm2
 have hr:=Lib.hid (Zahw (d:=d) (loss:=loss) h4)
 have H4:=Lib.hid h4;clear h4
 go_enter Tryz.func181,Tryz.ntmps181
 go_wp2_with fail
 refine(Za8 h HM.out).mono ?_;rintro e w1 ⟨rfl,hb1⟩
 rw[h1]
 clear h1
 go_wp2_with fail
 refine(Zge _ _ hnm).mono ?_;rintro e w' ⟨rfl,rfl⟩
 rw[h3]
 clear h3
 go_wp2_with fail
 refine(Zec nm (h.below hb1)).mono ?_;rintro e w' ⟨rfl,rfl⟩
 rw[H4.out]
 go_wp2_with fail
 go_ret2
 exact Zb2 (OwnVS.mono (OwnVS.made0 w1 (Nat.le_refl _)) hb1.size) (by simp) (by rw[hr.out];rfl) (by rw[hr.out];rfl) (hb1.alloc hb1.size _)
theorem Zaft {ao:Option Addr} {n c:Nat} {l:List Stn} {w:World} (nm:ByteArray) (d loss:Int) (h:RdS w ao n l) (_hcz:ao=none→c=0) (hnm:nm.size≤1099511627776) (hm2:∀i (h:i<l.length),(l[i]'h).nm.size≤1099511627776∧(l[i]'h).ph.size≤1099511627776) (h1:Zay l=true) (h3':Zdv nm=false):
 Calls Tryz.prog 181 #[.slice ao n c,.string nm,.int .i64 d,.int .i64 loss] w (RetSB w (admR l nm d loss)):=by
 have hs:=h.2.1
 have HM:=Lib.hid hm2;clear hm2
 have hr:=Lib.hid (Zag1 (l:=l) (d:=d) (loss:=loss) h3')
 go_enter Tryz.func181,Tryz.ntmps181
 go_wp2_with fail
 refine(Za8 h HM.out).mono ?_;rintro e w1 ⟨rfl,hb1⟩
 rw[h1]
 clear h1
 go_wp2_with fail
 refine(Zge _ _ hnm).mono ?_;rintro e w' ⟨rfl,rfl⟩
 rw[h3']
 clear h3'
 go_wp2_with fail
 go_ret2
 exact Zb2 (OwnVS.mono (OwnVS.made0 w1 (Nat.le_refl _)) hb1.size) (by simp) (by rw[hr.out];rfl) (by rw[hr.out];rfl) (hb1.alloc hb1.size _)
theorem Zae0 {ao:Option Addr} {n c:Nat} {l:List Stn} {w:World} (nm:ByteArray) (d loss:Int) (h:RdS w ao n l) (_hcz:ao=none→c=0) (_hnm:nm.size≤1099511627776) (hm2:∀i (h:i<l.length),(l[i]'h).nm.size≤1099511627776∧(l[i]'h).ph.size≤1099511627776) (h1':Zay l=false):
 Calls Tryz.prog 181 #[.slice ao n c,.string nm,.int .i64 d,.int .i64 loss] w (RetSB w (admR l nm d loss)):=by
 have hs:=h.2.1
 have HM:=Lib.hid hm2;clear hm2
 have hr:=Lib.hid (Zahg (nm:=nm) (d:=d) (loss:=loss) h1')
 go_enter Tryz.func181,Tryz.ntmps181
 go_wp2_with fail
 refine(Za8 h HM.out).mono ?_;rintro e w1 ⟨rfl,hb1⟩
 rw[h1']
 clear h1'
 go_wp2_with fail
 go_ret2
 exact Zb2 (OwnVS.mono (OwnVS.made0 w1 (Nat.le_refl _)) hb1.size) (by simp) (by rw[hr.out];rfl) (by rw[hr.out];rfl) (hb1.alloc hb1.size _)
theorem Zgp {ao:Option Addr} {n c:Nat} {l:List Stn} {w:World} (nm:ByteArray) (d loss:Int) (h:RdS w ao n l) (hcz:ao=none→c=0) (hnm:nm.size≤1099511627776) (hm2:∀i (h:i<l.length),(l[i]'h).nm.size≤1099511627776∧(l[i]'h).ph.size≤1099511627776):
 Calls Tryz.prog 181 #[.slice ao n c,.string nm,.int .i64 d,.int .i64 loss] w (RetSB w (admR l nm d loss)):=by
 by_cases h1:Zay l=true
 ·by_cases h3:Zdv nm=true
  ·rcases Zgk l nm with h4|⟨f,hf,h4⟩
   ·by_cases h2:n<8
    ·by_cases h5:inB loss 1 20=true
     ·exact Zad0 nm d loss h hcz hnm hm2 h1 h2 h3 h4 h5
     ·exact Zad5 nm d loss h hcz hnm hm2 h1 h2 h3 h4 (by simpa using h5)
    ·exact Zadv nm d loss h hcz hnm hm2 h1 h2 h3 h4
   ·exact Zafp nm d loss h hcz hnm hm2 h1 h3 h4
  ·exact Zaft nm d loss h hcz hnm hm2 h1 (by simpa using h3)
 ·exact Zae0 nm d loss h hcz hnm hm2 (by simpa using h1)
end Go.Proofs.YtcjihfongfefoaaGreatDoor
