/- Rl -/
import Derived.Test.YtcjihfongfefoaaGreatDoorJ08
import Derived.Deep.RegionLaw
import Derived.Outline
namespace Go.Proofs.YtcjihfongfefoaaGreatDoor
open Go.RowKit
set_option maxHeartbeats 25600000
set_option maxRecDepth 100000
theorem Zp6 {l:List Stn} {k:Nat} (hk:k<l.length) (y:Int):(Zbe l).set (k*4+2) (.int .i64 y)=Zbe (l.set k ⟨l[k].nm,l[k].ph,y,l[k].l⟩):=by
 apply List.ext_getElem?
 intro j
 obtain⟨i,r,hr,rfl⟩:∃i r,r<4∧j=i*4+r:=⟨j/4,j%4,Nat.mod_lt _ (by omega),by omega⟩
 rw[Zb6 _ _ _ hr,List.getElem?_set,Zb6 _ _ _ hr]
 simp only[Zcb,List.getElem?_set]
 by_cases h:k=i
 ·subst h
  rw[if_pos rfl,if_pos hk]
  rcases(by omega:r=0∨r=1∨r=2∨r=3)with rfl|rfl|rfl|rfl
  ·rw[if_neg (by omega)];simp[hk,Stn.vals]
  ·rw[if_neg (by omega)];simp[hk,Stn.vals]
  ·rw[if_pos (by omega),if_pos (by omega)];rfl
  ·rw[if_neg (by omega)];simp[hk,Stn.vals]
 ·rw[if_neg h,if_neg (by omega)]
theorem Zah5 {α:Type} {L l:List α} {k:Nat} (hk:k<l.length) (hL:L.length=l.length) (h:k<(L.take k++l.drop k).length):(L.take k++l.drop k)[k]=l[k]:=by
 rw[List.getElem_append_right (by rw[List.length_take];omega)]
 simp[List.length_take,show min k L.length=k by omega]
theorem Zx1 {ao:Option Addr} {n c:Nat} {l:List Stn} {w:World} (t:Int) (h:RdS w ao n l) (hcz:ao=none→c=0) (hm2:∀i (h:i<l.length),(l[i]'h).nm.size≤1099511627776∧(l[i]'h).ph.size≤1099511627776):
 Calls Tryz.prog 237 #[.slice ao n c,.int .i64 t] w (RetSB w (Zfq l t)):=by
 have hs:=h.2.1
 have HN:=Lib.hid h.1
 have HM:=Lib.hid hm2;clear hm2
 by_cases h1:Zay l=true
 ·by_cases h2:inB t 0 40=true
  ·have ht:=inB_iff.1 h2
   have hr:=Lib.hid (Zrb h1 h2)
   have HC:=Lib.hid h1
   have h8:=Zjc h1
   go_enter Tryz.func237,Tryz.ntmps237
   go_wp2_with fail
   refine(Za8 h HM.out).mono ?_;rintro e w1 ⟨rfl,hb1⟩
   rw[h1]
   clear h1
   go_wp2_with fail
   refine(Zs0 _ _).mono ?_;rintro e w' ⟨rfl,rfl⟩
   rw[h2]
   clear h2
   have hz1:=hb1.size
   go_wp2_with (at_builtin;refine Zga _ rfl (.tmp 18) (.tmp 19) rfl w1.heap.size _ [] l ao n c rfl (OwnVS.made0 w1 (Nat.le_refl _)) rfl (h.below (hb1.alloc hz1 _)) hcz (by simp;omega) (by simp) ?_;intro v w2 hown0 _ hb2)
   have hbb:=(hb1.alloc hz1 (.cells #[] 37)).trans (hb2.mono hz1)
   have hown1:=hown0.mono hz1
   obtain⟨a2,n2,c2,hv,hn2,_,hown⟩:=hown1.own (by simp;omega)
   have hnn:n2=n:=by rw[hn2,List.nil_append];exact HN.out.symm
   subst hnn
   subst hv
   simp only[List.nil_append]at hown
   clear hown0 hown1 hb1 hb2 hn2 h
   go_wp2_with fail
   go_loopw [7] (fun i wr=>∃k:Nat,k≤n2∧i= .int .i64 k∧wr.ownsRow w.heap.size 37 4 (.slice a2 n2 c2) n2 (Zbe ((l.map (pstS t)).take k++l.drop k))∧Below w.heap.size w wr) (fun i _=>n2-(intOf i).toNat)
   case atStart=>exact⟨0,Nat.zero_le _,rfl,by simpa using hown,hbb⟩
   case round=>
    clear hown hbb
    obtain⟨k,hk,rfl,hown,hb⟩:=hrel
    have hz:=hb.size
    by_cases hlt:k<n2
    ·obtain⟨g,rfl⟩:∃g,a2=some ⟨g,0,none⟩:=by
      rcases hown.2 with ⟨h1,h2⟩|⟨g,cap,cur,hv,_⟩
      ·omega
      ·cases hv;exact⟨g,rfl⟩
     have hl:k<l.length:=by have:=HN.out;omega
     obtain⟨hg,hll⟩:=Ze9 (Zej HC.out hl)
     obtain⟨hq0,hq1⟩:=Zwq (s:=l[k]) ht hll
     have HQ:=Lib.hid (show min (t*l[k].l) 1000=Zi9 t l[k]from rfl)
     have hlm:k<(l.map (pstS t)).length:=by rw[List.length_map];exact hl
     have HNX:=Lib.hid (Zi2 hlm (show l.length=(l.map (pstS t)).length by rw[List.length_map]))
     have HGT:=Lib.hid (show(l.map (pstS t))[k]=pstS t l[k]by simp)
     have hkM:k<((l.map (pstS t)).take k++l.drop k).length:=by rw[List.length_append,List.length_take,List.length_drop,List.length_map];omega
     have HMK:=Lib.hid (Zah5 hl ((by rw[List.length_map]:(l.map (pstS t)).length=l.length)) hkM)
     have HSG:=Lib.hid (Zp6 hkM)
     have HSS:=Lib.hid (List.set_getElem_self hkM)
     obtain⟨d0,d1,d2,d3⟩:=Zj5 hkM
     rw[HMK.out]at d0 d1 d2 d3
     generalize ((l.map (pstS t)).take k++l.drop k)=M at*
     have hgl:=(hown.lt g rfl).2
     have hgl0:=(hown.lt g rfl).1
     have c0:=ownRow_at' hown d0
     have c1:=ownRow_at' hown d1
     have c2:=ownRow_at' hown d2
     have c3:=ownRow_at' hown d3
     go_wp2_with fail
     refine(Zadp _ _ _ _ _ _ ht hll).mono ?_;rintro e w3 ⟨rfl,hb3⟩
     rw[HQ.out]
     have hb4:=hb.trans (hb3.mono hz)
     have hown2:=Zam hown hb3 fun j hj=>(hown.lt j hj).2
     have e2:=ownRow_at' hown2 d2
     have hf:=hown2.frozenAt (k*4+2)
     clear hown hb hb3 c0 c1 c2 c3 d0 d1 d2 d3
     by_cases hup:l[k].g<Zi9 t l[k]
     ·have hp:=(hown2.stored (k*4+2) (.int .i64 (l[k].g+1))).1
      rw[HSG.out,HMK.out,←Zabu hup,←HGT.out,HNX.out]at hp
      have hb6:=hb4.setCell (p:=⟨g,k*4+2,none⟩) hgl0 (.int .i64 (l[k].g+1))
      clear hown2 hb4
      go_wp2_with fail
      go_roundw
      case rel=>exact⟨k+1,by omega,by go_num,hp,hb6⟩
      case measure=>simp[intOf];omega
     ·by_cases hdn:l[k].g>Zi9 t l[k]
      ·have hp:=(hown2.stored (k*4+2) (.int .i64 (l[k].g-1))).1
       rw[HSG.out,HMK.out,←Zy3 hup hdn,←HGT.out,HNX.out]at hp
       have hb6:=hb4.setCell (p:=⟨g,k*4+2,none⟩) hgl0 (.int .i64 (l[k].g-1))
       clear hown2 hb4
       go_wp2_with fail
       go_roundw
       case rel=>exact⟨k+1,by omega,by go_num,hp,hb6⟩
       case measure=>simp[intOf];omega
      ·have hp:=hown2
       rw[←HSS.out,HMK.out,show l[k]=(l.map (pstS t))[k]by rw[HGT.out,Zya hup hdn],HNX.out]at hp
       clear hown2
       go_wp2_with fail
       go_roundw
       case rel=>exact⟨k+1,by omega,by go_num,hp,hb4⟩
       case measure=>simp[intOf];omega
    ·obtain rfl:k=n2:=by omega
     have hown9:OwnVS wr w.heap.size (.slice a2 k c2) (l.map (pstS t)):=by
      unfold OwnVS
      rw[List.length_map,←HN.out]
      rw[List.take_of_length_le (by rw[List.length_map,←HN.out];exact Nat.le_refl _),List.drop_of_length_le (by rw[←HN.out];exact Nat.le_refl _),List.append_nil]at hown
      exact hown
     clear hown
     go_wp2_with fail
     go_ret2
     exact Zb2 hown9 (by rw[List.length_map,←HN.out];exact hs) (by rw[hr.out];rfl) (by rw[hr.out];rfl) hb
  ·have h2':inB t 0 40=false:=by simpa using h2
   have hr:=Lib.hid (Zxf (l:=l) h2')
   clear h2
   go_enter Tryz.func237,Tryz.ntmps237
   go_wp2_with fail
   refine(Za8 h HM.out).mono ?_;rintro e w1 ⟨rfl,hb1⟩
   rw[h1]
   go_wp2_with fail
   refine(Zs0 _ _).mono ?_;rintro e w' ⟨rfl,rfl⟩
   go_wp2_with fail
   go_ret2
   exact Zb2 (OwnVS.mono (OwnVS.made0 w1 (Nat.le_refl _)) hb1.size) (by simp) (by rw[hr.out];rfl) (by rw[hr.out];rfl) (hb1.alloc hb1.size _)
 ·have h':Zay l=false:=by simpa using h1
  have hr:=Lib.hid (Zyh (t:=t) h')
  clear h1
  go_enter Tryz.func237,Tryz.ntmps237
  go_wp2_with fail
  refine(Za8 h HM.out).mono ?_;rintro e w1 ⟨rfl,hb1⟩
  rw[h']
  go_wp2_with fail
  go_ret2
  exact Zb2 (OwnVS.mono (OwnVS.made0 w1 (Nat.le_refl _)) hb1.size) (by simp) (by rw[hr.out];rfl) (by rw[hr.out];rfl) (hb1.alloc hb1.size _)
theorem Zec {ao:Option Addr} {n c:Nat} {l:List Stn} {w:World} (nm:ByteArray) (h:RdS w ao n l):
 Calls Tryz.prog 248 #[.slice ao n c,.string nm] w fun e w'=>e= .returned (.int .i64 (idxS l nm))∧w=w':=by
 have hs:=h.2.1
 have HN:=Lib.hid h.1
 go_enter Tryz.func248,Tryz.ntmps248
 go_wp2
 go_loop [5] (fun i=>∃k:Nat,k≤n∧i= .int .i64 k∧(∀j (_:j<k) (hj:j<l.length),(l[j].nm.toList==nm.toList)=false)) (fun i=>n-(intOf i).toNat)
 case atStart=>exact⟨0,Nat.zero_le _,rfl,fun j hj=>absurd hj (by omega)⟩
 case round=>
  obtain⟨k,hk,rfl,hno⟩:=hrel
  have HO:=Lib.hid hno;clear hno
  by_cases hlt:k<n
  ·obtain⟨bk,off,rfl,hl,hc0,hc1,hc2,hc3⟩:=h.at hlt
   clear h
   by_cases h3:(l[k].nm.toList==nm.toList)=true
   ·have hr:=Lib.hid (Z0k hl (fun j hj=>HO.out j hj (by omega)) h3)
    go_wp2_with fail
    go_ret
    exact⟨Zd6 hr.out.symm,rfl⟩
   ·have h3':(l[k].nm.toList==nm.toList)=false:=by simpa using h3
    clear h3
    go_wp2_with fail
    go_round
    case rel=>
     refine⟨k+1,by omega,by go_num,fun j hj hj2=>?_⟩
     rcases Nat.lt_succ_iff_lt_or_eq.1 hj with hj|rfl
     ·exact HO.out j hj hj2
     ·exact h3'
    case measure=>simp[intOf];omega
  ·have hr:=Lib.hid (Z9x (l:=l) (nm:=nm) fun j hj=>HO.out j (by have:=HN.out;omega) hj)
   go_wp2
   go_ret
   exact⟨Zd6 hr.out.symm,rfl⟩
theorem Zgk (l:List Stn) (nm:ByteArray):idxS l nm= -1∨∃f:Nat,f<l.length∧idxS l nm=f:=by
 unfold idxS
 cases hf:l.findIdx? (fun s=>s.nm.toList==nm.toList)with
 |none=>exact .inl rfl
 |some i=>exact .inr ⟨i,(List.findIdx?_eq_some_iff_getElem.1 hf).1,rfl⟩
def relR (l:List Stn) (nm:ByteArray):Option (List Stn):=if(Zay l&&decide (0≤idxS l nm))=true then some (l.take (idxS l nm).toNat++l.drop ((idxS l nm).toNat+1))else none
theorem Z2s {l:List Stn} {nm:ByteArray} (h:Zay l=false):relR l nm=none:=by simp[relR,h]
theorem Z15 {l:List Stn} {nm:ByteArray} (h:idxS l nm= -1):relR l nm=none:=by simp[relR,h]
theorem Zu8 {l:List Stn} {nm:ByteArray} {f:Nat} (h:Zay l=true) (h':idxS l nm=f):relR l nm=some (l.take f++l.drop (f+1)):=by simp[relR,h,h']
theorem Zi3 {ao:Option Addr} {n c:Nat} {l:List Stn} {w:World} (nm:ByteArray) (h:RdS w ao n l) (hc:n≤c):
 Calls Tryz.prog 19 #[.slice ao n c,.string nm] w (RetSB w (relR l nm)):=by
 have hs:=h.2.1
 by_cases h1:Zay l=true
 ·have h8:=Zjc h1
  rcases Zgk l nm with h2|⟨f,hf,h2⟩
  ·have hr:=Lib.hid (Z15 h2)
   have H2:=Lib.hid h2;clear h2
   go_enter Tryz.func19,Tryz.ntmps19
   go_wp2_with fail
   refine(Zbu nm h).mono ?_;rintro e w1 ⟨rfl,hb1⟩
   rw[H2.out]
   go_wp2_with fail
   refine(Zba (h.below hb1) hc).mono ?_;rintro e w2 ⟨rfl,hb2⟩
   rw[h1]
   go_wp2_with fail
   go_ret2
   exact Zdm hr.out (hb1.trans (hb2.mono hb1.size))
  ·have hr:=Lib.hid (Zu8 h1 h2)
   have H2:=Lib.hid h2;clear h2
   have hn:=h.1
   obtain⟨b,off,rfl,hl0,_⟩:=h.at (show 0<n by omega)
   obtain⟨m,rfl⟩:∃m,n=m+1:=⟨n-1,by omega⟩
   have hf2:f≤m:=by omega
   have hf4:f≤c:=by omega
   have HT:=Lib.hid (h.take (show f≤m+1 by omega))
   have HD:=Lib.hid (show RdS w (some ⟨b,off+(f+1)*4,none⟩) (m-f) (l.drop (f+1))by have:=h.drop (show f+1≤m+1 by omega);rwa [show m+1-(f+1)=m-f by omega]at this)
   have HL:=Lib.hid hn;clear hn
   go_enter Tryz.func19,Tryz.ntmps19
   go_wp2_with fail
   refine(Zbu nm h).mono ?_;rintro e w1 ⟨rfl,hb1⟩
   rw[H2.out]
   go_wp2_with fail
   refine(Zba (h.below hb1) hc).mono ?_;rintro e w2 ⟨rfl,hb2⟩
   rw[h1]
   have hbA:=hb1.trans (hb2.mono hb1.size)
   have hzA:=hbA.size
   clear hb1 hb2 h
   have hlen:=Lib.hid (show(l.take f).length=f by rw[List.length_take];omega)
   by_cases hcf:c=f+1
   ·have hmf:m=f:=by omega
    have hDN:∀w':World,RdS w' (some ⟨b,off,none⟩) 0 (l.drop (f+1)):=fun w'=>⟨by rw[List.length_drop];have:=HL.out;omega,by omega,fun i hi=>absurd hi (by rw[List.length_drop];have:=HL.out;omega)⟩
    subst hcf
    subst hmf
    have q2:(m:Int)≤(m:Int)+1:=by omega
    have q3:(0:Int)≤(m:Int)+1:=by omega
    go_wp2_with (first|(at_make;refine Zyo _ rfl (.const (.int .i64 0)) (.tmp 20) rfl .i64 .i64 m _ (by omega) rfl rfl (by omega) ?_;intro w3 hownA hb3;have hbB:=hbA.trans (hb3.mono hzA);have hzB:=hbB.size;have hownB:=hownA.mono hzA)|(at_builtin;refine Zga _ rfl (.tmp 22) (.tmp 25) rfl w.heap.size _ [] (l.take m) (some ⟨b,off,none⟩) m (m+1) rfl hownB rfl (HT.out.below hbB) (by intro e;cases e) (by simp;omega) hzB ?_;intro v4 w4 hownC _ hb4;have hbC:=hbB.trans hb4;have hzC:=hbC.size)|(at_builtin;refine Zga _ rfl (.tmp 27) (.tmp 31) rfl w.heap.size _ _ (l.drop (m+1)) (some ⟨b,off,none⟩) 0 0 rfl hownC rfl (hDN _) (by intro e;cases e) (by rw[List.nil_append,hlen.out];omega) hzC ?_;intro v5 w5 hownD _ hb5))
    go_ret2
    exact Zb2 hownD (by rw[List.nil_append,List.length_append,hlen.out,List.length_drop];omega) (by rw[hr.out];rfl) (by rw[hr.out];rfl) (hbC.trans hb5)
   ·have hcf2:¬(c:Int)=(f:Int)+1:=by omega
    have hcf3:f+1≤c:=by omega
    have q3:(0:Int)≤(f:Int)+1:=by omega
    have q4:(f:Int)+1≤(m:Int)+1:=by omega
    go_wp2_with (first|(at_make;refine Zyo _ rfl (.const (.int .i64 0)) (.tmp 20) rfl .i64 .i64 m _ (by omega) rfl rfl (by omega) ?_;intro w3 hownA hb3;have hbB:=hbA.trans (hb3.mono hzA);have hzB:=hbB.size;have hownB:=hownA.mono hzA)|(at_builtin;refine Zga _ rfl (.tmp 22) (.tmp 25) rfl w.heap.size _ [] (l.take f) (some ⟨b,off,none⟩) f (c) rfl hownB rfl (HT.out.below hbB) (by intro e;cases e) (by simp;omega) hzB ?_;intro v4 w4 hownC _ hb4;have hbC:=hbB.trans hb4;have hzC:=hbC.size)|(at_builtin;refine Zga _ rfl (.tmp 27) (.tmp 31) rfl w.heap.size _ _ (l.drop (f+1)) (some ⟨b,off+(f+1)*4,none⟩) (m-f) (c-(f+1)) rfl hownC rfl (HD.out.below hbC) (by intro e;cases e) (by rw[List.nil_append,hlen.out];omega) hzC ?_;intro v5 w5 hownD _ hb5))
    go_ret2
    exact Zb2 hownD (by rw[List.nil_append,List.length_append,hlen.out,List.length_drop];omega) (by rw[hr.out];rfl) (by rw[hr.out];rfl) (hbC.trans hb5)
 ·have h':Zay l=false:=by simpa using h1
  have hr:=Lib.hid (Z2s (nm:=nm) h')
  clear h1
  go_enter Tryz.func19,Tryz.ntmps19
  go_wp2_with fail
  refine(Zbu nm h).mono ?_;rintro e w1 ⟨rfl,hb1⟩
  go_wp2_with fail
  refine(Zba (h.below hb1) hc).mono ?_;rintro e w2 ⟨rfl,hb2⟩
  rw[h']
  go_wp2_with fail
  go_ret2
  exact Zdm hr.out (hb1.trans (hb2.mono hb1.size))
theorem Zoa {ao:Option Addr} {n c:Nat} {l:List Stn} {w:World} (nm:ByteArray) (h:RdS w ao n l) (hc:n≤c) (hm2:∀i (h:i<l.length),(l[i]'h).nm.size≤1099511627776∧(l[i]'h).ph.size≤1099511627776):
 Calls Tryz.prog 236 #[.slice ao n c,.string nm] w (RetSB w (relR l nm)):=by
 have hs:=h.2.1
 have HM:=Lib.hid hm2;clear hm2
 by_cases h1:Zay l=true
 ·have h8:=Zjc h1
  rcases Zgk l nm with h2|⟨f,hf,h2⟩
  ·have hr:=Lib.hid (Z15 h2)
   have H2:=Lib.hid h2;clear h2
   go_enter Tryz.func236,Tryz.ntmps236
   go_wp2_with fail
   refine(Zec nm h).mono ?_;rintro e w' ⟨rfl,rfl⟩
   rw[H2.out]
   go_wp2_with fail
   refine(Za8 h HM.out).mono ?_;rintro e w2 ⟨rfl,hb2⟩
   rw[h1]
   go_wp2_with fail
   go_ret2
   exact Zb2 (OwnVS.mono (OwnVS.made0 w2 (Nat.le_refl _)) hb2.size) (by simp) (by rw[hr.out];rfl) (by rw[hr.out];rfl) (hb2.alloc hb2.size _)
  ·have hr:=Lib.hid (Zu8 h1 h2)
   have H2:=Lib.hid h2;clear h2
   have hn:=h.1
   obtain⟨b,off,rfl,hl0,_⟩:=h.at (show 0<n by omega)
   have HT:=Lib.hid (h.take (show f≤n by omega))
   have HD:=Lib.hid (h.drop (show f+1≤n by omega))
   have hfn:f+1≤n:=by omega
   have hf4:f≤c:=by omega
   have q2:(f:Int)≤(f:Int)+1:=by omega
   have q3:(0:Int)≤(f:Int)+1:=by omega
   have q4:(f:Int)+1≤(n:Int):=by omega
   have HL:=Lib.hid hn;clear hn
   have hlen:=Lib.hid (show(l.take f).length=f by rw[List.length_take];omega)
   go_enter Tryz.func236,Tryz.ntmps236
   go_wp2_with fail
   refine(Zec nm h).mono ?_;rintro e w' ⟨rfl,rfl⟩
   rw[H2.out]
   go_wp2_with fail
   refine(Za8 h HM.out).mono ?_;rintro e w2 ⟨rfl,hb2⟩
   rw[h1]
   clear h
   have hzA:=hb2.size
   have hbA:=(hb2.drew).alloc hzA (.cells #[] 37)
   have hw1:IntKind.i64.wrap ((f:Int)+1)=(f:Int)+1:=IntWalk.i64_in _ (by omega)
   by_cases hcf:c=f+1
   ·have hDN:∀w':World,RdS w' (some ⟨b,off,none⟩) 0 (l.drop (f+1)):=fun w'=>⟨by rw[List.length_drop];have:=HL.out;omega,by omega,fun i hi=>absurd hi (by rw[List.length_drop];have:=HL.out;omega)⟩
    have hmf:n=f+1:=by omega
    subst hcf
    subst hmf
    clear q4
    go_wp2_with fail
    go_region_law (first|(refine Zh7 _ rfl (.tmp 18) (.tmp 21) rfl w2.heap.size _ [] (l.take f) (some ⟨b,off,none⟩) f (f+1) rfl (OwnVS.made0 w2.drew (Nat.le_refl _)) rfl (HT.out.below hbA) (by intro e;cases e) (by simp;omega) (by simp) ?_;intro v1 w3 hown1 _ hb3)|(refine Zh7 _ rfl (.tmp 22) (.tmp 26) rfl w2.heap.size _ _ (l.drop (f+1)) (some ⟨b,off,none⟩) 0 0 rfl hown1 rfl (hDN _) (by intro e;cases e) (by rw[List.nil_append,hlen.out];omega) (Nat.le_trans (by simp) hb3.size) ?_;intro v2 w4 hown2 _ hb4))
    all_goals
     go_wp2_with fail
     go_ret2
     exact Zb2 (hown2.mono hzA) (by rw[List.nil_append,List.length_append,hlen.out,List.length_drop];omega) (by rw[hr.out];rfl) (by rw[hr.out];rfl) (hbA.trans ((hb3.trans hb4).mono hzA))
   ·have hcf2:¬(c:Int)=(f:Int)+1:=by omega
    have hcf3:f+1≤c:=by omega
    go_wp2_with fail
    go_region_law (first|(refine Zh7 _ rfl (.tmp 18) (.tmp 21) rfl w2.heap.size _ [] (l.take f) (some ⟨b,off,none⟩) f c rfl (OwnVS.made0 w2.drew (Nat.le_refl _)) rfl (HT.out.below hbA) (by intro e;cases e) (by simp;omega) (by simp) ?_;intro v1 w3 hown1 _ hb3)|(refine Zh7 _ rfl (.tmp 22) (.tmp 26) rfl w2.heap.size _ _ (l.drop (f+1)) (some ⟨b,off+(f+1)*4,none⟩) (n-(f+1)) (c-(f+1)) rfl hown1 rfl (HD.out.below (hbA.trans (hb3.mono hzA))) (by intro e;cases e) (by rw[List.nil_append,hlen.out];omega) (Nat.le_trans (by simp) hb3.size) ?_;intro v2 w4 hown2 _ hb4))
    all_goals
     go_wp2_with fail
     go_ret2
     exact Zb2 (hown2.mono hzA) (by rw[List.nil_append,List.length_append,hlen.out,List.length_drop];omega) (by rw[hr.out];rfl) (by rw[hr.out];rfl) (hbA.trans ((hb3.trans hb4).mono hzA))
 ·have h':Zay l=false:=by simpa using h1
  have hr:=Lib.hid (Z2s (nm:=nm) h')
  clear h1
  go_enter Tryz.func236,Tryz.ntmps236
  go_wp2_with fail
  refine(Zec nm h).mono ?_;rintro e w' ⟨rfl,rfl⟩
  go_wp2_with fail
  refine(Za8 h HM.out).mono ?_;rintro e w2 ⟨rfl,hb2⟩
  rw[h']
  go_wp2_with fail
  go_ret2
  exact Zb2 (OwnVS.mono (OwnVS.made0 w2 (Nat.le_refl _)) hb2.size) (by simp) (by rw[hr.out];rfl) (by rw[hr.out];rfl) (hb2.alloc hb2.size _)
end Go.Proofs.YtcjihfongfefoaaGreatDoor
