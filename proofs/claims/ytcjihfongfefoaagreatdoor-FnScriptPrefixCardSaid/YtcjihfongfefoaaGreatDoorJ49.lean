/- Xn -/
import Derived.Test.YtcjihfongfefoaaGreatDoorJ37
import Derived.Test.YtcjihfongfefoaaGreatDoorJ48
import Derived.Test.YtcjihfongfefoaaGreatDoorShlf
namespace Go.Proofs.YtcjihfongfefoaaGreatDoor
open Go.RowKit
set_option maxHeartbeats 25600000
set_option maxRecDepth 100000
structure ScrW (w:World) (b G:Nat) (P:List ByteArray) (ao:Option Addr) (n c:Nat) (bo:Option Addr) (k d:Nat) (m:Mch):Prop where
 bx:Box w b #[.int .i64 m.s,.int .i64 m.t,.int .i64 m.x,.slice ao n c,.slice bo k d] 97
 st:StW w ao n c bo k d m
 ln:RdT w (some ⟨G,0,none⟩) P.length P
 ne:b≠G
 fa:0<n→∀a,ao=some a→a.block≠b
 fb:0<k→∀a,bo=some a→a.block≠b
theorem ScrW.below {w w':World} {b G:Nat} {P:List ByteArray} {ao bo:Option Addr} {n c k d:Nat} {m:Mch} (h:ScrW w b G P ao n c bo k d m) (hb:Below w.heap.size w w'):ScrW w' b G P ao n c bo k d m:=
 ⟨h.bx.below hb h.bx.lt,h.st.below hb,h.ln.below hb,h.ne,h.fa,h.fb⟩
theorem Zae2 {w1:World} {g:Nat} {u0 u1 u2 u3 u4:Value} (hu:Box w1 g #[u0,u1,u2,u3,u4] 97) (v0 v1 v2 v3 v4:Value):Box (put5 w1 g v0 v1 v2 v3 v4) g #[v0,v1,v2,v3,v4] 97:=by
 have hB:=((((hu.set2 0 v0).set2 1 v1).set2 2 v2).set2 3 v3).set2 4 v4
 simpa[put5]using hB
theorem ScrW.next {w w4:World} {b G:Nat} {P:List ByteArray} {ao bo ao' bo':Option Addr} {n c k d n' c' k' d':Nat} {m m':Mch} (h:ScrW w b G P ao n c bo k d m) (hb:Below w.heap.size w w4) (hS:StW w4 ao' n' c' bo' k' d' m')
 (ha:(ao'=ao∧n'=n)∨∀a,ao'=some a→w.heap.size≤a.block) (hb':(bo'=bo∧k'=k)∨∀a,bo'=some a→w.heap.size≤a.block):
 ScrW (put5 w4 b (.int .i64 m'.s) (.int .i64 m'.t) (.int .i64 m'.x) (.slice ao' n' c') (.slice bo' k' d')) b G P ao' n' c' bo' k' d' m':=by
 have h4:=h.below hb
 have hbl:=h.bx.lt
 have hg:=Ze8 w4 b (.int .i64 m'.s) (.int .i64 m'.t) (.int .i64 m'.x) (.slice ao' n' c') (.slice bo' k' d')
 have f1:0<n'→∀a,ao'=some a→a.block≠b:=by
  rcases ha with ⟨rfl,rfl⟩|ha
  ·exact h.fa
  ·exact fun _ a e=>by have:=ha a e;omega
 have f2:0<k'→∀a,bo'=some a→a.block≠b:=by
  rcases hb' with ⟨rfl,rfl⟩|hb'
  ·exact h.fb
  ·exact fun _ a e=>by have:=hb' a e;omega
 exact⟨Zae2 h4.bx _ _ _ _ _,hS.far hg f1 f2,h4.ln.gr hg (fun a e _=>by cases e;exact Ne.symm h.ne),h.ne,f1,f2⟩
theorem Zyq (text:ByteArray) (w:World) (hs:text.size≤1099511627776):Calls Tryz.prog 21 #[.string text] w fun e w'=>e= .returned (.string (Zb4 text))∧Below w.heap.size w w':=by
 by_cases hlong:20000<text.size
 ·have hR:=Lib.hid (show Zb4 text=Zaiz from if_pos hlong)
  have hl':(20000:Int)<(text.size:Int):=by omega
  rw[hR.out]
  go_enter Tryz.func21,Tryz.ntmps21
  go_wp2_with fail
  go_ret
  exact⟨rfl,Below.refl _ _⟩
 ·have hl':¬(20000:Int)<(text.size:Int):=by omega
  have hR:Zb4 text=runS (cutT 10 text) 0 mch0 ⟨#[]⟩:=if_neg hlong
  have hsz:∀p∈cutT 10 text,p.size≤20000:=fun p hp=>Nat.le_trans (Zdk hp) (by omega)
  have hln:(cutT 10 text).length≤20001∧1≤(cutT 10 text).length:=by
   have h1:=Zf5 10 text
   have h2:=List.count_le_length (a:=(10:UInt8)) (l:=bts text)
   rw[Zbz]at h2
   omega
  rw[hR]
  obtain⟨P,hP⟩:∃P,cutT 10 text=P:=⟨_,rfl⟩
  obtain⟨X,hX⟩:∃X,runS (cutT 10 text) 0 mch0 ⟨#[]⟩=X:=⟨_,rfl⟩
  rw[hX]
  rw[hP]at hX hsz hln
  have HP:=Lib.hid hP
  have HSZ:=Lib.hid hsz
  have HX0:=Lib.hid (show runS (P.drop 0) 0 mch0 ⟨#[]⟩=X by rw[List.drop_zero];exact hX)
  have hln1:=hln.1
  have hln2:=hln.2
  have htz:text.size≤1000000000:=by omega
  clear hR hP hX hsz hlong hln
  go_enter Tryz.func21,Tryz.ntmps21
  go_wp2_with fail
  refine(Zxa _).mono ?_;rintro e w1 ⟨rfl,hb1⟩
  have hbA:=hb1.alloc hb1.size (.cells #[.int .i64 3,.int .i64 3,.int .i64 1,.slice none 0 0,.slice none 0 0] 97)
  have hBx:=Box.new w1 #[.int .i64 3,.int .i64 3,.int .i64 1,.slice none 0 0,.slice none 0 0] 97
  unfold stV
  dsimp only[mch0]
  go_wp2_with fail
  refine(Zho text 10 10 rfl _ htz).mono ?_;rintro e w3 ⟨ao1,n1,c1,rfl,ho,hb3⟩
  rw[HP.out]at ho
  obtain rfl:n1=P.length:=ho.1
  have hcap:=ho.cap
  obtain⟨G,rfl⟩:∃G,ao1=some ⟨G,0,none⟩:=by
   rcases ho.2.2.2 with ⟨h1,h2⟩|⟨G,cap,cur,hv,_⟩
   ·have h2':P.length=0:=h2
    omega
   ·cases hv;exact⟨G,rfl⟩
  have hGlt:=(ho.lt _ rfl).1
  have hbl:=hBx.lt
  have hI:ScrW w3 w1.heap.size G P none 0 0 none 0 0 mch0:=⟨hBx.below hb3 hbl,⟨RdS.nil _,Nat.le_refl _,fun _=>rfl,Rd.nil _,Zac7⟩,ho.rd,(by
   show w1.heap.size≠G
   have h5:(w1.alloc (.cells #[.int .i64 3,.int .i64 3,.int .i64 1,.slice none 0 0,.slice none 0 0] 97)).heap.size≤G:=hGlt
   omega),(fun h=>absurd h (by omega)),(fun h=>absurd h (by omega))⟩
  have hb13:=hbA.trans (hb3.mono hbA.size)
  have hble:w.heap.size≤w1.heap.size:=hb1.size
  generalize w1.heap.size=b at*
  clear hBx hbA hb1 hb3 ho hGlt hbl
  go_wp2_with fail
  go_loopw [4,6] (fun o i wr=>∃(j:Nat) (m:Mch) (out:ByteArray) (ao:Option Addr) (n c:Nat) (bo:Option Addr) (k d:Nat),j≤P.length∧i= .int .i64 j∧o= .string out∧Hid (runS (P.drop j) j m out=X)∧Hid (out.size≤j*2100001)∧ScrW wr b G P ao n c bo k d m∧Below w.heap.size w wr) (fun _ i _=>P.length-(intOf i).toNat)
  case atStart=>exact⟨0,mch0,⟨#[]⟩,none,0,0,none,0,0,Nat.zero_le _,rfl,rfl,HX0,Lib.hid (Nat.zero_le _),hI,hb13⟩
  case round=>
   clear hI hb13 HX0
   obtain⟨j,m,out,ao,n,c,bo,k,d,hj,rfl,rfl,HRS,HOZ,hI,hbw⟩:=hrel
   obtain⟨wo,hwo⟩:∃wo:World,wo=wr:=⟨_,rfl⟩
   subst hwo
   have hoz2:out.size≤42002120001:=Nat.le_trans HOZ.out (Nat.le_trans (Nat.mul_le_mul_right _ (show j≤20001 by omega)) (by decide))
   by_cases hlt:j<P.length
   ·have s0:wo.cell? ⟨G,j,none⟩=some (.string P[j]):=Zak hI.ln hlt
    have hst:=Z89 hlt m out
    rw[HRS.out]at hst
    have HST:=Lib.hid hst
    have HPZ:=Lib.hid (HSZ.out _ (List.getElem_mem hlt))
    clear hst
    generalize P[j]=line at*
    by_cases h0:line.size=0
    ·have he0:(line.toList==[])=true:=Zu6 (Zkb h0)
     have HNX:=Lib.hid (show runS (P.drop (j+1)) (j+1) m out=X by have:=HST.out;rw[if_pos h0]at this;exact this.symm)
     have HOZ2:=Lib.hid (show out.size≤(j+1)*2100001 from Nat.le_trans HOZ.out (Nat.mul_le_mul_right _ (Nat.le_succ j)))
     clear h0
     go_wp2_with fail
     go_roundw
     case rel=>exact⟨j+1,m,out,ao,n,c,bo,k,d,by omega,by go_num,rfl,HNX,HOZ2,hI,hbw⟩
     case measure=>simp[intOf];omega
    ·have he0:(line.toList==[])=false:=Zou (Zfh h0)
     have HS2:=Lib.hid (show X=if 100≤j∨40000<out.size then out++Z95 else runS (P.drop (j+1)) (j+1) (exec m line).1 (out++((exec m line).2++nlT))by have:=HST.out;rw[if_neg h0]at this;exact this)
     clear h0
     by_cases hfull:100≤j∨40000<out.size
     ·have HF:=Lib.hid (show out++⟨#[102,117,108,108,10]⟩=X by rw[HS2.out,if_pos hfull];rfl)
      have nf:¬9223372036854775807<out.size+5:=by omega
      by_cases h100:100≤j
      ·have hi100:(100:Int)≤(j:Int):=by omega
       clear hfull
       go_wp2_with fail
       rw[HF.out]
       go_ret
       exact⟨rfl,hbw⟩
      ·have h40:40000<out.size:=by omega
       have hi40:(40000:Int)<(out.size:Int):=by omega
       have hi100:¬(100:Int)≤(j:Int):=by omega
       clear hfull
       go_wp2_with fail
       rw[HF.out]
       go_ret
       exact⟨rfl,hbw⟩
     ·have hi40:¬(40000:Int)<(out.size:Int):=by omega
      have hi100:¬(100:Int)≤(j:Int):=by omega
      have HEX:=Lib.hid (Z8f hI.st.ok HPZ.out)
      have HF:=Lib.hid (show runS (P.drop (j+1)) (j+1) (exec m line).1 (out++((exec m line).2++nlT))=X by rw[HS2.out,if_neg hfull])
      clear hfull HS2 HST
      go_wp2_with fail
      refine(Zadf line 32 32 rfl _ (by have:=HPZ.out;omega)).mono ?_;rintro e w5 ⟨⟨v,rfl,hfd⟩,rfl⟩
      rcases hfd with ⟨rfl,hno⟩|⟨K,hK,rfl,hbef,hat⟩
      ·have HEQ:=Lib.hid (Z75 (m:=m) hno)
       have q0:=hI.bx.cell (i:=0) rfl
       have q1:=hI.bx.cell (i:=1) rfl
       have q2:=hI.bx.cell (i:=2) rfl
       have q3:=hI.bx.cell (i:=3) rfl
       have q4:=hI.bx.cell (i:=4) rfl
       have HCA:=Lib.hid (fun w6 (hA:StW w6 ao n c bo k d m)=>Zaju line hA)
       unfold stV at HCA
       have hj2:(j:Int)<(P.length:Int):=by omega
       clear hno
       go_wp2_with fail
       refine Zcn (by kernel_rfl) ?_
       refine Zdb 0 5 100 (fun _ w'=>Below w5.heap.size w5 w') (by kernel_rfl) rfl (Below.refl _ _).drew ?_
       simp only[List.take_succ_cons,List.take_zero,List.drop_zero]
       refine sv (.agg #[.int .i64 m.s,.int .i64 m.t,.int .i64 m.x,.slice ao n c,.slice bo k d]) (fun b w1 hs=>?_) ?_
       ·have k0:=(hs.cell (Zaa q0)).trans q0;have k1:=(hs.cell (Zaa q1)).trans q1;have k2:=(hs.cell (Zaa q2)).trans q2;have k3:=(hs.cell (Zaa q3)).trans q3;have k4:=(hs.cell (Zaa q4)).trans q4
        go_simp
       refine sk (.slice (some ⟨G,0,none⟩) P.length c1) ?_
       refine sk (.int .i64 j) ?_
       refine sv (.pointer (some ⟨G,j,none⟩)) (fun b w1 hs=>?_) ?_
       ·go_simp
       refine sv (.string line) (fun b w1 hs=>?_) ?_
       ·have kf:=(hs.cell (Zaa s0)).trans s0
        go_simp
       refine Zbo fun w6 hs=>?_
       have hI6:=hI.below hs
       have hbw6:=hbw.trans (hs.mono hbw.size)
       refine Zd3 5 _ 69 #[.agg #[.int .i64 m.s,.int .i64 m.t,.int .i64 m.x,.slice ao n c,.slice bo k d],.string line] (by kernel_rfl) rfl rfl (by kernel_rfl) (by kernel_rfl) ?_
       refine(HCA.out _ hI6.st).mono ?_;rintro e w7 ⟨ao4,n4,c4,bo4,kk4,dd4,rfl,hS7,hb7,ha4,hb5⟩
       rw[←HEQ.out]at hS7 ⊢
       generalize exec m line=EX at*
       obtain⟨m',o⟩:=EX
       have hI8:=hI6.next hb7 hS7 ha4 hb5
       have hB7:=(hI6.below hb7).bx
       have hbw8:=Zcs (hbw6.trans (hb7.mono hbw6.size)) hble (.int .i64 m'.s) (.int .i64 m'.t) (.int .i64 m'.x) (.slice ao4 n4 c4) (.slice bo4 kk4 dd4)
       refine⟨_,rfl,?_⟩
       refine Zdp 6 9 (fun b' w'=>w'=(bif b' then put5 w7 b (.int .i64 m'.s) (.int .i64 m'.t) (.int .i64 m'.x) (.slice ao4 n4 c4) (.slice bo4 kk4 dd4)else w7)) (by kernel_rfl) rfl rfl rfl ?_
       simp only[List.drop_succ_cons,List.drop_zero]
       unfold stV
       refine sk (.tuple #[.agg #[.int .i64 m'.s,.int .i64 m'.t,.int .i64 m'.x,.slice ao4 n4 c4,.slice bo4 kk4 dd4],.string (o++nlT)]) ?_
       refine sk (.agg #[.int .i64 m'.s,.int .i64 m'.t,.int .i64 m'.x,.slice ao4 n4 c4,.slice bo4 kk4 dd4]) ?_
       refine sk (.string (o++nlT)) ?_
       refine Zc3 (by kernel_rfl) rfl rfl (fun w8 hs8=>?_) ?_
       ·obtain rfl:w8=w7:=hs8
        exact⟨_,Zf4 rfl (by kernel_rfl) (by kernel_rfl) hB7,rfl⟩
       refine sk (.string (o++nlT)) ?_
       refine Zbo fun w8 hs8=>?_
       have hs9:w8=put5 w7 b (.int .i64 m'.s) (.int .i64 m'.t) (.int .i64 m'.x) (.slice ao4 n4 c4) (.slice bo4 kk4 dd4):=hs8
       clear hs8
       rw[←hs9]at hI8 hbw8
       clear hs9 hB7 hS7 hb7 ha4 hb5 hI6 hbw6 hs q0 q1 q2 q3 q4 HCA hI hbw s0
       have hoz:o.size≤2100000:=HEX.out.2
       have hon:(o++nlT).size=o.size+1:=by rw[ByteArray.size_append];rfl
       generalize hTN:o++nlT=TN at*
       have n1:¬9223372036854775807<out.size+TN.size:=by omega
       have HOZ2:=Lib.hid (show(out++TN).size≤(j+1)*2100001 by
        have:=HOZ.out
        rw[ByteArray.size_append,Nat.succ_mul]
        omega)
       have HF2:=Lib.hid (show runS (P.drop (j+1)) (j+1) m' (out++TN)=X from HF.out)
       clear hTN hon HF
       go_wp2_with fail
       go_roundw
       case rel=>exact⟨j+1,m',out++TN,ao4,n4,c4,bo4,kk4,dd4,by omega,by go_num,rfl,HF2,HOZ2,hI8,hbw8⟩
       case measure=>simp[intOf];omega
      ·obtain⟨hw1,hw2⟩:=Zajf hK hbef hat
       have hE:=Z5g (m:=m) hw2
       rw[hw1]at hE
       have HEQ:=Lib.hid hE
       have hrs:(line.extract (K+1) line.size).size≤20000:=by rw[Zbc (Nat.le_refl _)];have:=HPZ.out;omega
       have q0:=hI.bx.cell (i:=0) rfl
       have q1:=hI.bx.cell (i:=1) rfl
       have q2:=hI.bx.cell (i:=2) rfl
       have q3:=hI.bx.cell (i:=3) rfl
       have q4:=hI.bx.cell (i:=4) rfl
       have HCA:=Lib.hid (fun w6 (hA:StW w6 ao n c bo k d m)=>Z8q (line.extract 0 K) (line.extract (K+1) line.size) hA hrs)
       unfold stV at HCA
       have hj2:(j:Int)<(P.length:Int):=by omega
       have hKs:K+1≤line.size:=hK
       have hK0:¬(K:Int)<0:=by omega
       have hKi:(K:Int)≤(line.size:Int):=by omega
       have hKi2:(K:Int)+1≤(line.size:Int):=by omega
       have hK10:¬(K:Int)+1<0:=by omega
       have hKz:(K:Int)≤20000:=by have:=HPZ.out;omega
       have hwr:IntKind.i64.wrap ((K:Int)+1)=(K:Int)+1:=IntWalk.i64_in _ (by omega)
       clear hbef hat hE hw1 hw2 hrs hK
       go_wp2_with fail
       refine Zcn (by kernel_rfl) ?_
       refine Zdb 0 14 100 (fun _ w'=>Below w5.heap.size w5 w') (by kernel_rfl) rfl (Below.refl _ _).drew ?_
       simp only[List.take_succ_cons,List.take_zero,List.drop_zero]
       refine sv (.agg #[.int .i64 m.s,.int .i64 m.t,.int .i64 m.x,.slice ao n c,.slice bo k d]) (fun b w1 hs=>?_) ?_
       ·have k0:=(hs.cell (Zaa q0)).trans q0;have k1:=(hs.cell (Zaa q1)).trans q1;have k2:=(hs.cell (Zaa q2)).trans q2;have k3:=(hs.cell (Zaa q3)).trans q3;have k4:=(hs.cell (Zaa q4)).trans q4
        go_simp
       refine sk (.slice (some ⟨G,0,none⟩) P.length c1) ?_
       refine sk (.int .i64 j) ?_
       refine sv (.pointer (some ⟨G,j,none⟩)) (fun b w1 hs=>?_) ?_
       ·go_simp
       refine sv (.string line) (fun b w1 hs=>?_) ?_
       ·have kf:=(hs.cell (Zaa s0)).trans s0
        go_simp
       refine sk (.int .i64 K) ?_
       refine sv (.string (line.extract 0 K)) (fun b w1 hs=>?_) ?_
       ·go_simp
       refine sk (.slice (some ⟨G,0,none⟩) P.length c1) ?_
       refine sk (.int .i64 j) ?_
       refine sv (.pointer (some ⟨G,j,none⟩)) (fun b w1 hs=>?_) ?_
       ·go_simp
       refine sv (.string line) (fun b w1 hs=>?_) ?_
       ·have kf:=(hs.cell (Zaa s0)).trans s0
        go_simp
       refine sk (.int .i64 K) ?_
       refine sv (.int .i64 ((K:Int)+1)) (fun b w1 hs=>?_) ?_
       ·go_simp
       refine sv (.string (line.extract (K+1) line.size)) (fun b w1 hs=>?_) ?_
       ·go_simp
       refine Zbo fun w6 hs=>?_
       have hI6:=hI.below hs
       have hbw6:=hbw.trans (hs.mono hbw.size)
       refine Zd3 14 _ 70 #[.agg #[.int .i64 m.s,.int .i64 m.t,.int .i64 m.x,.slice ao n c,.slice bo k d],.string (line.extract 0 K),.string (line.extract (K+1) line.size)] (by kernel_rfl) rfl rfl (by kernel_rfl) (by kernel_rfl) ?_
       refine(HCA.out _ hI6.st).mono ?_;rintro e w7 ⟨ao4,n4,c4,bo4,kk4,dd4,rfl,hS7,hb7,ha4,hb5⟩
       rw[←HEQ.out]at hS7 ⊢
       generalize exec m line=EX at*
       obtain⟨m',o⟩:=EX
       have hI8:=hI6.next hb7 hS7 ha4 hb5
       have hB7:=(hI6.below hb7).bx
       have hbw8:=Zcs (hbw6.trans (hb7.mono hbw6.size)) hble (.int .i64 m'.s) (.int .i64 m'.t) (.int .i64 m'.x) (.slice ao4 n4 c4) (.slice bo4 kk4 dd4)
       refine⟨_,rfl,?_⟩
       refine Zdp 15 18 (fun b' w'=>w'=(bif b' then put5 w7 b (.int .i64 m'.s) (.int .i64 m'.t) (.int .i64 m'.x) (.slice ao4 n4 c4) (.slice bo4 kk4 dd4)else w7)) (by kernel_rfl) rfl rfl rfl ?_
       simp only[List.drop_succ_cons,List.drop_zero]
       unfold stV
       refine sk (.tuple #[.agg #[.int .i64 m'.s,.int .i64 m'.t,.int .i64 m'.x,.slice ao4 n4 c4,.slice bo4 kk4 dd4],.string (o++nlT)]) ?_
       refine sk (.agg #[.int .i64 m'.s,.int .i64 m'.t,.int .i64 m'.x,.slice ao4 n4 c4,.slice bo4 kk4 dd4]) ?_
       refine sk (.string (o++nlT)) ?_
       refine Zc3 (by kernel_rfl) rfl rfl (fun w8 hs8=>?_) ?_
       ·obtain rfl:w8=w7:=hs8
        exact⟨_,Zf4 rfl (by kernel_rfl) (by kernel_rfl) hB7,rfl⟩
       refine sk (.string (o++nlT)) ?_
       refine Zbo fun w8 hs8=>?_
       have hs9:w8=put5 w7 b (.int .i64 m'.s) (.int .i64 m'.t) (.int .i64 m'.x) (.slice ao4 n4 c4) (.slice bo4 kk4 dd4):=hs8
       clear hs8
       rw[←hs9]at hI8 hbw8
       clear hs9 hB7 hS7 hb7 ha4 hb5 hI6 hbw6 hs q0 q1 q2 q3 q4 HCA hI hbw s0 hK10 hKs hK0 hKi hKi2 hKz hwr
       have hoz:o.size≤2100000:=HEX.out.2
       have hon:(o++nlT).size=o.size+1:=by rw[ByteArray.size_append];rfl
       generalize hTN:o++nlT=TN at*
       have n1:¬9223372036854775807<out.size+TN.size:=by omega
       have HOZ2:=Lib.hid (show(out++TN).size≤(j+1)*2100001 by
        have:=HOZ.out
        rw[ByteArray.size_append,Nat.succ_mul]
        omega)
       have HF2:=Lib.hid (show runS (P.drop (j+1)) (j+1) m' (out++TN)=X from HF.out)
       clear hTN hon HF
       go_wp2_with fail
       go_roundw
       case rel=>exact⟨j+1,m',out++TN,ao4,n4,c4,bo4,kk4,dd4,by omega,by go_num,rfl,HF2,HOZ2,hI8,hbw8⟩
       case measure=>simp[intOf];omega
   ·obtain rfl:j=P.length:=by omega
    have HF:=Lib.hid (show out=X by rw[←HRS.out];exact(Zxd (Nat.le_refl _) m out).symm)
    go_wp2_with fail
    rw[HF.out]
    go_ret
    exact⟨rfl,hbw⟩
end Go.Proofs.YtcjihfongfefoaaGreatDoor
