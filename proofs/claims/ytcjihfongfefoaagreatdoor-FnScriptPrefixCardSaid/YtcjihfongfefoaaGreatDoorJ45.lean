/- Xc Xf Xe -/
import Derived.Test.YtcjihfongfefoaaGreatDoorJ28
import Derived.Test.YtcjihfongfefoaaGreatDoorJ39
import Derived.Test.YtcjihfongfefoaaGreatDoorJ43
import Derived.Test.YtcjihfongfefoaaGreatDoorJ44
import Derived.Test.YtcjihfongfefoaaGreatDoorShlf
namespace Go.Proofs.YtcjihfongfefoaaGreatDoor
open Go.RowKit
set_option maxHeartbeats 25600000
set_option maxRecDepth 100000
theorem Zz9 {w:World} {ao:Option Addr} {n c:Nat} {bo:Option Addr} {k d g cf:Nat} {m:Mch} {fa:ByteArray} (h:StW w ao n c bo k d m) (hf:RdT w (some ⟨g,0,none⟩) 1 [fa]) (hz:∀p∈[fa],p.size≤20000):
 Calls Tryz.prog 151 #[stV m ao n c bo k d,.string (⟨#[98,105,116,115]⟩:ByteArray),.slice (some ⟨g,0,none⟩) 1 cf] w fun e w'=>e= .returned (.string (Zco (cmd m 3 [fa])))∧Below w.heap.size w w':=by
 have hbA:Below w.heap.size w (w.alloc (.cells #[.int .i64 m.s,.int .i64 m.t,.int .i64 m.x,.slice ao n c,.slice bo k d] 97)):=(Below.refl _ _).alloc (Nat.le_refl _) _
 have hB:=Box.new w #[.int .i64 m.s,.int .i64 m.t,.int .i64 m.x,.slice ao n c,.slice bo k d] 97
 have d0:=hB.cell (i:=0) rfl
 have d1:=hB.cell (i:=1) rfl
 have d2:=hB.cell (i:=2) rfl
 have d3:=hB.cell (i:=3) rfl
 have d4:=hB.cell (i:=4) rfl
 clear hB
 have F0:=Zak (hf.below hbA) (j:=0) (by simp)
 have hz0:fa.size≤20000:=hz _ (by simp)
 have hA:=h.below hbA
 have hcmd:cmd m 3 [fa]=m.say ((rnR m.s m.t m.x ((numT fa).getD badN)).map Zaf):=Zgi (F:=fun x=>m.say ((rnR m.s m.t m.x x).map Zaf)) (congrArg (fun r=>m.say (Option.map Zaf r)) (rn_bad _ _ _)) _
 obtain⟨X,hX⟩:∃X,rnR m.s m.t m.x ((numT fa).getD badN)=X:=⟨_,rfl⟩
 have hxz:(X.getD ByteArray.empty).size≤600:=by
  cases X with
  |none=>exact Nat.zero_le _
  |some r=>exact rn_sz hX
 have HX:=Lib.hid hX
 rw[hX]at hcmd
 have hdz:(Zaf (X.getD ByteArray.empty)).size≤1099511627776:=by have:=Ze2 (X.getD ByteArray.empty);omega
 have HT:=Lib.hid (show(if X.isSome=true then Zaf (X.getD ByteArray.empty)++nlT else noT++nlT)=Zco (cmd m 3 [fa])by rw[hcmd];exact Zjs m X Zaf _)
 clear hcmd hX hxz h hf hz
 unfold stV
 go_enter Tryz.func151,Tryz.ntmps151
 go_wp2_with fail
 generalize (w.alloc (.cells #[.int .i64 m.s,.int .i64 m.t,.int .i64 m.x,.slice ao n c,.slice bo k d] 97))=w1 at*
 refine Zau 100 (fun _ w'=>Below w1.heap.size w1 w') (by kernel_rfl) (by kernel_rfl) (Below.refl _ _).drew ?_
 refine sk (.pointer (some ⟨w.heap.size,0,none⟩)) ?_
 refine sv (.agg #[.int .i64 m.s,.int .i64 m.t,.int .i64 m.x]) (fun b w1 hs=>?_) ?_
 ·have k0:=(hs.cell (Zaa d0)).trans d0;have k1:=(hs.cell (Zaa d1)).trans d1;have k2:=(hs.cell (Zaa d2)).trans d2
  go_simp
 refine sk (.slice (some ⟨g,0,none⟩) 1 cf) ?_
 refine sv (.pointer (some ⟨g,0,none⟩)) (fun b w1 hs=>?_) ?_
 ·go_simp
 refine sv (.string fa) (fun b w1 hs=>?_) ?_
 ·have kf:=(hs.cell (Zaa F0)).trans F0
  go_simp
 refine sc (.int .i64 ((numT fa).getD badN)) 220 (#[.string fa]) (fun b w1 hs=>?_) ?_
 ·exact(Zch fa _ (by have:=hz0;omega)).mono fun e w2 hr=>⟨hr.1,by rw[hr.2];exact hs⟩
 refine sc (.tuple #[.string (X.getD ByteArray.empty),.bool X.isSome]) 219 (#[.agg #[.int .i64 m.s,.int .i64 m.t,.int .i64 m.x],.int .i64 ((numT fa).getD badN)]) (fun b w1 hs=>?_) ?_
 ·exact((Zsq m.s m.t m.x _ _).mono fun e w2 hr=>by rw[HX.out]at hr;exact⟨hr.1,hs.trans (hr.2.mono hs.size)⟩)
 refine sk (.tuple #[.string (X.getD ByteArray.empty),.bool X.isSome]) ?_
 refine sk (.string (X.getD ByteArray.empty)) ?_
 refine sk (.bool X.isSome) ?_
 refine sk (.string (X.getD ByteArray.empty)) ?_
 refine sk (.bool X.isSome) ?_
 refine Zbo fun w2 hs=>?_
 have hb2:=hbA.trans (hs.mono hbA.size)
 clear hs hA F0
 go_wp2_with fail
 refine(Zev _ _).mono ?_;rintro e w3 ⟨rfl,rfl⟩
 go_wp2_with fail
 refine(Zc4 _ _ _ hdz).mono ?_;rintro e w3 ⟨rfl,rfl⟩
 rw[HT.out]
 go_wp2_with fail
 go_ret
 exact⟨rfl,hb2⟩
theorem Z1q {w:World} {ao:Option Addr} {n c:Nat} {bo:Option Addr} {k d g cf:Nat} {m:Mch} {fa fb fc fd:ByteArray} (h:StW w ao n c bo k d m) (hf:RdT w (some ⟨g,0,none⟩) 4 [fa,fb,fc,fd]) (hz:∀p∈[fa,fb,fc,fd],p.size≤20000):
 Calls Tryz.prog 151 #[stV m ao n c bo k d,.string (⟨#[103,111,108,100]⟩:ByteArray),.slice (some ⟨g,0,none⟩) 4 cf] w fun e w'=>e= .returned (.string (Zco (cmd m 9 [fa,fb,fc,fd])))∧Below w.heap.size w w':=by
 have hbA:Below w.heap.size w (w.alloc (.cells #[.int .i64 m.s,.int .i64 m.t,.int .i64 m.x,.slice ao n c,.slice bo k d] 97)):=(Below.refl _ _).alloc (Nat.le_refl _) _
 have hB:=Box.new w #[.int .i64 m.s,.int .i64 m.t,.int .i64 m.x,.slice ao n c,.slice bo k d] 97
 have d0:=hB.cell (i:=0) rfl
 have d1:=hB.cell (i:=1) rfl
 have d2:=hB.cell (i:=2) rfl
 have d3:=hB.cell (i:=3) rfl
 have d4:=hB.cell (i:=4) rfl
 clear hB
 have F0:=Zak (hf.below hbA) (j:=0) (by simp)
 have hz0:fa.size≤20000:=hz _ (by simp)
 have F1:=Zak (hf.below hbA) (j:=1) (by simp)
 have hz1:fb.size≤20000:=hz _ (by simp)
 have F2:=Zak (hf.below hbA) (j:=2) (by simp)
 have hz2:fc.size≤20000:=hz _ (by simp)
 have F3:=Zak (hf.below hbA) (j:=3) (by simp)
 have hz3:fd.size≤20000:=hz _ (by simp)
 have hA:=h.below hbA
 have hcmd:cmd m 9 [fa,fb,fc,fd]=m.say (Zgo ((numT fa).getD badN) ((numT fb).getD badN) ((numT fc).getD badN) ((numT fd).getD badN)):=Z9o (F:=fun x y z t=>m.say (Zgo x y z t)) (fun y z t=>(congrArg m.say (Z9s y z t))) (fun x z t=>(congrArg m.say (Zace x z t))) (fun x y t=>(congrArg m.say (Zaby x y t))) (fun x y z=>(congrArg m.say (Zab7 x y z))) _ _ _ _
 obtain⟨X,hX⟩:∃X,Zgo ((numT fa).getD badN) ((numT fb).getD badN) ((numT fc).getD badN) ((numT fd).getD badN)=X:=⟨_,rfl⟩
 have hxz:(X.getD ByteArray.empty).size≤600:=by
  cases X with
  |none=>exact Nat.zero_le _
  |some r=>exact Z7s hX
 have HX:=Lib.hid hX
 rw[hX]at hcmd
 have hdz:(X.getD ByteArray.empty).size≤1099511627776:=by omega
 have HT:=Lib.hid (show(if X.isSome=true then X.getD ByteArray.empty++nlT else noT++nlT)=Zco (cmd m 9 [fa,fb,fc,fd])by rw[hcmd];exact Zml m X _)
 clear hcmd hX hxz h hf hz
 unfold stV
 go_enter Tryz.func151,Tryz.ntmps151
 go_wp2_with fail
 generalize (w.alloc (.cells #[.int .i64 m.s,.int .i64 m.t,.int .i64 m.x,.slice ao n c,.slice bo k d] 97))=w1 at*
 refine Zau 100 (fun _ w'=>Below w1.heap.size w1 w') (by kernel_rfl) (by kernel_rfl) (Below.refl _ _).drew ?_
 refine sk (.slice (some ⟨g,0,none⟩) 4 cf) ?_
 refine sv (.pointer (some ⟨g,0,none⟩)) (fun b w1 hs=>?_) ?_
 ·go_simp
 refine sv (.string fa) (fun b w1 hs=>?_) ?_
 ·have kf:=(hs.cell (Zaa F0)).trans F0
  go_simp
 refine sc (.int .i64 ((numT fa).getD badN)) 220 (#[.string fa]) (fun b w1 hs=>?_) ?_
 ·exact(Zch fa _ (by have:=hz0;omega)).mono fun e w2 hr=>⟨hr.1,by rw[hr.2];exact hs⟩
 refine sk (.slice (some ⟨g,0,none⟩) 4 cf) ?_
 refine sv (.pointer (some ⟨g,1,none⟩)) (fun b w1 hs=>?_) ?_
 ·go_simp
 refine sv (.string fb) (fun b w1 hs=>?_) ?_
 ·have kf:=(hs.cell (Zaa F1)).trans F1
  go_simp
 refine sc (.int .i64 ((numT fb).getD badN)) 220 (#[.string fb]) (fun b w1 hs=>?_) ?_
 ·exact(Zch fb _ (by have:=hz1;omega)).mono fun e w2 hr=>⟨hr.1,by rw[hr.2];exact hs⟩
 refine sk (.slice (some ⟨g,0,none⟩) 4 cf) ?_
 refine sv (.pointer (some ⟨g,2,none⟩)) (fun b w1 hs=>?_) ?_
 ·go_simp
 refine sv (.string fc) (fun b w1 hs=>?_) ?_
 ·have kf:=(hs.cell (Zaa F2)).trans F2
  go_simp
 refine sc (.int .i64 ((numT fc).getD badN)) 220 (#[.string fc]) (fun b w1 hs=>?_) ?_
 ·exact(Zch fc _ (by have:=hz2;omega)).mono fun e w2 hr=>⟨hr.1,by rw[hr.2];exact hs⟩
 refine sk (.slice (some ⟨g,0,none⟩) 4 cf) ?_
 refine sv (.pointer (some ⟨g,3,none⟩)) (fun b w1 hs=>?_) ?_
 ·go_simp
 refine sv (.string fd) (fun b w1 hs=>?_) ?_
 ·have kf:=(hs.cell (Zaa F3)).trans F3
  go_simp
 refine sc (.int .i64 ((numT fd).getD badN)) 220 (#[.string fd]) (fun b w1 hs=>?_) ?_
 ·exact(Zch fd _ (by have:=hz3;omega)).mono fun e w2 hr=>⟨hr.1,by rw[hr.2];exact hs⟩
 refine sc (.tuple #[.string (X.getD ByteArray.empty),.bool X.isSome]) 225 (#[.int .i64 ((numT fa).getD badN),.int .i64 ((numT fb).getD badN),.int .i64 ((numT fc).getD badN),.int .i64 ((numT fd).getD badN)]) (fun b w1 hs=>?_) ?_
 ·exact((Z0r _ _ _ _ _).mono fun e w2 hr=>by rw[HX.out]at hr;exact⟨hr.1,hs.trans (hr.2.mono hs.size)⟩)
 refine sk (.tuple #[.string (X.getD ByteArray.empty),.bool X.isSome]) ?_
 refine sk (.string (X.getD ByteArray.empty)) ?_
 refine sk (.bool X.isSome) ?_
 refine sk (.string (X.getD ByteArray.empty)) ?_
 refine sk (.bool X.isSome) ?_
 refine Zbo fun w2 hs=>?_
 have hb2:=hbA.trans (hs.mono hbA.size)
 clear hs hA F0 F1 F2 F3
 go_wp2_with fail
 refine(Zc4 _ _ _ hdz).mono ?_;rintro e w3 ⟨rfl,rfl⟩
 rw[HT.out]
 go_wp2_with fail
 go_ret
 exact⟨rfl,hb2⟩
theorem Zxy {w:World} {ao:Option Addr} {n c:Nat} {bo:Option Addr} {k d g cf:Nat} {m:Mch} {fa fb:ByteArray} (h:StW w ao n c bo k d m) (hf:RdT w (some ⟨g,0,none⟩) 2 [fa,fb]) (hz:∀p∈[fa,fb],p.size≤20000):
 Calls Tryz.prog 151 #[stV m ao n c bo k d,.string (⟨#[119,97,108,115,104]⟩:ByteArray),.slice (some ⟨g,0,none⟩) 2 cf] w fun e w'=>e= .returned (.string (Zco (cmd m 10 [fa,fb])))∧Below w.heap.size w w':=by
 have hbA:Below w.heap.size w (w.alloc (.cells #[.int .i64 m.s,.int .i64 m.t,.int .i64 m.x,.slice ao n c,.slice bo k d] 97)):=(Below.refl _ _).alloc (Nat.le_refl _) _
 have hB:=Box.new w #[.int .i64 m.s,.int .i64 m.t,.int .i64 m.x,.slice ao n c,.slice bo k d] 97
 have d0:=hB.cell (i:=0) rfl
 have d1:=hB.cell (i:=1) rfl
 have d2:=hB.cell (i:=2) rfl
 have d3:=hB.cell (i:=3) rfl
 have d4:=hB.cell (i:=4) rfl
 clear hB
 have F0:=Zak (hf.below hbA) (j:=0) (by simp)
 have hz0:fa.size≤20000:=hz _ (by simp)
 have F1:=Zak (hf.below hbA) (j:=1) (by simp)
 have hz1:fb.size≤20000:=hz _ (by simp)
 have hA:=h.below hbA
 have hcmd:cmd m 10 [fa,fb]=m.say (walR ((numT fa).getD badN) ((numT fb).getD badN)):=Zl7 (F:=fun x y=>m.say (walR x y)) (fun y=>(congrArg m.say (Zagg y))) (fun x=>(congrArg m.say (Zaek x))) _ _
 obtain⟨X,hX⟩:∃X,walR ((numT fa).getD badN) ((numT fb).getD badN)=X:=⟨_,rfl⟩
 have hxz:(X.getD ByteArray.empty).size≤600:=by
  cases X with
  |none=>exact Nat.zero_le _
  |some r=>exact Zag2 hX
 have HX:=Lib.hid hX
 rw[hX]at hcmd
 have hdz:(X.getD ByteArray.empty).size≤1099511627776:=by omega
 have HT:=Lib.hid (show(if X.isSome=true then X.getD ByteArray.empty++nlT else noT++nlT)=Zco (cmd m 10 [fa,fb])by rw[hcmd];exact Zml m X _)
 clear hcmd hX hxz h hf hz
 unfold stV
 go_enter Tryz.func151,Tryz.ntmps151
 go_wp2_with fail
 generalize (w.alloc (.cells #[.int .i64 m.s,.int .i64 m.t,.int .i64 m.x,.slice ao n c,.slice bo k d] 97))=w1 at*
 refine Zau 100 (fun _ w'=>Below w1.heap.size w1 w') (by kernel_rfl) (by kernel_rfl) (Below.refl _ _).drew ?_
 refine sk (.slice (some ⟨g,0,none⟩) 2 cf) ?_
 refine sv (.pointer (some ⟨g,0,none⟩)) (fun b w1 hs=>?_) ?_
 ·go_simp
 refine sv (.string fa) (fun b w1 hs=>?_) ?_
 ·have kf:=(hs.cell (Zaa F0)).trans F0
  go_simp
 refine sc (.int .i64 ((numT fa).getD badN)) 220 (#[.string fa]) (fun b w1 hs=>?_) ?_
 ·exact(Zch fa _ (by have:=hz0;omega)).mono fun e w2 hr=>⟨hr.1,by rw[hr.2];exact hs⟩
 refine sk (.slice (some ⟨g,0,none⟩) 2 cf) ?_
 refine sv (.pointer (some ⟨g,1,none⟩)) (fun b w1 hs=>?_) ?_
 ·go_simp
 refine sv (.string fb) (fun b w1 hs=>?_) ?_
 ·have kf:=(hs.cell (Zaa F1)).trans F1
  go_simp
 refine sc (.int .i64 ((numT fb).getD badN)) 220 (#[.string fb]) (fun b w1 hs=>?_) ?_
 ·exact(Zch fb _ (by have:=hz1;omega)).mono fun e w2 hr=>⟨hr.1,by rw[hr.2];exact hs⟩
 refine sc (.tuple #[.string (X.getD ByteArray.empty),.bool X.isSome]) 226 (#[.int .i64 ((numT fa).getD badN),.int .i64 ((numT fb).getD badN)]) (fun b w1 hs=>?_) ?_
 ·exact((Zxb _ _ _).mono fun e w2 hr=>by rw[HX.out]at hr;exact⟨hr.1,hs.trans (hr.2.mono hs.size)⟩)
 refine sk (.tuple #[.string (X.getD ByteArray.empty),.bool X.isSome]) ?_
 refine sk (.string (X.getD ByteArray.empty)) ?_
 refine sk (.bool X.isSome) ?_
 refine sk (.string (X.getD ByteArray.empty)) ?_
 refine sk (.bool X.isSome) ?_
 refine Zbo fun w2 hs=>?_
 have hb2:=hbA.trans (hs.mono hbA.size)
 clear hs hA F0 F1
 go_wp2_with fail
 refine(Zc4 _ _ _ hdz).mono ?_;rintro e w3 ⟨rfl,rfl⟩
 rw[HT.out]
 go_wp2_with fail
 go_ret
 exact⟨rfl,hb2⟩
theorem Z08 {w:World} {ao:Option Addr} {n c:Nat} {bo:Option Addr} {k d g cf:Nat} {m:Mch} {fa fb:ByteArray} (h:StW w ao n c bo k d m) (hf:RdT w (some ⟨g,0,none⟩) 2 [fa,fb]) (hz:∀p∈[fa,fb],p.size≤20000):
 Calls Tryz.prog 151 #[stV m ao n c bo k d,.string (⟨#[104,111,112,115]⟩:ByteArray),.slice (some ⟨g,0,none⟩) 2 cf] w fun e w'=>e= .returned (.string (Zco (cmd m 4 [fa,fb])))∧Below w.heap.size w w':=by
 have hbA:Below w.heap.size w (w.alloc (.cells #[.int .i64 m.s,.int .i64 m.t,.int .i64 m.x,.slice ao n c,.slice bo k d] 97)):=(Below.refl _ _).alloc (Nat.le_refl _) _
 have hB:=Box.new w #[.int .i64 m.s,.int .i64 m.t,.int .i64 m.x,.slice ao n c,.slice bo k d] 97
 have d0:=hB.cell (i:=0) rfl
 have d1:=hB.cell (i:=1) rfl
 have d2:=hB.cell (i:=2) rfl
 have d3:=hB.cell (i:=3) rfl
 have d4:=hB.cell (i:=4) rfl
 clear hB
 have F0:=Zak (hf.below hbA) (j:=0) (by simp)
 have hz0:fa.size≤20000:=hz _ (by simp)
 have F1:=Zak (hf.below hbA) (j:=1) (by simp)
 have hz1:fb.size≤20000:=hz _ (by simp)
 have hA:=h.below hbA
 have hcmd:cmd m 4 [fa,fb]=m.say ((Zcz m.s m.t m.x ((numT fa).getD badN) ((numT fb).getD badN)).map nmsT):=Zl7 (F:=fun x y=>m.say ((Zcz m.s m.t m.x x y).map nmsT)) (fun y=>(congrArg (fun r=>m.say (Option.map nmsT r)) (Zae8 m.s m.t m.x y))) (fun x=>(congrArg (fun r=>m.say (Option.map nmsT r)) (Zaeg m.s m.t m.x x))) _ _
 obtain⟨X,hX⟩:∃X,Zcz m.s m.t m.x ((numT fa).getD badN) ((numT fb).getD badN)=X:=⟨_,rfl⟩
 have hxl:(X.getD []).length≤600∧∀y∈X.getD [],I63 y:=by
  cases X with
  |none=>exact⟨Nat.zero_le _,fun y hy=>by cases hy⟩
  |some r=>exact⟨by have:=(Zmx hX).1;show r.length≤600;omega,Zakr hX⟩
 have hdz:(nmsT (X.getD [])).size≤1099511627776:=by have:=Zhn (l:=X.getD []) (n:=600) hxl.1 (fun y hy=>⟨by have:=(hxl.2 y hy).1;omega,(hxl.2 y hy).2⟩);omega
 have HX:=Lib.hid hX
 rw[hX]at hcmd
 have HL:=Lib.hid hxl
 have HT:=Lib.hid (show(if X.isSome=true then nmsT (X.getD [])++nlT else noT++nlT)=Zco (cmd m 4 [fa,fb])by rw[hcmd];exact Zjs m X nmsT _)
 clear hcmd hX hxl h hf hz
 unfold stV
 go_enter Tryz.func151,Tryz.ntmps151
 go_wp2_with fail
 generalize (w.alloc (.cells #[.int .i64 m.s,.int .i64 m.t,.int .i64 m.x,.slice ao n c,.slice bo k d] 97))=w1 at*
 refine Zcn (by kernel_rfl) ?_
 refine Zdb 0 10 100 (fun _ w'=>Below w1.heap.size w1 w') (by kernel_rfl) rfl (Below.refl _ _).drew ?_
 simp only[List.take_succ_cons,List.take_zero,List.drop_zero]
 refine sk (.pointer (some ⟨w.heap.size,0,none⟩)) ?_
 refine sv (.agg #[.int .i64 m.s,.int .i64 m.t,.int .i64 m.x]) (fun b w1 hs=>?_) ?_
 ·have k0:=(hs.cell (Zaa d0)).trans d0;have k1:=(hs.cell (Zaa d1)).trans d1;have k2:=(hs.cell (Zaa d2)).trans d2
  go_simp
 refine sk (.slice (some ⟨g,0,none⟩) 2 cf) ?_
 refine sv (.pointer (some ⟨g,0,none⟩)) (fun b w1 hs=>?_) ?_
 ·go_simp
 refine sv (.string fa) (fun b w1 hs=>?_) ?_
 ·have kf:=(hs.cell (Zaa F0)).trans F0
  go_simp
 refine sc (.int .i64 ((numT fa).getD badN)) 220 (#[.string fa]) (fun b w1 hs=>?_) ?_
 ·exact(Zch fa _ (by have:=hz0;omega)).mono fun e w2 hr=>⟨hr.1,by rw[hr.2];exact hs⟩
 refine sk (.slice (some ⟨g,0,none⟩) 2 cf) ?_
 refine sv (.pointer (some ⟨g,1,none⟩)) (fun b w1 hs=>?_) ?_
 ·go_simp
 refine sv (.string fb) (fun b w1 hs=>?_) ?_
 ·have kf:=(hs.cell (Zaa F1)).trans F1
  go_simp
 refine sc (.int .i64 ((numT fb).getD badN)) 220 (#[.string fb]) (fun b w1 hs=>?_) ?_
 ·exact(Zch fb _ (by have:=hz1;omega)).mono fun e w2 hr=>⟨hr.1,by rw[hr.2];exact hs⟩
 refine Zbo fun w2 hs=>?_
 have hb2:=hbA.trans (hs.mono hbA.size)
 refine Zd3 10 _ 227 #[.agg #[.int .i64 m.s,.int .i64 m.t,.int .i64 m.x],.int .i64 ((numT fa).getD badN),.int .i64 ((numT fb).getD badN)] (by kernel_rfl) rfl rfl (by kernel_rfl) (by kernel_rfl) ?_
 refine(Zsb m.s m.t m.x _ _ _).mono ?_;intro e w3 hr;rw[HX.out]at hr;obtain⟨ao3,n3,c3,rfl,ho3,hb3⟩:=hr
 refine⟨_,rfl,?_⟩
 refine Zdp 11 100 (fun _ w'=>w'=w3) (by kernel_rfl) rfl rfl rfl ?_
 simp only[List.drop_succ_cons,List.drop_zero]
 refine sk (.tuple #[.slice ao3 n3 c3,.bool X.isSome]) ?_
 refine sk (.slice ao3 n3 c3) ?_
 refine sk (.bool X.isSome) ?_
 refine sk (.slice ao3 n3 c3) ?_
 refine sk (.bool X.isSome) ?_
 refine Zbo ?_
 rintro w' rfl
 have hb13:=hb2.trans (hb3.mono hb2.size)
 have hR3:=ho3.rd
 have hn3:n3≤1000000:=by have:=ho3.1;have:=HL.out.1;omega
 clear hs hA ho3 hb3 hb2 F0 F1
 go_wp2_with fail
 refine(Zfe hR3 HL.out.2 hn3).mono ?_;rintro e w4 ⟨rfl,hb4⟩
 have hb14:=hb13.trans (hb4.mono hb13.size)
 go_wp2_with fail
 refine(Zc4 _ _ _ hdz).mono ?_;rintro e w5 ⟨rfl,rfl⟩
 rw[HT.out]
 go_wp2_with fail
 go_ret
 exact⟨rfl,hb14⟩
theorem Z07 {w:World} {ao:Option Addr} {n c:Nat} {bo:Option Addr} {k d g cf:Nat} {m:Mch} {fa:ByteArray} (h:StW w ao n c bo k d m) (hf:RdT w (some ⟨g,0,none⟩) 1 [fa]) (hz:∀p∈[fa],p.size≤20000):
 Calls Tryz.prog 151 #[stV m ao n c bo k d,.string (⟨#[116,114,101,101]⟩:ByteArray),.slice (some ⟨g,0,none⟩) 1 cf] w fun e w'=>e= .returned (.string (Zco (cmd m 11 [fa])))∧Below w.heap.size w w':=by
 have hbA:Below w.heap.size w (w.alloc (.cells #[.int .i64 m.s,.int .i64 m.t,.int .i64 m.x,.slice ao n c,.slice bo k d] 97)):=(Below.refl _ _).alloc (Nat.le_refl _) _
 have hB:=Box.new w #[.int .i64 m.s,.int .i64 m.t,.int .i64 m.x,.slice ao n c,.slice bo k d] 97
 have d0:=hB.cell (i:=0) rfl
 have d1:=hB.cell (i:=1) rfl
 have d2:=hB.cell (i:=2) rfl
 have d3:=hB.cell (i:=3) rfl
 have d4:=hB.cell (i:=4) rfl
 clear hB
 have F0:=Zak (hf.below hbA) (j:=0) (by simp)
 have hz0:fa.size≤20000:=hz _ (by simp)
 have hA:=h.below hbA
 obtain⟨X,hX⟩:∃X,treR (Zar fa)=X:=⟨_,rfl⟩
 have hcmd:cmd m 11 [fa]=m.say X:=by rw[←hX];rfl
 have hxz:(X.getD ByteArray.empty).size≤600:=by
  cases X with
  |none=>exact Nat.zero_le _
  |some r=>exact Zag5 hX
 have HX:=Lib.hid hX
 have HT:=Lib.hid (show(if X.isSome=true then X.getD ByteArray.empty++nlT else noT++nlT)=Zco (cmd m 11 [fa])by rw[hcmd];exact Zml m X _)
 have hdz:(X.getD ByteArray.empty).size≤1099511627776:=by omega
 have hnz:(Zar fa).size≤1099511627776:=by have:=Znn fa;omega
 clear hcmd hX hxz h hf hz d0 d1 d2 d3 d4
 unfold stV
 go_enter Tryz.func151,Tryz.ntmps151
 go_wp2_with fail
 generalize (w.alloc (.cells #[.int .i64 m.s,.int .i64 m.t,.int .i64 m.x,.slice ao n c,.slice bo k d] 97))=w1 at*
 refine(Zkk _ _).mono ?_;rintro e w2 ⟨rfl,rfl⟩
 go_wp2_with fail
 refine(Z0t _ _ hnz).mono ?_;intro e w3 hr;rw[HX.out]at hr;obtain⟨rfl,hb3⟩:=hr
 have hb13:=hbA.trans (hb3.mono hbA.size)
 clear hA F0
 go_wp2_with fail
 refine(Zc4 _ _ _ hdz).mono ?_;rintro e w5 ⟨rfl,rfl⟩
 rw[HT.out]
 go_wp2_with fail
 go_ret
 exact⟨rfl,hb13⟩
theorem Zra {w:World} {ao:Option Addr} {n c:Nat} {bo:Option Addr} {k d g cf:Nat} {m:Mch} {fa:ByteArray} (h:StW w ao n c bo k d m) (hf:RdT w (some ⟨g,0,none⟩) 1 [fa]) (hz:∀p∈[fa],p.size≤20000):
 Calls Tryz.prog 151 #[stV m ao n c bo k d,.string (⟨#[115,104,111,114,116,101,115,116]⟩:ByteArray),.slice (some ⟨g,0,none⟩) 1 cf] w fun e w'=>e= .returned (.string (Zco (cmd m 5 [fa])))∧Below w.heap.size w w':=by
 have hbA:Below w.heap.size w (w.alloc (.cells #[.int .i64 m.s,.int .i64 m.t,.int .i64 m.x,.slice ao n c,.slice bo k d] 97)):=(Below.refl _ _).alloc (Nat.le_refl _) _
 have hB:=Box.new w #[.int .i64 m.s,.int .i64 m.t,.int .i64 m.x,.slice ao n c,.slice bo k d] 97
 have d0:=hB.cell (i:=0) rfl
 have d1:=hB.cell (i:=1) rfl
 have d2:=hB.cell (i:=2) rfl
 have d3:=hB.cell (i:=3) rfl
 have d4:=hB.cell (i:=4) rfl
 clear hB
 have F0:=Zak (hf.below hbA) (j:=0) (by simp)
 have hz0:fa.size≤20000:=hz _ (by simp)
 have hA:=h.below hbA
 obtain⟨X,hX⟩:∃X,shR fa=X:=⟨_,rfl⟩
 have hcmd:cmd m 5 [fa]=m.say (X.map fun r=>rgT r.1 r.2.1 r.2.2):=by rw[←hX];rfl
 have HX:=Lib.hid hX
 obtain⟨s,t,x,hr⟩:∃s t x,X.getD (0,0,0)=(s,t,x):=⟨_,_,_,rfl⟩
 have HT:=Lib.hid (show(if X.isSome=true then rgT s t x++nlT else noT++nlT)=Zco (cmd m 5 [fa])by
  rw[hcmd]
  have:=Zjs m X (fun r=>rgT r.1 r.2.1 r.2.2) (0,0,0)
  rw[hr]at this
  exact this)
 have HR:=Lib.hid hr
 have hdz:(rgT s t x).size≤1099511627776:=by have:=Znx (s,t,x);simp only[]at this;omega
 clear hcmd hX h hf hz d0 d1 d2 d3 d4 hr
 unfold stV
 go_enter Tryz.func151,Tryz.ntmps151
 go_wp2_with fail
 generalize (w.alloc (.cells #[.int .i64 m.s,.int .i64 m.t,.int .i64 m.x,.slice ao n c,.slice bo k d] 97))=w1 at*
 refine(Zlf _ _ (by omega)).mono ?_;intro e w3 hr;rw[HX.out]at hr;obtain⟨rfl,hb3⟩:=hr
 rw[HR.out]
 dsimp only[]
 have hb13:=(hbA.trans (hb3.mono hbA.size)).alloc (hbA.trans (hb3.mono hbA.size)).size (.cells #[.int .i64 s,.int .i64 t,.int .i64 x] 46)
 have hB3:=Box.new w3 #[.int .i64 s,.int .i64 t,.int .i64 x] 46
 have k0:=hB3.cell (i:=0) rfl
 have k1:=hB3.cell (i:=1) rfl
 have k2:=hB3.cell (i:=2) rfl
 clear hA F0 hb3 hbA hB3
 go_wp2_with fail
 refine(Zc7 _ _ _ _).mono ?_;rintro e w4 ⟨rfl,hb4⟩
 have hb14:=hb13.trans (hb4.mono hb13.size)
 go_wp2_with fail
 refine(Zc4 _ _ _ hdz).mono ?_;rintro e w5 ⟨rfl,rfl⟩
 rw[HT.out]
 go_wp2_with fail
 go_ret
 exact⟨rfl,hb14⟩
theorem Zsd {w:World} {ao:Option Addr} {n c:Nat} {bo:Option Addr} {k d g cf:Nat} {m:Mch} {fa:ByteArray} (h:StW w ao n c bo k d m) (hf:RdT w (some ⟨g,0,none⟩) 1 [fa]) (hz:∀p∈[fa],p.size≤20000):
 Calls Tryz.prog 151 #[stV m ao n c bo k d,.string (⟨#[109,97,120,105,109,97,108]⟩:ByteArray),.slice (some ⟨g,0,none⟩) 1 cf] w fun e w'=>e= .returned (.string (Zco (cmd m 6 [fa])))∧Below w.heap.size w w':=by
 have hbA:Below w.heap.size w (w.alloc (.cells #[.int .i64 m.s,.int .i64 m.t,.int .i64 m.x,.slice ao n c,.slice bo k d] 97)):=(Below.refl _ _).alloc (Nat.le_refl _) _
 have hB:=Box.new w #[.int .i64 m.s,.int .i64 m.t,.int .i64 m.x,.slice ao n c,.slice bo k d] 97
 have d0:=hB.cell (i:=0) rfl
 have d1:=hB.cell (i:=1) rfl
 have d2:=hB.cell (i:=2) rfl
 have d3:=hB.cell (i:=3) rfl
 have d4:=hB.cell (i:=4) rfl
 clear hB
 have F0:=Zak (hf.below hbA) (j:=0) (by simp)
 have hz0:fa.size≤20000:=hz _ (by simp)
 have hA:=h.below hbA
 obtain⟨L,hL⟩:∃L,mxtR ((numT fa).getD badN)=L:=⟨_,rfl⟩
 have hcmd:cmd m 6 [fa]=if L=[]then none else some (m,nmsT L):=by
  rw[←hL]
  exact Zgi (F:=fun n=>if mxtR n=[]then none else some (m,nmsT (mxtR n))) (if_pos Zaka) _
 have hlen:L.length≤300:=by rw[←hL];exact(Z4l _).1
 have hi63:∀y∈L,I63 y:=by rw[←hL];exact Zakf _
 have HI:=Lib.hid hi63
 have HX:=Lib.hid hL
 have hdz:(nmsT L).size≤1099511627776:=by have:=Zhn (l:=L) (n:=300) hlen (fun y hy=>⟨by have:=(hi63 y hy).1;omega,(hi63 y hy).2⟩);omega
 have HT:=Lib.hid (show(if decide (0<L.length)=true then nmsT L++nlT else noT++nlT)=Zco (cmd m 6 [fa])by
  rw[hcmd]
  cases L with
  |nil=>rfl
  |cons x r=>rw[if_pos (by simp),if_neg (by simp)];rfl)
 clear hcmd hL h hf hz d0 d1 d2 d3 d4 hi63
 unfold stV
 go_enter Tryz.func151,Tryz.ntmps151
 go_wp2_with fail
 generalize (w.alloc (.cells #[.int .i64 m.s,.int .i64 m.t,.int .i64 m.x,.slice ao n c,.slice bo k d] 97))=w1 at*
 refine(Zch _ _ (by omega)).mono ?_;rintro e w2 ⟨rfl,rfl⟩
 go_wp2_with fail
 refine(Zk4 _ _).mono ?_;intro e w3 hr;rw[HX.out]at hr;obtain⟨ao3,n3,c3,rfl,ho3,hb3⟩:=hr
 have hb13:=hbA.trans (hb3.mono hbA.size)
 have hR3:=ho3.rd
 have hn3:n3=L.length:=ho3.1
 have hnb:n3≤1000000:=by omega
 have HN:=Lib.hid hn3
 clear hA F0 ho3 hb3 hbA hn3 hlen
 by_cases h0:0<n3
 ·have HT2:=Lib.hid (show nmsT L++nlT=Zco (cmd m 6 [fa])by have:=HT.out;rw[if_pos (by rw[decide_eq_true_eq,←HN.out];exact h0)]at this;exact this)
  have h0i:(0:Int)<(n3:Int):=by omega
  go_wp2_with fail
  refine(Zfe hR3 HI.out hnb).mono ?_;rintro e w4 ⟨rfl,hb4⟩
  have hb14:=hb13.trans (hb4.mono hb13.size)
  go_wp2_with fail
  refine(Zc4 true _ _ hdz).mono ?_;rintro e w5 ⟨rfl,rfl⟩
  rw[if_pos rfl,HT2.out]
  go_wp2_with fail
  go_ret
  exact⟨rfl,hb14⟩
 ·have HT2:=Lib.hid (show noT++nlT=Zco (cmd m 6 [fa])by have:=HT.out;rw[if_neg (by rw[decide_eq_true_eq,←HN.out];exact h0)]at this;exact this)
  have h0i:¬(0:Int)<(n3:Int):=by omega
  go_wp2_with fail
  refine(Zfe hR3 HI.out hnb).mono ?_;rintro e w4 ⟨rfl,hb4⟩
  have hb14:=hb13.trans (hb4.mono hb13.size)
  go_wp2_with fail
  refine(Zc4 false _ _ hdz).mono ?_;rintro e w5 ⟨rfl,rfl⟩
  rw[if_neg (by decide),HT2.out]
  go_wp2_with fail
  go_ret
  exact⟨rfl,hb14⟩
theorem Z1h {w:World} {ao:Option Addr} {n c:Nat} {bo:Option Addr} {k d g cf:Nat} {m:Mch} {fa fb:ByteArray} (h:StW w ao n c bo k d m) (hf:RdT w (some ⟨g,0,none⟩) 2 [fa,fb]) (hz:∀p∈[fa,fb],p.size≤20000):
 Calls Tryz.prog 151 #[stV m ao n c bo k d,.string (⟨#[112,101,97,107]⟩:ByteArray),.slice (some ⟨g,0,none⟩) 2 cf] w fun e w'=>e= .returned (.string (Zco (cmd m 8 [fa,fb])))∧Below w.heap.size w w':=by
 have hbA:Below w.heap.size w (w.alloc (.cells #[.int .i64 m.s,.int .i64 m.t,.int .i64 m.x,.slice ao n c,.slice bo k d] 97)):=(Below.refl _ _).alloc (Nat.le_refl _) _
 have hB:=Box.new w #[.int .i64 m.s,.int .i64 m.t,.int .i64 m.x,.slice ao n c,.slice bo k d] 97
 have d0:=hB.cell (i:=0) rfl
 have d1:=hB.cell (i:=1) rfl
 have d2:=hB.cell (i:=2) rfl
 have d3:=hB.cell (i:=3) rfl
 have d4:=hB.cell (i:=4) rfl
 clear hB
 have F0:=Zak (hf.below hbA) (j:=0) (by simp)
 have hz0:fa.size≤20000:=hz _ (by simp)
 have F1:=Zak (hf.below hbA) (j:=1) (by simp)
 have hz1:fb.size≤20000:=hz _ (by simp)
 have hA:=h.below hbA
 obtain⟨V,hV⟩:∃V,Zhz fa fb=V:=⟨_,rfl⟩
 have hcmd:cmd m 8 [fa,fb]=if V<0 then none else some (m,decT V):=by rw[←hV];rfl
 have hi:I63 V:=by
  rw[←hV]
  have h1:=Zqc (crsL fa fb) (crsL fa fb).length
  have h2:=Z3w fa fb
  unfold Zhz I63
  omega
 have hdz:(decT V).size≤1099511627776:=by have:=Zcl (n:=V) (by have:=hi.1;omega) hi.2;omega
 have HX:=Lib.hid hV
 have HI:=Lib.hid hi
 have HT:=Lib.hid (show(if decide (0≤V)=true then decT V++nlT else noT++nlT)=Zco (cmd m 8 [fa,fb])by
  rw[hcmd]
  by_cases hv:V<0
  ·rw[if_pos hv,if_neg (by rw[decide_eq_true_eq];omega)];rfl
  ·rw[if_neg hv,if_pos (by rw[decide_eq_true_eq];omega)];rfl)
 clear hcmd hV h hf hz d0 d1 d2 d3 d4 hi
 unfold stV
 go_enter Tryz.func151,Tryz.ntmps151
 go_wp2_with fail
 generalize (w.alloc (.cells #[.int .i64 m.s,.int .i64 m.t,.int .i64 m.x,.slice ao n c,.slice bo k d] 97))=w1 at*
 refine Zau 100 (fun _ w'=>Below w1.heap.size w1 w') (by kernel_rfl) (by kernel_rfl) (Below.refl _ _).drew ?_
 refine sk (.slice (some ⟨g,0,none⟩) 2 cf) ?_
 refine sv (.pointer (some ⟨g,0,none⟩)) (fun b w1 hs=>?_) ?_
 ·go_simp
 refine sv (.string fa) (fun b w1 hs=>?_) ?_
 ·have kf:=(hs.cell (Zaa F0)).trans F0
  go_simp
 refine sk (.slice (some ⟨g,0,none⟩) 2 cf) ?_
 refine sv (.pointer (some ⟨g,1,none⟩)) (fun b w1 hs=>?_) ?_
 ·go_simp
 refine sv (.string fb) (fun b w1 hs=>?_) ?_
 ·have kf:=(hs.cell (Zaa F1)).trans F1
  go_simp
 refine sc (.int .i64 V) 224 (#[.string fa,.string fb]) (fun b w1 hs=>?_) ?_
 ·exact((Z8g _ _ _ (by omega) (by omega)).mono fun e w2 hr=>by rw[HX.out]at hr;exact⟨hr.1,hs.trans (hr.2.mono hs.size)⟩)
 refine sk (.int .i64 V) ?_
 refine Zbo fun w2 hs=>?_
 have hb2:=hbA.trans (hs.mono hbA.size)
 clear hs hA F0 F1 hbA
 by_cases hv:0≤V
 ·have HT2:=Lib.hid (show decT V++nlT=Zco (cmd m 8 [fa,fb])by have:=HT.out;rw[if_pos (by rw[decide_eq_true_eq];exact hv)]at this;exact this)
  go_wp2_with fail
  refine(Zhl V _ HI.out.1 HI.out.2).mono ?_;rintro e w3 ⟨rfl,hb3⟩
  have hb13:=hb2.trans (hb3.mono hb2.size)
  go_wp2_with fail
  refine(Zc4 true _ _ hdz).mono ?_;rintro e w5 ⟨rfl,rfl⟩
  rw[if_pos rfl,HT2.out]
  go_wp2_with fail
  go_ret
  exact⟨rfl,hb13⟩
 ·have HT2:=Lib.hid (show noT++nlT=Zco (cmd m 8 [fa,fb])by have:=HT.out;rw[if_neg (by rw[decide_eq_true_eq];exact hv)]at this;exact this)
  go_wp2_with fail
  refine(Zhl V _ HI.out.1 HI.out.2).mono ?_;rintro e w3 ⟨rfl,hb3⟩
  have hb13:=hb2.trans (hb3.mono hb2.size)
  go_wp2_with fail
  refine(Zc4 false _ _ hdz).mono ?_;rintro e w5 ⟨rfl,rfl⟩
  rw[if_neg (by decide),HT2.out]
  go_wp2_with fail
  go_ret
  exact⟨rfl,hb13⟩
theorem Zw2 {w:World} {ao:Option Addr} {n c:Nat} {bo:Option Addr} {k d g cf:Nat} {m:Mch} {fa fb fc:ByteArray} (h:StW w ao n c bo k d m) (hf:RdT w (some ⟨g,0,none⟩) 3 [fa,fb,fc]) (hz:∀p∈[fa,fb,fc],p.size≤20000):
 Calls Tryz.prog 151 #[stV m ao n c bo k d,.string (⟨#[99,114,111,115,115]⟩:ByteArray),.slice (some ⟨g,0,none⟩) 3 cf] w fun e w'=>e= .returned (.string (Zco (cmd m 7 [fa,fb,fc])))∧Below w.heap.size w w':=by
 have hbA:Below w.heap.size w (w.alloc (.cells #[.int .i64 m.s,.int .i64 m.t,.int .i64 m.x,.slice ao n c,.slice bo k d] 97)):=(Below.refl _ _).alloc (Nat.le_refl _) _
 have hB:=Box.new w #[.int .i64 m.s,.int .i64 m.t,.int .i64 m.x,.slice ao n c,.slice bo k d] 97
 have d0:=hB.cell (i:=0) rfl
 have d1:=hB.cell (i:=1) rfl
 have d2:=hB.cell (i:=2) rfl
 have d3:=hB.cell (i:=3) rfl
 have d4:=hB.cell (i:=4) rfl
 clear hB
 have F0:=Zak (hf.below hbA) (j:=0) (by simp)
 have hz0:fa.size≤20000:=hz _ (by simp)
 have F1:=Zak (hf.below hbA) (j:=1) (by simp)
 have hz1:fb.size≤20000:=hz _ (by simp)
 have F2:=Zak (hf.below hbA) (j:=2) (by simp)
 have hz2:fc.size≤20000:=hz _ (by simp)
 have hA:=h.below hbA
 obtain⟨X,hX⟩:∃X,crsR fa fb ((numT fc).getD badN)=X:=⟨_,rfl⟩
 obtain⟨N,hN⟩:∃N,(numT fc).getD badN=N:=⟨_,rfl⟩
 have hi:I63 (X.getD 0):=by
  cases X with
  |none=>exact⟨by decide,by decide⟩
  |some v=>exact Zajm hX
 have hdz:(decT (X.getD 0)).size≤1099511627776:=by have:=Zcl (n:=X.getD 0) (by have:=hi.1;omega) hi.2;omega
 have hT:(if(X.isSome&&decide (badN<N))=true then decT (X.getD 0)++nlT else noT++nlT)=Zco (cmd m 7 [fa,fb,fc]):=by
  show _=Zco ((numT fc).bind fun n=>m.say ((crsR fa fb n).map decT))
  cases hn:numT fc with
  |none=>
   rw[hn]at hN
   have:N=badN:=hN.symm
   rw[this,decide_eq_false (Int.lt_irrefl badN),Bool.and_false];rfl
  |some v=>
   rw[hn]at hN hX
   have e:N=v:=hN.symm
   have h2:=num_gt hn
   rw[e,decide_eq_true h2,Bool.and_true]
   show _=Zco (m.say ((crsR fa fb v).map decT))
   rw[show crsR fa fb v=X from hX]
   exact Zjs m X decT _
 rw[hN]at hX
 have HN:=Lib.hid hN
 have HX:=Lib.hid hX
 have HI:=Lib.hid hi
 have HT:=Lib.hid hT
 clear hT hX h hf hz d0 d1 d2 d3 d4 hi hN
 unfold stV
 go_enter Tryz.func151,Tryz.ntmps151
 go_wp2_with fail
 generalize (w.alloc (.cells #[.int .i64 m.s,.int .i64 m.t,.int .i64 m.x,.slice ao n c,.slice bo k d] 97))=w1 at*
 refine Zau 100 (fun _ w'=>Below w1.heap.size w1 w') (by kernel_rfl) (by kernel_rfl) (Below.refl _ _).drew ?_
 refine sk (.slice (some ⟨g,0,none⟩) 3 cf) ?_
 refine sv (.pointer (some ⟨g,0,none⟩)) (fun b w1 hs=>?_) ?_
 ·go_simp
 refine sv (.string fa) (fun b w1 hs=>?_) ?_
 ·have kf:=(hs.cell (Zaa F0)).trans F0
  go_simp
 refine sk (.slice (some ⟨g,0,none⟩) 3 cf) ?_
 refine sv (.pointer (some ⟨g,1,none⟩)) (fun b w1 hs=>?_) ?_
 ·go_simp
 refine sv (.string fb) (fun b w1 hs=>?_) ?_
 ·have kf:=(hs.cell (Zaa F1)).trans F1
  go_simp
 refine sk (.slice (some ⟨g,0,none⟩) 3 cf) ?_
 refine sv (.pointer (some ⟨g,2,none⟩)) (fun b w1 hs=>?_) ?_
 ·go_simp
 refine sv (.string fc) (fun b w1 hs=>?_) ?_
 ·have kf:=(hs.cell (Zaa F2)).trans F2
  go_simp
 refine sc (.int .i64 N) 220 (#[.string fc]) (fun b w1 hs=>?_) ?_
 ·exact(Zch fc _ (by omega)).mono fun e w2 hr=>⟨by rw[←HN.out];exact hr.1,by rw[hr.2];exact hs⟩
 refine sc (.tuple #[.int .i64 (X.getD 0),.bool X.isSome]) 223 (#[.string fa,.string fb,.int .i64 N]) (fun b w1 hs=>?_) ?_
 ·exact((Z6k _ _ _ _ (by omega) (by omega)).mono fun e w2 hr=>by rw[HX.out]at hr;exact⟨hr.1,hs.trans (hr.2.mono hs.size)⟩)
 refine sk (.tuple #[.int .i64 (X.getD 0),.bool X.isSome]) ?_
 refine sk (.int .i64 (X.getD 0)) ?_
 refine sk (.bool X.isSome) ?_
 refine sk (.int .i64 (X.getD 0)) ?_
 refine sk (.bool X.isSome) ?_
 refine Zbo fun w2 hs=>?_
 have hb2:=hbA.trans (hs.mono hbA.size)
 have G2:=(hs.cell (Zaa F2)).trans F2
 clear hs hA F0 F1 F2 hbA
 generalize X.getD 0=V at*
 cases hs:X.isSome
 ·rw[hs]at HT
  have HT2:=Lib.hid (show noT++nlT=Zco (cmd m 7 [fa,fb,fc])from HT.out)
  clear HT HX
  go_wp2_with fail
  refine(Zhl V _ HI.out.1 HI.out.2).mono ?_;rintro e w3 ⟨rfl,hb3⟩
  have hb13:=hb2.trans (hb3.mono hb2.size)
  go_wp2_with fail
  refine(Zc4 false _ _ hdz).mono ?_;rintro e w5 ⟨rfl,rfl⟩
  rw[if_neg (by decide),HT2.out]
  go_wp2_with fail
  go_ret
  exact⟨rfl,hb13⟩
 ·rw[hs,Bool.true_and]at HT
  clear HX
  by_cases hv:badN<N
  ·have HT2:=Lib.hid (show decT V++nlT=Zco (cmd m 7 [fa,fb,fc])by have:=HT.out;rw[if_pos (by rw[decide_eq_true_eq];exact hv)]at this;exact this)
   have hv2:(-9223372036854775807:Int)<N:=hv
   clear HT
   go_wp2_with fail
   refine(Zch _ _ (by omega)).mono ?_;rintro e w3 ⟨rfl,rfl⟩
   rw[HN.out]
   go_wp2_with fail
   refine(Zhl V _ HI.out.1 HI.out.2).mono ?_;rintro e w3 ⟨rfl,hb3⟩
   have hb13:=hb2.trans (hb3.mono hb2.size)
   go_wp2_with fail
   refine(Zc4 true _ _ hdz).mono ?_;rintro e w5 ⟨rfl,rfl⟩
   rw[if_pos rfl,HT2.out]
   go_wp2_with fail
   go_ret
   exact⟨rfl,hb13⟩
  ·have HT2:=Lib.hid (show noT++nlT=Zco (cmd m 7 [fa,fb,fc])by have:=HT.out;rw[if_neg (by rw[decide_eq_true_eq];exact hv)]at this;exact this)
   have hv2:decide ((-9223372036854775807:Int)<N)=false:=decide_eq_false hv
   clear HT
   go_wp2_with fail
   refine(Zch _ _ (by omega)).mono ?_;rintro e w3 ⟨rfl,rfl⟩
   rw[HN.out]
   go_wp2_with fail
   refine(Zhl V _ HI.out.1 HI.out.2).mono ?_;rintro e w3 ⟨rfl,hb3⟩
   have hb13:=hb2.trans (hb3.mono hb2.size)
   go_wp2_with fail
   refine(Zc4 false _ _ hdz).mono ?_;rintro e w5 ⟨rfl,rfl⟩
   rw[if_neg (by decide),HT2.out]
   go_wp2_with fail
   go_ret
   exact⟨rfl,hb13⟩
theorem Z0x {w:World} {ao:Option Addr} {n c:Nat} {bo:Option Addr} {k d g cf:Nat} {m:Mch} {fa:ByteArray} (h:StW w ao n c bo k d m) (hf:RdT w (some ⟨g,0,none⟩) 1 [fa]) (hz:∀p∈[fa],p.size≤20000):
 Calls Tryz.prog 152 #[stV m ao n c bo k d,.string (⟨#[102,114,97,109,101]⟩:ByteArray),.slice (some ⟨g,0,none⟩) 1 cf] w fun e w'=>e= .returned (.string (Zco (cmd m 17 [fa])))∧Below w.heap.size w w':=by
 have hbA:Below w.heap.size w (w.alloc (.cells #[.int .i64 m.s,.int .i64 m.t,.int .i64 m.x,.slice ao n c,.slice bo k d] 97)):=(Below.refl _ _).alloc (Nat.le_refl _) _
 have hB:=Box.new w #[.int .i64 m.s,.int .i64 m.t,.int .i64 m.x,.slice ao n c,.slice bo k d] 97
 have d0:=hB.cell (i:=0) rfl
 have d1:=hB.cell (i:=1) rfl
 have d2:=hB.cell (i:=2) rfl
 have d3:=hB.cell (i:=3) rfl
 have d4:=hB.cell (i:=4) rfl
 clear hB
 have F0:=Zak (hf.below hbA) (j:=0) (by simp)
 have hz0:fa.size≤20000:=hz _ (by simp)
 have hA:=h.below hbA
 obtain⟨X,hX⟩:∃X,Zhy (Zar fa)=X:=⟨_,rfl⟩
 have hcmd:cmd m 17 [fa]=m.say X:=by rw[←hX];rfl
 have hxz:(X.getD ByteArray.empty).size≤600:=by
  cases X with
  |none=>exact Nat.zero_le _
  |some r=>exact Zahf hX
 have HX:=Lib.hid hX
 have HT:=Lib.hid (show(if X.isSome=true then X.getD ByteArray.empty++nlT else noT++nlT)=Zco (cmd m 17 [fa])by rw[hcmd];exact Zml m X _)
 have hdz:(X.getD ByteArray.empty).size≤1099511627776:=by omega
 have hnz:(Zar fa).size≤1099511627776:=by have:=Znn fa;omega
 clear hcmd hX hxz h hf hz d0 d1 d2 d3 d4
 unfold stV
 go_enter Tryz.func152,Tryz.ntmps152
 go_wp2_with fail
 generalize (w.alloc (.cells #[.int .i64 m.s,.int .i64 m.t,.int .i64 m.x,.slice ao n c,.slice bo k d] 97))=w1 at*
 refine(Zkk _ _).mono ?_;rintro e w2 ⟨rfl,rfl⟩
 go_wp2_with fail
 refine(Zh1 _ _ hnz).mono ?_;intro e w3 hr;rw[HX.out]at hr;obtain⟨rfl,hb3⟩:=hr
 have hb13:=hbA.trans (hb3.mono hbA.size)
 clear hA F0
 go_wp2_with fail
 refine(Zc4 _ _ _ hdz).mono ?_;rintro e w5 ⟨rfl,rfl⟩
 rw[HT.out]
 go_wp2_with fail
 go_ret
 exact⟨rfl,hb13⟩
theorem Zsc {w:World} {ao:Option Addr} {n c:Nat} {bo:Option Addr} {k d g cf:Nat} {m:Mch} {fa fb:ByteArray} (h:StW w ao n c bo k d m) (hf:RdT w (some ⟨g,0,none⟩) 2 [fa,fb]) (hz:∀p∈[fa,fb],p.size≤20000):
 Calls Tryz.prog 153 #[stV m ao n c bo k d,.string (⟨#[115,112,114,101,97,100]⟩:ByteArray),.slice (some ⟨g,0,none⟩) 2 cf] w (Zfz w ao n bo k ((cmd m 12 [fa,fb]).getD (m,noT))):=by
 have hT:=Two.start (w:=w) (v0:=.int .i64 m.s) (v1:=.int .i64 m.t) (v2:=.int .i64 m.x) (v3:=.slice ao n c) (v4:=.slice bo k d) (u0:=.int .i64 0) (u1:=.int .i64 0) (u2:=.int .i64 0) (u3:=.slice none 0 0) (u4:=.slice none 0 0)
 have hbA:=hT.bl
 obtain⟨d0,d1,d2,d3,d4⟩:=hT.cells
 have F0:=Zak (hf.below hbA) (j:=0) (by simp)
 have hz0:fa.size≤20000:=hz _ (by simp)
 have F1:=Zak (hf.below hbA) (j:=1) (by simp)
 have hz1:fb.size≤20000:=hz _ (by simp)
 have hA:=h.below hbA
 have hcmd:cmd m 12 [fa,fb]=m.toS (sprR (Zar fa) fb):=rfl
 have HZ:=Lib.hid (Ziz h.ok.2.1)
 obtain⟨X,hX⟩:∃X,sprR (Zar fa) fb=X:=⟨_,rfl⟩
 have HG:=Lib.hid (show ∀l,X=some l→sigB l=true from fun l e=>Zno (hX.trans e))
 have HX:=Lib.hid hX
 rw[hcmd,hX]
 clear hcmd hf hz hX
 unfold stV
 go_enter Tryz.func153,Tryz.ntmps153
 go_wp2_with fail
 generalize ((w.alloc (.cells #[.int .i64 m.s,.int .i64 m.t,.int .i64 m.x,.slice ao n c,.slice bo k d] 97)).alloc (.cells #[.int .i64 0,.int .i64 0,.int .i64 0,.slice none 0 0,.slice none 0 0] 97))=w1 at*
 refine Zcn (by kernel_rfl) ?_
 refine Zdb 0 7 100 (fun _ w'=>Below w1.heap.size w1 w') (by kernel_rfl) rfl (Below.refl _ _).drew ?_
 simp only[List.take_succ_cons,List.take_zero,List.drop_zero]
 refine sk (.slice (some ⟨g,0,none⟩) 2 cf) ?_
 refine sv (.pointer (some ⟨g,0,none⟩)) (fun b w1 hs=>?_) ?_
 ·go_simp
 refine sv (.string fa) (fun b w1 hs=>?_) ?_
 ·have kf:=(hs.cell (Zaa F0)).trans F0
  go_simp
 refine sc (.string (Zar fa)) 217 (#[.string fa]) (fun b w1 hs=>?_) ?_
 ·exact(Zkk fa _).mono fun e w2 hr=>⟨hr.1,by rw[←hr.2];exact hs⟩
 refine sk (.slice (some ⟨g,0,none⟩) 2 cf) ?_
 refine sv (.pointer (some ⟨g,1,none⟩)) (fun b w1 hs=>?_) ?_
 ·go_simp
 refine sv (.string fb) (fun b w1 hs=>?_) ?_
 ·have kf:=(hs.cell (Zaa F1)).trans F1
  go_simp
 refine Zbo fun w2 hs=>?_
 have hT2:=hT.below hs
 refine Zd3 7 _ 39 #[.string (Zar fa),.string fb] (by kernel_rfl) rfl rfl (by kernel_rfl) (by kernel_rfl) ?_
 refine(Zvf _ _ _ (by have:=Znn fa;omega) (by omega)).mono ?_;intro e w3 hr;rw[HX.out]at hr;obtain⟨ao3,n3,c3,rfl,ho3,hb3⟩:=hr
 refine⟨_,rfl,?_⟩
 refine Zdp 8 100 (fun _ w'=>w'=w3) (by kernel_rfl) rfl rfl rfl ?_
 simp only[List.drop_succ_cons,List.drop_zero]
 refine sk (.tuple #[.slice ao3 n3 c3,.bool X.isSome]) ?_
 refine sk (.slice ao3 n3 c3) ?_
 refine sk (.bool X.isSome) ?_
 refine sk (.slice ao3 n3 c3) ?_
 refine sk (.bool X.isSome) ?_
 refine Zbo ?_
 rintro w' rfl
 have hT3:=hT2.below hb3
 have hA3:=h.below hT3.bl
 have hlo:=Z86 ho3
 have hR3:=ho3.rd
 have hg2:w.heap.size+1<w2.heap.size:=by obtain⟨cs,hcs,_,_⟩:=hT2.b1;exact hcs.lt
 obtain⟨q0,q1,q2,q3,q4⟩:=hT3.cells
 clear hs hA ho3 hb3 hT hT2 hbA d0 d1 d2 d3 d4 HZ F0 F1
 go_wp2_with fail
 refine(Zvo (r:=X) hA3 hR3 HG.out).mono ?_;rintro e w4 ⟨ao4,n4,c4,bo4,k4,d4,rfl,hS4,hb4,ha4,hb5⟩
 have ha5:(ao4=ao∧n4=n)∨∀a,ao4=some a→w2.heap.size≤a.block:=.inl ha4
 have hb6:(bo4=bo∧k4=k)∨∀a,bo4=some a→w2.heap.size≤a.block:=hb5.imp_right fun e=>by rw[e];exact hlo
 have hp:=sepS ha5 h.cl (Nat.le_succ _) hg2
 have hq:=sepI hb6 h.sg (Nat.le_succ _) hg2
 have hT4:=hT3.below hb4
 obtain⟨u0,u1,u2,u3,u4,hu⟩:=hT4.frees
 generalize (m.toS X).getD (m,noT)=RR at*
 have hbl:=Zcs hT4.bl (Nat.le_succ w.heap.size) (.int .i64 RR.1.s) (.int .i64 RR.1.t) (.int .i64 RR.1.x) (.slice ao4 n4 c4) (.slice bo4 k4 d4)
 obtain⟨o0,o1,o2,o3,o4⟩:=out5 hu (.int .i64 RR.1.s) (.int .i64 RR.1.t) (.int .i64 RR.1.x) (.slice ao4 n4 c4) (.slice bo4 k4 d4)
 have hS5:=hS4.far (Ze8 w4 (w.heap.size+1) (.int .i64 RR.1.s) (.int .i64 RR.1.t) (.int .i64 RR.1.x) (.slice ao4 n4 c4) (.slice bo4 k4 d4)) hp hq
 obtain⟨f0,f1,f2,f3,f4,e0,e1,e2,e3,e4⟩:=fe5 hu
 unfold put5 at hbl o0 o1 o2 o3 o4 hS5
 have hw2:w.heap.size≤w2.heap.size:=by omega
 clear hT3 hT4 hb4 hR3 hA3 hS4 ha4 hb5 hp hq hlo
 unfold stV
 go_wp2_with fail
 refine bodyPost_ret (v:=.tuple #[.agg #[.int .i64 RR.1.s,.int .i64 RR.1.t,.int .i64 RR.1.x,.slice ao4 n4 c4,.slice bo4 k4 d4],.string (RR.2++nlT)]) (by simp[results,Tryz.results153,go_sem,o0,o1,o2,o3,o4]) rfl ?_
 exact⟨ao4,n4,c4,bo4,k4,d4,rfl,hS5,hbl,ha5.imp_right fun f a e=>Nat.le_trans hw2 (f a e),hb6.imp_right fun f a e=>Nat.le_trans hw2 (f a e)⟩
theorem Zy0 {w:World} {ao:Option Addr} {n c:Nat} {bo:Option Addr} {k d g cf:Nat} {m:Mch} {fa:ByteArray} (h:StW w ao n c bo k d m) (hf:RdT w (some ⟨g,0,none⟩) 1 [fa]) (hz:∀p∈[fa],p.size≤20000):
 Calls Tryz.prog 153 #[stV m ao n c bo k d,.string (⟨#[103,97,105,110]⟩:ByteArray),.slice (some ⟨g,0,none⟩) 1 cf] w (Zfz w ao n bo k ((cmd m 13 [fa]).getD (m,noT))):=by
 have hT:=Two.start (w:=w) (v0:=.int .i64 m.s) (v1:=.int .i64 m.t) (v2:=.int .i64 m.x) (v3:=.slice ao n c) (v4:=.slice bo k d) (u0:=.int .i64 0) (u1:=.int .i64 0) (u2:=.int .i64 0) (u3:=.slice none 0 0) (u4:=.slice none 0 0)
 have hbA:=hT.bl
 obtain⟨d0,d1,d2,d3,d4⟩:=hT.cells
 have F0:=Zak (hf.below hbA) (j:=0) (by simp)
 have hz0:fa.size≤20000:=hz _ (by simp)
 have hA:=h.below hbA
 have hcmd:cmd m 13 [fa]=m.toS (sclR m.S ((numT fa).getD badN)):=Zgi (F:=fun x=>m.toS (sclR m.S x)) (congrArg m.toS (Zai5 _)) _
 have HZ:=Lib.hid (Ziz h.ok.2.1)
 obtain⟨X,hX⟩:∃X,sclR m.S ((numT fa).getD badN)=X:=⟨_,rfl⟩
 have HG:=Lib.hid (show ∀l,X=some l→sigB l=true from fun l e=>Z1k (hX.trans e))
 have HX:=Lib.hid hX
 rw[hcmd,hX]
 clear hcmd hf hz hX
 unfold stV
 go_enter Tryz.func153,Tryz.ntmps153
 go_wp2_with fail
 generalize ((w.alloc (.cells #[.int .i64 m.s,.int .i64 m.t,.int .i64 m.x,.slice ao n c,.slice bo k d] 97)).alloc (.cells #[.int .i64 0,.int .i64 0,.int .i64 0,.slice none 0 0,.slice none 0 0] 97))=w1 at*
 refine Zcn (by kernel_rfl) ?_
 refine Zdb 0 6 100 (fun _ w'=>Below w1.heap.size w1 w') (by kernel_rfl) rfl (Below.refl _ _).drew ?_
 simp only[List.take_succ_cons,List.take_zero,List.drop_zero]
 refine sk (.pointer (some ⟨w.heap.size,4,none⟩)) ?_
 refine sv (.slice bo k d) (fun b w1 hs=>?_) ?_
 ·have k4:=(hs.cell (Zaa d4)).trans d4
  go_simp
 refine sk (.slice (some ⟨g,0,none⟩) 1 cf) ?_
 refine sv (.pointer (some ⟨g,0,none⟩)) (fun b w1 hs=>?_) ?_
 ·go_simp
 refine sv (.string fa) (fun b w1 hs=>?_) ?_
 ·have kf:=(hs.cell (Zaa F0)).trans F0
  go_simp
 refine sc (.int .i64 ((numT fa).getD badN)) 220 (#[.string fa]) (fun b w1 hs=>?_) ?_
 ·exact(Zch fa _ (by have:=hz0;omega)).mono fun e w2 hr=>⟨hr.1,by rw[hr.2];exact hs⟩
 refine Zbo fun w2 hs=>?_
 have hT2:=hT.below hs
 refine Zd3 6 _ 234 #[.slice bo k d,.int .i64 ((numT fa).getD badN)] (by kernel_rfl) rfl rfl (by kernel_rfl) (by kernel_rfl) ?_
 refine(Zsf _ (hA.sg.below hs)).mono ?_;intro e w3 hr;rw[HX.out]at hr;obtain⟨ao3,n3,c3,rfl,ho3,hb3⟩:=hr
 refine⟨_,rfl,?_⟩
 refine Zdp 7 100 (fun _ w'=>w'=w3) (by kernel_rfl) rfl rfl rfl ?_
 simp only[List.drop_succ_cons,List.drop_zero]
 refine sk (.tuple #[.slice ao3 n3 c3,.bool X.isSome]) ?_
 refine sk (.slice ao3 n3 c3) ?_
 refine sk (.bool X.isSome) ?_
 refine sk (.slice ao3 n3 c3) ?_
 refine sk (.bool X.isSome) ?_
 refine Zbo ?_
 rintro w' rfl
 have hT3:=hT2.below hb3
 have hA3:=h.below hT3.bl
 have hlo:=Z86 ho3
 have hR3:=ho3.rd
 have hg2:w.heap.size+1<w2.heap.size:=by obtain⟨cs,hcs,_,_⟩:=hT2.b1;exact hcs.lt
 obtain⟨q0,q1,q2,q3,q4⟩:=hT3.cells
 clear hs hA ho3 hb3 hT hT2 hbA d0 d1 d2 d3 d4 HZ F0
 go_wp2_with fail
 refine(Zvo (r:=X) hA3 hR3 HG.out).mono ?_;rintro e w4 ⟨ao4,n4,c4,bo4,k4,d4,rfl,hS4,hb4,ha4,hb5⟩
 have ha5:(ao4=ao∧n4=n)∨∀a,ao4=some a→w2.heap.size≤a.block:=.inl ha4
 have hb6:(bo4=bo∧k4=k)∨∀a,bo4=some a→w2.heap.size≤a.block:=hb5.imp_right fun e=>by rw[e];exact hlo
 have hp:=sepS ha5 h.cl (Nat.le_succ _) hg2
 have hq:=sepI hb6 h.sg (Nat.le_succ _) hg2
 have hT4:=hT3.below hb4
 obtain⟨u0,u1,u2,u3,u4,hu⟩:=hT4.frees
 generalize (m.toS X).getD (m,noT)=RR at*
 have hbl:=Zcs hT4.bl (Nat.le_succ w.heap.size) (.int .i64 RR.1.s) (.int .i64 RR.1.t) (.int .i64 RR.1.x) (.slice ao4 n4 c4) (.slice bo4 k4 d4)
 obtain⟨o0,o1,o2,o3,o4⟩:=out5 hu (.int .i64 RR.1.s) (.int .i64 RR.1.t) (.int .i64 RR.1.x) (.slice ao4 n4 c4) (.slice bo4 k4 d4)
 have hS5:=hS4.far (Ze8 w4 (w.heap.size+1) (.int .i64 RR.1.s) (.int .i64 RR.1.t) (.int .i64 RR.1.x) (.slice ao4 n4 c4) (.slice bo4 k4 d4)) hp hq
 obtain⟨f0,f1,f2,f3,f4,e0,e1,e2,e3,e4⟩:=fe5 hu
 unfold put5 at hbl o0 o1 o2 o3 o4 hS5
 have hw2:w.heap.size≤w2.heap.size:=by omega
 clear hT3 hT4 hb4 hR3 hA3 hS4 ha4 hb5 hp hq hlo
 unfold stV
 go_wp2_with fail
 refine bodyPost_ret (v:=.tuple #[.agg #[.int .i64 RR.1.s,.int .i64 RR.1.t,.int .i64 RR.1.x,.slice ao4 n4 c4,.slice bo4 k4 d4],.string (RR.2++nlT)]) (by simp[results,Tryz.results153,go_sem,o0,o1,o2,o3,o4]) rfl ?_
 exact⟨ao4,n4,c4,bo4,k4,d4,rfl,hS5,hbl,ha5.imp_right fun f a e=>Nat.le_trans hw2 (f a e),hb6.imp_right fun f a e=>Nat.le_trans hw2 (f a e)⟩
theorem Zv4 {w:World} {ao:Option Addr} {n c:Nat} {bo:Option Addr} {k d g cf:Nat} {m:Mch} {fa fb fc:ByteArray} (h:StW w ao n c bo k d m) (hf:RdT w (some ⟨g,0,none⟩) 3 [fa,fb,fc]) (hz:∀p∈[fa,fb,fc],p.size≤20000):
 Calls Tryz.prog 153 #[stV m ao n c bo k d,.string (⟨#[97,100,109,105,116]⟩:ByteArray),.slice (some ⟨g,0,none⟩) 3 cf] w (Zfz w ao n bo k ((cmd m 22 [fa,fb,fc]).getD (m,noT))):=by
 have hT:=Two.start (w:=w) (v0:=.int .i64 m.s) (v1:=.int .i64 m.t) (v2:=.int .i64 m.x) (v3:=.slice ao n c) (v4:=.slice bo k d) (u0:=.int .i64 0) (u1:=.int .i64 0) (u2:=.int .i64 0) (u3:=.slice none 0 0) (u4:=.slice none 0 0)
 have hbA:=hT.bl
 obtain⟨d0,d1,d2,d3,d4⟩:=hT.cells
 have F0:=Zak (hf.below hbA) (j:=0) (by simp)
 have hz0:fa.size≤20000:=hz _ (by simp)
 have F1:=Zak (hf.below hbA) (j:=1) (by simp)
 have hz1:fb.size≤20000:=hz _ (by simp)
 have F2:=Zak (hf.below hbA) (j:=2) (by simp)
 have hz2:fc.size≤20000:=hz _ (by simp)
 have hA:=h.below hbA
 have hcmd:cmd m 22 [fa,fb,fc]=m.toC (admR m.C fa ((numT fb).getD badN) ((numT fc).getD badN)):=Zl7 (F:=fun x y=>m.toC (admR m.C fa x y)) (fun y=>(congrArg m.toC (Zac3 _ _ y))) (fun x=>(congrArg m.toC (Zagt _ _ x))) _ _
 have HZ:=Lib.hid (Ziz h.ok.2.1)
 obtain⟨X,hX⟩:∃X,admR m.C fa ((numT fb).getD badN) ((numT fc).getD badN)=X:=⟨_,rfl⟩
 have HG:=Lib.hid (show ∀l,X=some l→Zay l=true from fun l e=>Zvz (hX.trans e))
 have HX:=Lib.hid hX
 rw[hcmd,hX]
 clear hcmd hf hz hX
 unfold stV
 go_enter Tryz.func153,Tryz.ntmps153
 go_wp2_with fail
 generalize ((w.alloc (.cells #[.int .i64 m.s,.int .i64 m.t,.int .i64 m.x,.slice ao n c,.slice bo k d] 97)).alloc (.cells #[.int .i64 0,.int .i64 0,.int .i64 0,.slice none 0 0,.slice none 0 0] 97))=w1 at*
 refine Zcn (by kernel_rfl) ?_
 refine Zdb 0 13 100 (fun _ w'=>Below w1.heap.size w1 w') (by kernel_rfl) rfl (Below.refl _ _).drew ?_
 simp only[List.take_succ_cons,List.take_zero,List.drop_zero]
 refine sk (.pointer (some ⟨w.heap.size,3,none⟩)) ?_
 refine sv (.slice ao n c) (fun b w1 hs=>?_) ?_
 ·have k3:=(hs.cell (Zaa d3)).trans d3
  go_simp
 refine sk (.slice (some ⟨g,0,none⟩) 3 cf) ?_
 refine sv (.pointer (some ⟨g,0,none⟩)) (fun b w1 hs=>?_) ?_
 ·go_simp
 refine sv (.string fa) (fun b w1 hs=>?_) ?_
 ·have kf:=(hs.cell (Zaa F0)).trans F0
  go_simp
 refine sk (.slice (some ⟨g,0,none⟩) 3 cf) ?_
 refine sv (.pointer (some ⟨g,1,none⟩)) (fun b w1 hs=>?_) ?_
 ·go_simp
 refine sv (.string fb) (fun b w1 hs=>?_) ?_
 ·have kf:=(hs.cell (Zaa F1)).trans F1
  go_simp
 refine sc (.int .i64 ((numT fb).getD badN)) 220 (#[.string fb]) (fun b w1 hs=>?_) ?_
 ·exact(Zch fb _ (by have:=hz1;omega)).mono fun e w2 hr=>⟨hr.1,by rw[hr.2];exact hs⟩
 refine sk (.slice (some ⟨g,0,none⟩) 3 cf) ?_
 refine sv (.pointer (some ⟨g,2,none⟩)) (fun b w1 hs=>?_) ?_
 ·go_simp
 refine sv (.string fc) (fun b w1 hs=>?_) ?_
 ·have kf:=(hs.cell (Zaa F2)).trans F2
  go_simp
 refine sc (.int .i64 ((numT fc).getD badN)) 220 (#[.string fc]) (fun b w1 hs=>?_) ?_
 ·exact(Zch fc _ (by have:=hz2;omega)).mono fun e w2 hr=>⟨hr.1,by rw[hr.2];exact hs⟩
 refine Zbo fun w2 hs=>?_
 have hT2:=hT.below hs
 refine Zd3 13 _ 181 #[.slice ao n c,.string fa,.int .i64 ((numT fb).getD badN),.int .i64 ((numT fc).getD badN)] (by kernel_rfl) rfl rfl (by kernel_rfl) (by kernel_rfl) ?_
 refine(Zgp _ _ _ (hA.cl.below hs) hA.no (by omega) HZ.out).mono ?_;intro e w3 hr;rw[HX.out]at hr;obtain⟨ao3,n3,c3,rfl,ho3,hb3⟩:=hr
 refine⟨_,rfl,?_⟩
 refine Zdp 14 100 (fun _ w'=>w'=w3) (by kernel_rfl) rfl rfl rfl ?_
 simp only[List.drop_succ_cons,List.drop_zero]
 refine sk (.tuple #[.slice ao3 n3 c3,.bool X.isSome]) ?_
 refine sk (.slice ao3 n3 c3) ?_
 refine sk (.bool X.isSome) ?_
 refine sk (.slice ao3 n3 c3) ?_
 refine sk (.bool X.isSome) ?_
 refine Zbo ?_
 rintro w' rfl
 have hT3:=hT2.below hb3
 have hA3:=h.below hT3.bl
 have hlo:=Zt9 ho3
 have hR3:=ho3.rd
 have hc3:=ho3.cap'
 have hg2:w.heap.size+1<w2.heap.size:=by obtain⟨cs,hcs,_,_⟩:=hT2.b1;exact hcs.lt
 obtain⟨q0,q1,q2,q3,q4⟩:=hT3.cells
 clear hs hA ho3 hb3 hT hT2 hbA d0 d1 d2 d3 d4 HZ F0 F1 F2
 go_wp2_with fail
 refine(Zwa (r:=X) hA3 hR3 hc3.1 hc3.2 HG.out).mono ?_;rintro e w4 ⟨ao4,n4,c4,bo4,k4,d4,rfl,hS4,hb4,ha4,hb5⟩
 have ha5:(ao4=ao∧n4=n)∨∀a,ao4=some a→w2.heap.size≤a.block:=ha4.imp_right fun e=>by rw[e];exact hlo
 have hb6:(bo4=bo∧k4=k)∨∀a,bo4=some a→w2.heap.size≤a.block:=.inl hb5
 have hp:=sepS ha5 h.cl (Nat.le_succ _) hg2
 have hq:=sepI hb6 h.sg (Nat.le_succ _) hg2
 have hT4:=hT3.below hb4
 obtain⟨u0,u1,u2,u3,u4,hu⟩:=hT4.frees
 generalize (m.toC X).getD (m,noT)=RR at*
 have hbl:=Zcs hT4.bl (Nat.le_succ w.heap.size) (.int .i64 RR.1.s) (.int .i64 RR.1.t) (.int .i64 RR.1.x) (.slice ao4 n4 c4) (.slice bo4 k4 d4)
 obtain⟨o0,o1,o2,o3,o4⟩:=out5 hu (.int .i64 RR.1.s) (.int .i64 RR.1.t) (.int .i64 RR.1.x) (.slice ao4 n4 c4) (.slice bo4 k4 d4)
 have hS5:=hS4.far (Ze8 w4 (w.heap.size+1) (.int .i64 RR.1.s) (.int .i64 RR.1.t) (.int .i64 RR.1.x) (.slice ao4 n4 c4) (.slice bo4 k4 d4)) hp hq
 obtain⟨f0,f1,f2,f3,f4,e0,e1,e2,e3,e4⟩:=fe5 hu
 unfold put5 at hbl o0 o1 o2 o3 o4 hS5
 have hw2:w.heap.size≤w2.heap.size:=by omega
 clear hT3 hT4 hb4 hR3 hA3 hS4 ha4 hb5 hp hq hlo
 unfold stV
 go_wp2_with fail
 refine bodyPost_ret (v:=.tuple #[.agg #[.int .i64 RR.1.s,.int .i64 RR.1.t,.int .i64 RR.1.x,.slice ao4 n4 c4,.slice bo4 k4 d4],.string (RR.2++nlT)]) (by simp[results,Tryz.results153,go_sem,o0,o1,o2,o3,o4]) rfl ?_
 exact⟨ao4,n4,c4,bo4,k4,d4,rfl,hS5,hbl,ha5.imp_right fun f a e=>Nat.le_trans hw2 (f a e),hb6.imp_right fun f a e=>Nat.le_trans hw2 (f a e)⟩
theorem Zrl {w:World} {ao:Option Addr} {n c:Nat} {bo:Option Addr} {k d g cf:Nat} {m:Mch} {fa:ByteArray} (h:StW w ao n c bo k d m) (hf:RdT w (some ⟨g,0,none⟩) 1 [fa]) (hz:∀p∈[fa],p.size≤20000):
 Calls Tryz.prog 153 #[stV m ao n c bo k d,.string (⟨#[114,101,108,101,97,115,101]⟩:ByteArray),.slice (some ⟨g,0,none⟩) 1 cf] w (Zfz w ao n bo k ((cmd m 23 [fa]).getD (m,noT))):=by
 have hT:=Two.start (w:=w) (v0:=.int .i64 m.s) (v1:=.int .i64 m.t) (v2:=.int .i64 m.x) (v3:=.slice ao n c) (v4:=.slice bo k d) (u0:=.int .i64 0) (u1:=.int .i64 0) (u2:=.int .i64 0) (u3:=.slice none 0 0) (u4:=.slice none 0 0)
 have hbA:=hT.bl
 obtain⟨d0,d1,d2,d3,d4⟩:=hT.cells
 have F0:=Zak (hf.below hbA) (j:=0) (by simp)
 have hz0:fa.size≤20000:=hz _ (by simp)
 have hA:=h.below hbA
 have hcmd:cmd m 23 [fa]=m.toC (relR m.C fa):=rfl
 have HZ:=Lib.hid (Ziz h.ok.2.1)
 obtain⟨X,hX⟩:∃X,relR m.C fa=X:=⟨_,rfl⟩
 have HG:=Lib.hid (show ∀l,X=some l→Zay l=true from fun l e=>Z2d (hX.trans e))
 have HX:=Lib.hid hX
 rw[hcmd,hX]
 clear hcmd hf hz hX
 unfold stV
 go_enter Tryz.func153,Tryz.ntmps153
 go_wp2_with fail
 generalize ((w.alloc (.cells #[.int .i64 m.s,.int .i64 m.t,.int .i64 m.x,.slice ao n c,.slice bo k d] 97)).alloc (.cells #[.int .i64 0,.int .i64 0,.int .i64 0,.slice none 0 0,.slice none 0 0] 97))=w1 at*
 refine Zcn (by kernel_rfl) ?_
 refine Zdb 0 5 100 (fun _ w'=>Below w1.heap.size w1 w') (by kernel_rfl) rfl (Below.refl _ _).drew ?_
 simp only[List.take_succ_cons,List.take_zero,List.drop_zero]
 refine sk (.pointer (some ⟨w.heap.size,3,none⟩)) ?_
 refine sv (.slice ao n c) (fun b w1 hs=>?_) ?_
 ·have k3:=(hs.cell (Zaa d3)).trans d3
  go_simp
 refine sk (.slice (some ⟨g,0,none⟩) 1 cf) ?_
 refine sv (.pointer (some ⟨g,0,none⟩)) (fun b w1 hs=>?_) ?_
 ·go_simp
 refine sv (.string fa) (fun b w1 hs=>?_) ?_
 ·have kf:=(hs.cell (Zaa F0)).trans F0
  go_simp
 refine Zbo fun w2 hs=>?_
 have hT2:=hT.below hs
 refine Zd3 5 _ 236 #[.slice ao n c,.string fa] (by kernel_rfl) rfl rfl (by kernel_rfl) (by kernel_rfl) ?_
 refine(Zoa _ (hA.cl.below hs) hA.cap HZ.out).mono ?_;intro e w3 hr;rw[HX.out]at hr;obtain⟨ao3,n3,c3,rfl,ho3,hb3⟩:=hr
 refine⟨_,rfl,?_⟩
 refine Zdp 6 100 (fun _ w'=>w'=w3) (by kernel_rfl) rfl rfl rfl ?_
 simp only[List.drop_succ_cons,List.drop_zero]
 refine sk (.tuple #[.slice ao3 n3 c3,.bool X.isSome]) ?_
 refine sk (.slice ao3 n3 c3) ?_
 refine sk (.bool X.isSome) ?_
 refine sk (.slice ao3 n3 c3) ?_
 refine sk (.bool X.isSome) ?_
 refine Zbo ?_
 rintro w' rfl
 have hT3:=hT2.below hb3
 have hA3:=h.below hT3.bl
 have hlo:=Zt9 ho3
 have hR3:=ho3.rd
 have hc3:=ho3.cap'
 have hg2:w.heap.size+1<w2.heap.size:=by obtain⟨cs,hcs,_,_⟩:=hT2.b1;exact hcs.lt
 obtain⟨q0,q1,q2,q3,q4⟩:=hT3.cells
 clear hs hA ho3 hb3 hT hT2 hbA d0 d1 d2 d3 d4 HZ F0
 go_wp2_with fail
 refine(Zwa (r:=X) hA3 hR3 hc3.1 hc3.2 HG.out).mono ?_;rintro e w4 ⟨ao4,n4,c4,bo4,k4,d4,rfl,hS4,hb4,ha4,hb5⟩
 have ha5:(ao4=ao∧n4=n)∨∀a,ao4=some a→w2.heap.size≤a.block:=ha4.imp_right fun e=>by rw[e];exact hlo
 have hb6:(bo4=bo∧k4=k)∨∀a,bo4=some a→w2.heap.size≤a.block:=.inl hb5
 have hp:=sepS ha5 h.cl (Nat.le_succ _) hg2
 have hq:=sepI hb6 h.sg (Nat.le_succ _) hg2
 have hT4:=hT3.below hb4
 obtain⟨u0,u1,u2,u3,u4,hu⟩:=hT4.frees
 generalize (m.toC X).getD (m,noT)=RR at*
 have hbl:=Zcs hT4.bl (Nat.le_succ w.heap.size) (.int .i64 RR.1.s) (.int .i64 RR.1.t) (.int .i64 RR.1.x) (.slice ao4 n4 c4) (.slice bo4 k4 d4)
 obtain⟨o0,o1,o2,o3,o4⟩:=out5 hu (.int .i64 RR.1.s) (.int .i64 RR.1.t) (.int .i64 RR.1.x) (.slice ao4 n4 c4) (.slice bo4 k4 d4)
 have hS5:=hS4.far (Ze8 w4 (w.heap.size+1) (.int .i64 RR.1.s) (.int .i64 RR.1.t) (.int .i64 RR.1.x) (.slice ao4 n4 c4) (.slice bo4 k4 d4)) hp hq
 obtain⟨f0,f1,f2,f3,f4,e0,e1,e2,e3,e4⟩:=fe5 hu
 unfold put5 at hbl o0 o1 o2 o3 o4 hS5
 have hw2:w.heap.size≤w2.heap.size:=by omega
 clear hT3 hT4 hb4 hR3 hA3 hS4 ha4 hb5 hp hq hlo
 unfold stV
 go_wp2_with fail
 refine bodyPost_ret (v:=.tuple #[.agg #[.int .i64 RR.1.s,.int .i64 RR.1.t,.int .i64 RR.1.x,.slice ao4 n4 c4,.slice bo4 k4 d4],.string (RR.2++nlT)]) (by simp[results,Tryz.results153,go_sem,o0,o1,o2,o3,o4]) rfl ?_
 exact⟨ao4,n4,c4,bo4,k4,d4,rfl,hS5,hbl,ha5.imp_right fun f a e=>Nat.le_trans hw2 (f a e),hb6.imp_right fun f a e=>Nat.le_trans hw2 (f a e)⟩
theorem Zuk {w:World} {ao:Option Addr} {n c:Nat} {bo:Option Addr} {k d g cf:Nat} {m:Mch} {fa:ByteArray} (h:StW w ao n c bo k d m) (hf:RdT w (some ⟨g,0,none⟩) 1 [fa]) (hz:∀p∈[fa],p.size≤20000):
 Calls Tryz.prog 153 #[stV m ao n c bo k d,.string (⟨#[112,111,119,101,114]⟩:ByteArray),.slice (some ⟨g,0,none⟩) 1 cf] w (Zfz w ao n bo k ((cmd m 24 [fa]).getD (m,noT))):=by
 have hT:=Two.start (w:=w) (v0:=.int .i64 m.s) (v1:=.int .i64 m.t) (v2:=.int .i64 m.x) (v3:=.slice ao n c) (v4:=.slice bo k d) (u0:=.int .i64 0) (u1:=.int .i64 0) (u2:=.int .i64 0) (u3:=.slice none 0 0) (u4:=.slice none 0 0)
 have hbA:=hT.bl
 obtain⟨d0,d1,d2,d3,d4⟩:=hT.cells
 have F0:=Zak (hf.below hbA) (j:=0) (by simp)
 have hz0:fa.size≤20000:=hz _ (by simp)
 have hA:=h.below hbA
 have hcmd:cmd m 24 [fa]=m.toC (Zfq m.C ((numT fa).getD badN)):=Zgi (F:=fun x=>m.toC (Zfq m.C x)) (congrArg m.toC (Zae5 _)) _
 have HZ:=Lib.hid (Ziz h.ok.2.1)
 obtain⟨X,hX⟩:∃X,Zfq m.C ((numT fa).getD badN)=X:=⟨_,rfl⟩
 have HG:=Lib.hid (show ∀l,X=some l→Zay l=true from fun l e=>Zrd (hX.trans e))
 have HX:=Lib.hid hX
 rw[hcmd,hX]
 clear hcmd hf hz hX
 unfold stV
 go_enter Tryz.func153,Tryz.ntmps153
 go_wp2_with fail
 generalize ((w.alloc (.cells #[.int .i64 m.s,.int .i64 m.t,.int .i64 m.x,.slice ao n c,.slice bo k d] 97)).alloc (.cells #[.int .i64 0,.int .i64 0,.int .i64 0,.slice none 0 0,.slice none 0 0] 97))=w1 at*
 refine Zcn (by kernel_rfl) ?_
 refine Zdb 0 6 100 (fun _ w'=>Below w1.heap.size w1 w') (by kernel_rfl) rfl (Below.refl _ _).drew ?_
 simp only[List.take_succ_cons,List.take_zero,List.drop_zero]
 refine sk (.pointer (some ⟨w.heap.size,3,none⟩)) ?_
 refine sv (.slice ao n c) (fun b w1 hs=>?_) ?_
 ·have k3:=(hs.cell (Zaa d3)).trans d3
  go_simp
 refine sk (.slice (some ⟨g,0,none⟩) 1 cf) ?_
 refine sv (.pointer (some ⟨g,0,none⟩)) (fun b w1 hs=>?_) ?_
 ·go_simp
 refine sv (.string fa) (fun b w1 hs=>?_) ?_
 ·have kf:=(hs.cell (Zaa F0)).trans F0
  go_simp
 refine sc (.int .i64 ((numT fa).getD badN)) 220 (#[.string fa]) (fun b w1 hs=>?_) ?_
 ·exact(Zch fa _ (by have:=hz0;omega)).mono fun e w2 hr=>⟨hr.1,by rw[hr.2];exact hs⟩
 refine Zbo fun w2 hs=>?_
 have hT2:=hT.below hs
 refine Zd3 6 _ 237 #[.slice ao n c,.int .i64 ((numT fa).getD badN)] (by kernel_rfl) rfl rfl (by kernel_rfl) (by kernel_rfl) ?_
 refine(Zx1 _ (hA.cl.below hs) hA.no HZ.out).mono ?_;intro e w3 hr;rw[HX.out]at hr;obtain⟨ao3,n3,c3,rfl,ho3,hb3⟩:=hr
 refine⟨_,rfl,?_⟩
 refine Zdp 7 100 (fun _ w'=>w'=w3) (by kernel_rfl) rfl rfl rfl ?_
 simp only[List.drop_succ_cons,List.drop_zero]
 refine sk (.tuple #[.slice ao3 n3 c3,.bool X.isSome]) ?_
 refine sk (.slice ao3 n3 c3) ?_
 refine sk (.bool X.isSome) ?_
 refine sk (.slice ao3 n3 c3) ?_
 refine sk (.bool X.isSome) ?_
 refine Zbo ?_
 rintro w' rfl
 have hT3:=hT2.below hb3
 have hA3:=h.below hT3.bl
 have hlo:=Zt9 ho3
 have hR3:=ho3.rd
 have hc3:=ho3.cap'
 have hg2:w.heap.size+1<w2.heap.size:=by obtain⟨cs,hcs,_,_⟩:=hT2.b1;exact hcs.lt
 obtain⟨q0,q1,q2,q3,q4⟩:=hT3.cells
 clear hs hA ho3 hb3 hT hT2 hbA d0 d1 d2 d3 d4 HZ F0
 go_wp2_with fail
 refine(Zwa (r:=X) hA3 hR3 hc3.1 hc3.2 HG.out).mono ?_;rintro e w4 ⟨ao4,n4,c4,bo4,k4,d4,rfl,hS4,hb4,ha4,hb5⟩
 have ha5:(ao4=ao∧n4=n)∨∀a,ao4=some a→w2.heap.size≤a.block:=ha4.imp_right fun e=>by rw[e];exact hlo
 have hb6:(bo4=bo∧k4=k)∨∀a,bo4=some a→w2.heap.size≤a.block:=.inl hb5
 have hp:=sepS ha5 h.cl (Nat.le_succ _) hg2
 have hq:=sepI hb6 h.sg (Nat.le_succ _) hg2
 have hT4:=hT3.below hb4
 obtain⟨u0,u1,u2,u3,u4,hu⟩:=hT4.frees
 generalize (m.toC X).getD (m,noT)=RR at*
 have hbl:=Zcs hT4.bl (Nat.le_succ w.heap.size) (.int .i64 RR.1.s) (.int .i64 RR.1.t) (.int .i64 RR.1.x) (.slice ao4 n4 c4) (.slice bo4 k4 d4)
 obtain⟨o0,o1,o2,o3,o4⟩:=out5 hu (.int .i64 RR.1.s) (.int .i64 RR.1.t) (.int .i64 RR.1.x) (.slice ao4 n4 c4) (.slice bo4 k4 d4)
 have hS5:=hS4.far (Ze8 w4 (w.heap.size+1) (.int .i64 RR.1.s) (.int .i64 RR.1.t) (.int .i64 RR.1.x) (.slice ao4 n4 c4) (.slice bo4 k4 d4)) hp hq
 obtain⟨f0,f1,f2,f3,f4,e0,e1,e2,e3,e4⟩:=fe5 hu
 unfold put5 at hbl o0 o1 o2 o3 o4 hS5
 have hw2:w.heap.size≤w2.heap.size:=by omega
 clear hT3 hT4 hb4 hR3 hA3 hS4 ha4 hb5 hp hq hlo
 unfold stV
 go_wp2_with fail
 refine bodyPost_ret (v:=.tuple #[.agg #[.int .i64 RR.1.s,.int .i64 RR.1.t,.int .i64 RR.1.x,.slice ao4 n4 c4,.slice bo4 k4 d4],.string (RR.2++nlT)]) (by simp[results,Tryz.results153,go_sem,o0,o1,o2,o3,o4]) rfl ?_
 exact⟨ao4,n4,c4,bo4,k4,d4,rfl,hS5,hbl,ha5.imp_right fun f a e=>Nat.le_trans hw2 (f a e),hb6.imp_right fun f a e=>Nat.le_trans hw2 (f a e)⟩
end Go.Proofs.YtcjihfongfefoaaGreatDoor
