/- Tl Tm Ud -/
import Derived.Test.YtcjihfongfefoaaGreatDoorJ12
import Derived.Test.YtcjihfongfefoaaGreatDoorJ14
import Derived.Test.YtcjihfongfefoaaGreatDoorJ23
import Derived.Test.YtcjihfongfefoaaGreatDoorShlf
namespace Go.Proofs.YtcjihfongfefoaaGreatDoor
open Go.RowKit
set_option maxHeartbeats 25600000
set_option maxRecDepth 100000
def MaxW (w:World):Prop:=∃m,w.cell? ⟨2,0,none⟩=some (.int .i64 m)
theorem MaxW.below {w w':World} (h:MaxW w) (hb:Below w.heap.size w w'):MaxW w':=by
 obtain⟨m,h⟩:=h
 exact⟨m,(hb.cell (Zaa h)).trans h⟩
theorem Zlp (s:ByteArray) (c:UInt8) (w:World) (hm:MaxW w) (hs:s.size≤1000000000):Calls Tryz.prog 61 #[.string s,.string ⟨#[c]⟩] w fun e w'=>e= .returned (.slice (some ⟨w.heap.size,0,none⟩) (cutT c s).length (cutT c s).length)∧w'=w.alloc (.cells ((cutT c s).map Value.string).toArray 9):=by
 obtain⟨m,hm⟩:=hm
 refine(Tryz.strings_Split s ⟨#[c]⟩ m w (by omega) hm (Nat.le_refl 1)).mono ?_
 rintro e w' ⟨rfl,rfl⟩
 rw[Z58,Zf5,Ztm]
 exact⟨rfl,rfl⟩
theorem Z9t (w:World) (l:List ByteArray) (t:TypeId) (hs:l.length≤1099511627776):RdT (w.alloc (.cells (l.map Value.string).toArray t)) (some ⟨w.heap.size,0,none⟩) l.length l:=by
 refine⟨rfl,hs,fun i hi=>⟨w.heap.size,0,rfl,?_⟩⟩
 rw[Nat.zero_add]
 exact(Box.new w _ t).cell (by simp[hi])
def RetStB (w:World) (r:Option Stn) (e:Ending) (w':World):Prop:=
 e= .returned (.tuple #[.agg #[.string (r.getD zstn).nm,.string (r.getD zstn).ph,.int .i64 (r.getD zstn).g,.int .i64 (r.getD zstn).l],.bool r.isSome])∧Below w.heap.size w w'
theorem Zagq {p:ByteArray} (h:(cutT 58 p).length≠4):parS p=none:=by
 unfold parS
 split
 ·next hc=>rw[hc]at h;exact absurd rfl h
 ·rfl
theorem Zaa3 {p f0 f1 f2 f3:ByteArray} (h:cutT 58 p=[f0,f1,f2,f3]):parS p=match numT f2,numT f3 with
 |some g,some l=>if f1.size≠0∧stB f0 (Zar f1) g l=true then some ⟨f0,Zar f1,g,l⟩else none
 |_,_=>none:=by
 unfold parS;rw[h];rfl
theorem Zaai {l:List ByteArray} (h:l.length=4):∃f0 f1 f2 f3,l=[f0,f1,f2,f3]:=by
 match l,h with
 |[a,b,c,d],_=>exact⟨a,b,c,d,rfl⟩
theorem Zii {c:UInt8} {s:ByteArray} {M:Nat} (h:s.size≤M):∀p∈cutT c s,p.size≤M:=fun _ hp=>Nat.le_trans (Zdk hp) h
theorem Zgl {c:UInt8} {s:ByteArray}:(cutT c s).length≤s.size+1:=by
 rw[Zf5];have:(bts s).count c≤(bts s).length:=List.count_le_length;rw[Zbz]at this;omega
theorem Zlb (p:ByteArray) (w:World) (hm:MaxW w) (hs:p.size≤1000000000):Calls Tryz.prog 272 #[.string p] w (RetStB w (parS p)):=by
 have hB0:Below w.heap.size w (w.alloc (.cells #[.string ByteArray.empty,.string ByteArray.empty,.int .i64 0,.int .i64 0] 37)):=(Below.refl _ _).alloc (Nat.le_refl _) _
 have hX0:=Box.new w #[.string ByteArray.empty,.string ByteArray.empty,.int .i64 0,.int .i64 0] 37
 have hm0:=hm.below hB0
 have hz0:w.heap.size<(w.alloc (.cells #[.string ByteArray.empty,.string ByteArray.empty,.int .i64 0,.int .i64 0] 37)).heap.size:=hX0.lt
 have hWW:w.heap.size≤w.heap.size:=Nat.le_refl _
 have hc9:(cutT 58 p).length≤1000000001:=by have:=Zgl (c:=58) (s:=p);omega
 have hsz:=Zii (c:=58) hs
 by_cases h4:(cutT 58 p).length=4
 ·obtain⟨f0,f1,f2,f3,hf⟩:=Zaai h4
  have HP:=Lib.hid (Zaa3 hf)
  rw[hf]at hsz
  have z1:=hsz f1 (by simp)
  have z2:=hsz f2 (by simp)
  have z3:=hsz f3 (by simp)
  have z0:=hsz f0 (by simp)
  have HS:=Lib.hid (fun c (h:MaxW c)=>Zlp p 58 c h hs)
  rw[hf]at HS
  clear hsz h4 hc9 hf
  by_cases hz1:f1.size=0
  ·have hr:=Lib.hid (show parS p=none by
    rw[HP.out]
    split
    ·rw[if_neg (by rintro⟨h,_⟩;exact h hz1)]
    ·rfl)
   obtain rfl:f1=⟨#[]⟩:=Zae (Zkb hz1)
   clear hz1 HP
   go_enter Tryz.func272,Tryz.ntmps272
   go_wp2_with fail
   refine(HS.out _ hm0).mono ?_;rintro e w1 ⟨rfl,rfl⟩
   have hBE:=hB0.alloc (Nat.le_of_lt hz0) (.cells ([f0,⟨#[]⟩,f2,f3].map Value.string).toArray 9)
   have hX1:=hX0.alloc (.cells ([f0,⟨#[]⟩,f2,f3].map Value.string).toArray 9)
   have hF:=Box.new (w.alloc (.cells #[.string ByteArray.empty,.string ByteArray.empty,.int .i64 0,.int .i64 0] 37)) ([f0,⟨#[]⟩,f2,f3].map Value.string).toArray 9
   have c0:=hF.cell (i:=0) (v:=.string f0) rfl
   have c1:=hF.cell (i:=1) (v:=.string ⟨#[]⟩) rfl
   have c2:=hF.cell (i:=2) (v:=.string f2) rfl
   have c3:=hF.cell (i:=3) (v:=.string f3) rfl
   have hGz:=hF.lt
   clear hF hX0 hB0 hm0
   generalize (w.alloc (.cells #[.string ByteArray.empty,.string ByteArray.empty,.int .i64 0,.int .i64 0] 37)).alloc (.cells ([f0,⟨#[]⟩,f2,f3].map Value.string).toArray 9)=W1 at*
   generalize (w.alloc (.cells #[.string ByteArray.empty,.string ByteArray.empty,.int .i64 0,.int .i64 0] 37)).heap.size=G at*
   have d0:=hX1.cell (i:=0) rfl
   have d1:=hX1.cell (i:=1) rfl
   have d2:=hX1.cell (i:=2) rfl
   have d3:=hX1.cell (i:=3) rfl
   have e0:=hX1.free 0
   have e1:=hX1.free 1
   have e2:=hX1.free 2
   have e3:=hX1.free 3
   go_wp2_with fail
   refine bodyPost_ret (v:=.tuple #[.agg #[.string ⟨#[]⟩,.string ⟨#[]⟩,.int .i64 0,.int .i64 0],.bool false]) (by simp[results,Tryz.results272,go_sem,d0,d1,d2,d3]) rfl ⟨by rw[hr.out];rfl,?_⟩
   exact(((hBE.setCell (by exact hWW) _).setCell (by exact hWW) _).setCell (by exact hWW) _).setCell (by exact hWW) _
  ·have t1:=Zou (Zfh hz1)
   have t2:f1.toList.isEmpty=false:=by rw[Zck];simpa using Zfh hz1
   have HZ1:=Lib.hid hz1
   clear hz1
   cases hg2:numT f2 with
   |none=>
    have hr:=Lib.hid (show parS p=none by rw[HP.out,hg2])
    have HG2:=Lib.hid hg2
    obtain⟨r3,hr3⟩:∃r3,numT f3=r3:=⟨_,rfl⟩
    have HG3:=Lib.hid hr3
    clear hg2 hr3 HP
    go_enter Tryz.func272,Tryz.ntmps272
    go_wp2_with fail
    refine(HS.out _ hm0).mono ?_;rintro e w1 ⟨rfl,rfl⟩
    have hBE:=hB0.alloc (Nat.le_of_lt hz0) (.cells ([f0,f1,f2,f3].map Value.string).toArray 9)
    have hX1:=hX0.alloc (.cells ([f0,f1,f2,f3].map Value.string).toArray 9)
    have hF:=Box.new (w.alloc (.cells #[.string ByteArray.empty,.string ByteArray.empty,.int .i64 0,.int .i64 0] 37)) ([f0,f1,f2,f3].map Value.string).toArray 9
    have c0:=hF.cell (i:=0) (v:=.string f0) rfl
    have c1:=hF.cell (i:=1) (v:=.string f1) rfl
    have c2:=hF.cell (i:=2) (v:=.string f2) rfl
    have c3:=hF.cell (i:=3) (v:=.string f3) rfl
    have hGz:=hF.lt
    clear hF hX0 hB0 hm0
    generalize (w.alloc (.cells #[.string ByteArray.empty,.string ByteArray.empty,.int .i64 0,.int .i64 0] 37)).alloc (.cells ([f0,f1,f2,f3].map Value.string).toArray 9)=W1 at*
    generalize (w.alloc (.cells #[.string ByteArray.empty,.string ByteArray.empty,.int .i64 0,.int .i64 0] 37)).heap.size=G at*
    go_wp2_with fail
    refine(Zbl f2 _ (by omega)).mono ?_;rintro e w' ⟨rfl,rfl⟩
    rw[HG2.out]
    simp only[Option.getD_none,Option.isSome_none]
    go_wp2_with fail
    refine(Zbl f3 _ (by omega)).mono ?_;rintro e w' ⟨rfl,rfl⟩
    rw[HG3.out]
    generalize r3.getD 0=l3 at*
    generalize r3.isSome=b3 at*
    have C:W1.drew.cell? ⟨G,0,none⟩=some (.string f0)∧W1.drew.cell? ⟨G,1,none⟩=some (.string f1):=⟨c0,c1⟩
    have hWA:=(Below.refl W1.heap.size W1).alloc (Nat.le_refl _) (.cells #[.string ⟨#[]⟩,.string ⟨#[]⟩,.int .i64 0,.int .i64 0] 37)
    have CA:(W1.alloc (.cells #[.string ⟨#[]⟩,.string ⟨#[]⟩,.int .i64 0,.int .i64 0] 37)).drew.cell? ⟨G,0,none⟩=some (.string f0)∧(W1.alloc (.cells #[.string ⟨#[]⟩,.string ⟨#[]⟩,.int .i64 0,.int .i64 0] 37)).drew.cell? ⟨G,1,none⟩=some (.string f1):=⟨(hWA.cell (Zaa c0)).trans c0,(hWA.cell (Zaa c1)).trans c1⟩
    have hWB:=(Below.refl W1.heap.size W1).alloc (Nat.le_refl _) (.cells #[.string f0,.string (Zar f1),.int .i64 0,.int .i64 l3] 37)
    have CB:(W1.alloc (.cells #[.string f0,.string (Zar f1),.int .i64 0,.int .i64 l3] 37)).drew.cell? ⟨G,0,none⟩=some (.string f0)∧(W1.alloc (.cells #[.string f0,.string (Zar f1),.int .i64 0,.int .i64 l3] 37)).drew.cell? ⟨G,1,none⟩=some (.string f1):=⟨(hWB.cell (Zaa c0)).trans c0,(hWB.cell (Zaa c1)).trans c1⟩
    have hwW:w.heap.size<W1.heap.size:=by omega
    have hwn:w.heap.size≠W1.heap.size:=by omega
    go_wp2_with fail
    go_region_held3 (fun w'=>w'.cell? ⟨G,0,none⟩=some (.string f0)∧w'.cell? ⟨G,1,none⟩=some (.string f1)) (first|with_reducible exact C|with_reducible exact CA|with_reducible exact CB) (first|(go_at_call 206;refine(Zci _ _).mono ?_;rintro e w' ⟨rfl,rfl⟩))
    all_goals
     have hBE:Below w.heap.size w (W1.alloc (.cells #[.string f0,.string (Zar f1),.int .i64 0,.int .i64 l3] 37)).drew:=Below.drew (hBE.alloc (Nat.le_of_lt hwW) (.cells #[.string f0,.string (Zar f1),.int .i64 0,.int .i64 l3] 37))
     have hX1:Box (W1.alloc (.cells #[.string f0,.string (Zar f1),.int .i64 0,.int .i64 l3] 37)).drew w.heap.size #[.string ByteArray.empty,.string ByteArray.empty,.int .i64 0,.int .i64 0] 37:=hX1.alloc (.cells #[.string f0,.string (Zar f1),.int .i64 0,.int .i64 l3] 37)
     have hNB:Box (W1.alloc (.cells #[.string f0,.string (Zar f1),.int .i64 0,.int .i64 l3] 37)).drew W1.heap.size #[.string f0,.string (Zar f1),.int .i64 0,.int .i64 l3] 37:=Box.new W1 _ _
     generalize (W1.alloc (.cells #[.string f0,.string (Zar f1),.int .i64 0,.int .i64 l3] 37)).drew=X at*
     generalize W1.heap.size=B at*
     clear c0 c1 c2 c3 C CA CB hWA hWB hGz
     have d0:=hX1.cell (i:=0) rfl
     have d1:=hX1.cell (i:=1) rfl
     have d2:=hX1.cell (i:=2) rfl
     have d3:=hX1.cell (i:=3) rfl
     have e0:=hX1.free 0
     have e1:=hX1.free 1
     have e2:=hX1.free 2
     have e3:=hX1.free 3
     go_wp2_with fail
     refine bodyPost_ret (v:=.tuple #[.agg #[.string ⟨#[]⟩,.string ⟨#[]⟩,.int .i64 0,.int .i64 0],.bool false]) (by simp[results,Tryz.results272,go_sem,d0,d1,d2,d3]) rfl ⟨by rw[hr.out];rfl,?_⟩
     exact(((hBE.setCell (by exact hWW) _).setCell (by exact hWW) _).setCell (by exact hWW) _).setCell (by exact hWW) _
   |some g=>
    have HG2:=Lib.hid hg2
    cases hg3:numT f3 with
    |none=>
     have hr:=Lib.hid (show parS p=none by rw[HP.out,hg2,hg3])
     have HG3:=Lib.hid hg3
     clear hg2 hg3 HP
     go_enter Tryz.func272,Tryz.ntmps272
     go_wp2_with fail
     refine(HS.out _ hm0).mono ?_;rintro e w1 ⟨rfl,rfl⟩
     have hBE:=hB0.alloc (Nat.le_of_lt hz0) (.cells ([f0,f1,f2,f3].map Value.string).toArray 9)
     have hX1:=hX0.alloc (.cells ([f0,f1,f2,f3].map Value.string).toArray 9)
     have hF:=Box.new (w.alloc (.cells #[.string ByteArray.empty,.string ByteArray.empty,.int .i64 0,.int .i64 0] 37)) ([f0,f1,f2,f3].map Value.string).toArray 9
     have c0:=hF.cell (i:=0) (v:=.string f0) rfl
     have c1:=hF.cell (i:=1) (v:=.string f1) rfl
     have c2:=hF.cell (i:=2) (v:=.string f2) rfl
     have c3:=hF.cell (i:=3) (v:=.string f3) rfl
     have hGz:=hF.lt
     clear hF hX0 hB0 hm0
     generalize (w.alloc (.cells #[.string ByteArray.empty,.string ByteArray.empty,.int .i64 0,.int .i64 0] 37)).alloc (.cells ([f0,f1,f2,f3].map Value.string).toArray 9)=W1 at*
     generalize (w.alloc (.cells #[.string ByteArray.empty,.string ByteArray.empty,.int .i64 0,.int .i64 0] 37)).heap.size=G at*
     go_wp2_with fail
     refine(Zbl f2 _ (by omega)).mono ?_;rintro e w' ⟨rfl,rfl⟩
     rw[HG2.out]
     simp only[Option.getD_some,Option.isSome_some]
     go_wp2_with fail
     refine(Zbl f3 _ (by omega)).mono ?_;rintro e w' ⟨rfl,rfl⟩
     rw[HG3.out]
     simp only[Option.getD_none,Option.isSome_none]
     have C:W1.drew.cell? ⟨G,0,none⟩=some (.string f0)∧W1.drew.cell? ⟨G,1,none⟩=some (.string f1):=⟨c0,c1⟩
     have hWA:=(Below.refl W1.heap.size W1).alloc (Nat.le_refl _) (.cells #[.string ⟨#[]⟩,.string ⟨#[]⟩,.int .i64 0,.int .i64 0] 37)
     have CA:(W1.alloc (.cells #[.string ⟨#[]⟩,.string ⟨#[]⟩,.int .i64 0,.int .i64 0] 37)).drew.cell? ⟨G,0,none⟩=some (.string f0)∧(W1.alloc (.cells #[.string ⟨#[]⟩,.string ⟨#[]⟩,.int .i64 0,.int .i64 0] 37)).drew.cell? ⟨G,1,none⟩=some (.string f1):=⟨(hWA.cell (Zaa c0)).trans c0,(hWA.cell (Zaa c1)).trans c1⟩
     have hWB:=(Below.refl W1.heap.size W1).alloc (Nat.le_refl _) (.cells #[.string f0,.string (Zar f1),.int .i64 g,.int .i64 0] 37)
     have CB:(W1.alloc (.cells #[.string f0,.string (Zar f1),.int .i64 g,.int .i64 0] 37)).drew.cell? ⟨G,0,none⟩=some (.string f0)∧(W1.alloc (.cells #[.string f0,.string (Zar f1),.int .i64 g,.int .i64 0] 37)).drew.cell? ⟨G,1,none⟩=some (.string f1):=⟨(hWB.cell (Zaa c0)).trans c0,(hWB.cell (Zaa c1)).trans c1⟩
     have hwW:w.heap.size<W1.heap.size:=by omega
     have hwn:w.heap.size≠W1.heap.size:=by omega
     go_wp2_with fail
     go_region_held3 (fun w'=>w'.cell? ⟨G,0,none⟩=some (.string f0)∧w'.cell? ⟨G,1,none⟩=some (.string f1)) (first|with_reducible exact C|with_reducible exact CA|with_reducible exact CB) (first|(go_at_call 206;refine(Zci _ _).mono ?_;rintro e w' ⟨rfl,rfl⟩))
     all_goals
      have hBE:Below w.heap.size w (W1.alloc (.cells #[.string f0,.string (Zar f1),.int .i64 g,.int .i64 0] 37)).drew:=Below.drew (hBE.alloc (Nat.le_of_lt hwW) (.cells #[.string f0,.string (Zar f1),.int .i64 g,.int .i64 0] 37))
      have hX1:Box (W1.alloc (.cells #[.string f0,.string (Zar f1),.int .i64 g,.int .i64 0] 37)).drew w.heap.size #[.string ByteArray.empty,.string ByteArray.empty,.int .i64 0,.int .i64 0] 37:=hX1.alloc (.cells #[.string f0,.string (Zar f1),.int .i64 g,.int .i64 0] 37)
      have hNB:Box (W1.alloc (.cells #[.string f0,.string (Zar f1),.int .i64 g,.int .i64 0] 37)).drew W1.heap.size #[.string f0,.string (Zar f1),.int .i64 g,.int .i64 0] 37:=Box.new W1 _ _
      generalize (W1.alloc (.cells #[.string f0,.string (Zar f1),.int .i64 g,.int .i64 0] 37)).drew=X at*
      generalize W1.heap.size=B at*
      clear c0 c1 c2 c3 C CA CB hWA hWB hGz
      have d0:=hX1.cell (i:=0) rfl
      have d1:=hX1.cell (i:=1) rfl
      have d2:=hX1.cell (i:=2) rfl
      have d3:=hX1.cell (i:=3) rfl
      have e0:=hX1.free 0
      have e1:=hX1.free 1
      have e2:=hX1.free 2
      have e3:=hX1.free 3
      go_wp2_with fail
      refine bodyPost_ret (v:=.tuple #[.agg #[.string ⟨#[]⟩,.string ⟨#[]⟩,.int .i64 0,.int .i64 0],.bool false]) (by simp[results,Tryz.results272,go_sem,d0,d1,d2,d3]) rfl ⟨by rw[hr.out];rfl,?_⟩
      exact(((hBE.setCell (by exact hWW) _).setCell (by exact hWW) _).setCell (by exact hWW) _).setCell (by exact hWW) _
    |some l=>
     have HG3:=Lib.hid hg3
     clear hg2 hg3
     go_enter Tryz.func272,Tryz.ntmps272
     go_wp2_with fail
     refine(HS.out _ hm0).mono ?_;rintro e w1 ⟨rfl,rfl⟩
     have hBE:=hB0.alloc (Nat.le_of_lt hz0) (.cells ([f0,f1,f2,f3].map Value.string).toArray 9)
     have hX1:=hX0.alloc (.cells ([f0,f1,f2,f3].map Value.string).toArray 9)
     have hF:=Box.new (w.alloc (.cells #[.string ByteArray.empty,.string ByteArray.empty,.int .i64 0,.int .i64 0] 37)) ([f0,f1,f2,f3].map Value.string).toArray 9
     have c0:=hF.cell (i:=0) (v:=.string f0) rfl
     have c1:=hF.cell (i:=1) (v:=.string f1) rfl
     have c2:=hF.cell (i:=2) (v:=.string f2) rfl
     have c3:=hF.cell (i:=3) (v:=.string f3) rfl
     have hGz:=hF.lt
     clear hF hX0 hB0 hm0
     generalize (w.alloc (.cells #[.string ByteArray.empty,.string ByteArray.empty,.int .i64 0,.int .i64 0] 37)).alloc (.cells ([f0,f1,f2,f3].map Value.string).toArray 9)=W1 at*
     generalize (w.alloc (.cells #[.string ByteArray.empty,.string ByteArray.empty,.int .i64 0,.int .i64 0] 37)).heap.size=G at*
     go_wp2_with fail
     refine(Zbl f2 _ (by omega)).mono ?_;rintro e w' ⟨rfl,rfl⟩
     rw[HG2.out]
     simp only[Option.getD_some,Option.isSome_some]
     go_wp2_with fail
     refine(Zbl f3 _ (by omega)).mono ?_;rintro e w' ⟨rfl,rfl⟩
     rw[HG3.out]
     simp only[Option.getD_some,Option.isSome_some]
     have C:W1.drew.cell? ⟨G,0,none⟩=some (.string f0)∧W1.drew.cell? ⟨G,1,none⟩=some (.string f1):=⟨c0,c1⟩
     have hWA:=(Below.refl W1.heap.size W1).alloc (Nat.le_refl _) (.cells #[.string ⟨#[]⟩,.string ⟨#[]⟩,.int .i64 0,.int .i64 0] 37)
     have CA:(W1.alloc (.cells #[.string ⟨#[]⟩,.string ⟨#[]⟩,.int .i64 0,.int .i64 0] 37)).drew.cell? ⟨G,0,none⟩=some (.string f0)∧(W1.alloc (.cells #[.string ⟨#[]⟩,.string ⟨#[]⟩,.int .i64 0,.int .i64 0] 37)).drew.cell? ⟨G,1,none⟩=some (.string f1):=⟨(hWA.cell (Zaa c0)).trans c0,(hWA.cell (Zaa c1)).trans c1⟩
     have hWB:=(Below.refl W1.heap.size W1).alloc (Nat.le_refl _) (.cells #[.string f0,.string (Zar f1),.int .i64 g,.int .i64 l] 37)
     have CB:(W1.alloc (.cells #[.string f0,.string (Zar f1),.int .i64 g,.int .i64 l] 37)).drew.cell? ⟨G,0,none⟩=some (.string f0)∧(W1.alloc (.cells #[.string f0,.string (Zar f1),.int .i64 g,.int .i64 l] 37)).drew.cell? ⟨G,1,none⟩=some (.string f1):=⟨(hWB.cell (Zaa c0)).trans c0,(hWB.cell (Zaa c1)).trans c1⟩
     have hwW:w.heap.size<W1.heap.size:=by omega
     have hwn:w.heap.size≠W1.heap.size:=by omega
     go_wp2_with fail
     go_region_held3 (fun w'=>w'.cell? ⟨G,0,none⟩=some (.string f0)∧w'.cell? ⟨G,1,none⟩=some (.string f1)) (first|with_reducible exact C|with_reducible exact CA|with_reducible exact CB) (first|(go_at_call 206;refine(Zci _ _).mono ?_;rintro e w' ⟨rfl,rfl⟩))
     all_goals
      have hBE:Below w.heap.size w (W1.alloc (.cells #[.string f0,.string (Zar f1),.int .i64 g,.int .i64 l] 37)).drew:=Below.drew (hBE.alloc (Nat.le_of_lt hwW) (.cells #[.string f0,.string (Zar f1),.int .i64 g,.int .i64 l] 37))
      have hX1:Box (W1.alloc (.cells #[.string f0,.string (Zar f1),.int .i64 g,.int .i64 l] 37)).drew w.heap.size #[.string ByteArray.empty,.string ByteArray.empty,.int .i64 0,.int .i64 0] 37:=hX1.alloc (.cells #[.string f0,.string (Zar f1),.int .i64 g,.int .i64 l] 37)
      have hNB:Box (W1.alloc (.cells #[.string f0,.string (Zar f1),.int .i64 g,.int .i64 l] 37)).drew W1.heap.size #[.string f0,.string (Zar f1),.int .i64 g,.int .i64 l] 37:=Box.new W1 _ _
      generalize (W1.alloc (.cells #[.string f0,.string (Zar f1),.int .i64 g,.int .i64 l] 37)).drew=X at*
      generalize W1.heap.size=B at*
      clear c0 c1 c2 c3 C CA CB hWA hWB hGz
      have k0:=hNB.cell (i:=0) rfl
      have k1:=hNB.cell (i:=1) rfl
      have k2:=hNB.cell (i:=2) rfl
      have k3:=hNB.cell (i:=3) rfl
      have hNl:=hNB.lt
      have hXl:=hX1.lt
      go_wp2_with fail
      refine(Zcc f0 (Zar f1) g l _).mono ?_;rintro e w5 ⟨rfl,hb5⟩
      have hBE:=hBE.trans (hb5.mono hBE.size)
      have hX1:=hX1.below hb5 hXl
      have hNB:=hNB.below hb5 hNl
      clear k0 k1 k2 k3
      have k0:=hNB.cell (i:=0) rfl
      have k1:=hNB.cell (i:=1) rfl
      have k2:=hNB.cell (i:=2) rfl
      have k3:=hNB.cell (i:=3) rfl
      by_cases hsb:stB f0 (Zar f1) g l=true
      ·have hr:=Lib.hid (show parS p=some ⟨f0,Zar f1,g,l⟩by rw[HP.out,HG2.out,HG3.out];exact if_pos ⟨HZ1.out,hsb⟩)
       rw[hsb]
       clear hsb
       have d0:=hX1.cell (i:=0) rfl
       have d1:=hX1.cell (i:=1) rfl
       have d2:=hX1.cell (i:=2) rfl
       have d3:=hX1.cell (i:=3) rfl
       have e0:=hX1.free 0
       have e1:=hX1.free 1
       have e2:=hX1.free 2
       have e3:=hX1.free 3
       go_wp2_with fail
       refine bodyPost_ret (v:=.tuple #[.agg #[.string f0,.string (Zar f1),.int .i64 g,.int .i64 l],.bool true]) (by simp[results,Tryz.results272,go_sem,d0,d1,d2,d3]) rfl ⟨by rw[hr.out];rfl,?_⟩
       exact(((hBE.setCell (by exact hWW) _).setCell (by exact hWW) _).setCell (by exact hWW) _).setCell (by exact hWW) _
      ·have hr:=Lib.hid (show parS p=none by rw[HP.out,HG2.out,HG3.out];exact if_neg fun h=>hsb h.2)
       rw[show stB f0 (Zar f1) g l=false by simpa using hsb]
       clear hsb
       have d0:=hX1.cell (i:=0) rfl
       have d1:=hX1.cell (i:=1) rfl
       have d2:=hX1.cell (i:=2) rfl
       have d3:=hX1.cell (i:=3) rfl
       have e0:=hX1.free 0
       have e1:=hX1.free 1
       have e2:=hX1.free 2
       have e3:=hX1.free 3
       have d0:=hX1.cell (i:=0) rfl
       have d1:=hX1.cell (i:=1) rfl
       have d2:=hX1.cell (i:=2) rfl
       have d3:=hX1.cell (i:=3) rfl
       have e0:=hX1.free 0
       have e1:=hX1.free 1
       have e2:=hX1.free 2
       have e3:=hX1.free 3
       go_wp2_with fail
       refine bodyPost_ret (v:=.tuple #[.agg #[.string ⟨#[]⟩,.string ⟨#[]⟩,.int .i64 0,.int .i64 0],.bool false]) (by simp[results,Tryz.results272,go_sem,d0,d1,d2,d3]) rfl ⟨by rw[hr.out];rfl,?_⟩
       exact(((hBE.setCell (by exact hWW) _).setCell (by exact hWW) _).setCell (by exact hWW) _).setCell (by exact hWW) _
 ·have hr:=Lib.hid (Zagq h4)
  have hne:(((cutT 58 p).length:Int) != 4)=true:=by rw[bne_iff_ne];omega
  have hne2:(((cutT 58 p).length:Int)==4)=false:=by rw[beq_eq_false_iff_ne];omega
  have HS:=Lib.hid (fun c (h:MaxW c)=>Zlp p 58 c h hs)
  obtain⟨P,hP⟩:∃P,P=cutT 58 p:=⟨_,rfl⟩
  rw[←hP]at HS hne hne2 hc9
  clear h4 hsz hP
  go_enter Tryz.func272,Tryz.ntmps272
  go_wp2_with fail
  refine(HS.out _ hm0).mono ?_;rintro e w1 ⟨rfl,rfl⟩
  have hB1:=hB0.alloc (Nat.le_of_lt hz0) (.cells (P.map Value.string).toArray 9)
  have hX1:=hX0.alloc (.cells (P.map Value.string).toArray 9)
  have d0:=hX1.cell (i:=0) rfl
  have d1:=hX1.cell (i:=1) rfl
  have d2:=hX1.cell (i:=2) rfl
  have d3:=hX1.cell (i:=3) rfl
  have e0:=hX1.free 0
  have e1:=hX1.free 1
  have e2:=hX1.free 2
  have e3:=hX1.free 3
  clear hX0 hX1 hB0
  go_wp2_with fail
  refine bodyPost_ret (v:=.tuple #[.agg #[.string ⟨#[]⟩,.string ⟨#[]⟩,.int .i64 0,.int .i64 0],.bool false]) (by simp[results,Tryz.results272,go_sem]) rfl ⟨by rw[hr.out];rfl,?_⟩
  exact hB1
theorem Zqu {α β:Type} {f:α→Option β}:∀{l:List α} {k:Nat} (h:k<l.length),f l[k]=none→allO f l=none
 |x::l,0,_,hf=>by
  simp only[List.getElem_cons_zero]at hf
  unfold allO;rw[hf]
 |x::l,k+1,h,hf=>by
  simp only[List.getElem_cons_succ]at hf
  unfold allO
  rw[Zqu (by simpa using h) hf]
  cases f x<;>rfl
theorem Zae9 {t:ByteArray} (hd:bts t≠[45]) {k:Nat} (h:k<(cutT 59 t).length) (hf:parS (cutT 59 t)[k]=none):parT t=none:=by
 unfold parT;rw[if_neg hd,Zqu h hf]
theorem Zagi {t:ByteArray} (hd:bts t≠[45]) {S:List Stn} (hl:S.length=(cutT 59 t).length) (hf:∀i (h:i<(cutT 59 t).length) (h':i<S.length),parS (cutT 59 t)[i]=some S[i]):parT t=if Zay S=true then some S else none:=by
 unfold parT;rw[if_neg hd,Zq8 hl hf]
theorem retSB_some' {w w':World} {r:Option (List Stn)} {l:List Stn} {ao:Option Addr} {n c:Nat} (hr:r=some l) (h:OwnS w' w.heap.size ao n c l) (hb:Below w.heap.size w w'):RetSB w r (.returned (.tuple #[.slice ao n c,.bool true])) w':=by
 subst hr;exact⟨ao,n,c,rfl,h,hb⟩
theorem Zaih {w:World} {b:Nat} {l:List ByteArray} {t:TypeId} (h:Box w b (l.map Value.string).toArray t) (hs:l.length≤1099511627776):RdT w (some ⟨b,0,none⟩) l.length l:=by
 refine⟨rfl,hs,fun i hi=>⟨b,0,rfl,?_⟩⟩
 rw[Nat.zero_add]
 exact h.cell (by simp[hi])
theorem Zzy {w:World} {lo b n size:Nat} {v:Value} {xs:List Value} {cs:Array Value} {t t':TypeId} (h:w.ownsRow lo t size v n xs) (hB:Box w b cs t') (hne:t≠t'):some b≠v.ownBlock:=by
 intro e
 rcases h.2 with ⟨h1,h2⟩|⟨g,cap,cur,hv,hg,hb,_⟩
 ·rw[h1]at e;cases e
 ·rw[hv]at e
  have e2:b=g:=Option.some.inj e
  subst e2
  unfold Box at hB
  rw[hB]at hb
  simp at hb
  exact hne hb.2.symm
theorem Box.grown {w w':World} {b:Nat} {cs:Array Value} {t:TypeId} {o:Option Nat} (h:Box w b cs t) (hg:w.grownBy w' o) (hne:some b≠o):Box w' b cs t:=by
 unfold Box;rw[hg.block b h.lt hne];exact h
theorem Z8z {t:ByteArray} (hd:bts t=[45]):parT t=some []:=by unfold parT;rw[if_pos hd]
theorem Zadx {S:List Stn} {x:Stn} {P:List ByteArray} {k:Nat} (hl:S.length=k) (hk:k<P.length) (h:∀i (h:i<P.length) (h':i<S.length),parS P[i]=some S[i]) (hx:parS P[k]=some x):∀i (h:i<P.length) (h':i<(S++[x]).length),parS P[i]=some (S++[x])[i]:=by
 intro i h1 h2
 rw[List.length_append,List.length_singleton]at h2
 by_cases e:i<S.length
 ·rw[List.getElem_append_left e];exact h i h1 e
 ·obtain rfl:i=k:=by omega
  rw[List.getElem_append_right (by omega)]
  simp only[hl,Nat.sub_self,List.getElem_cons_zero]
  exact hx
theorem Zr3 (t:ByteArray) (w:World) (hm:MaxW w) (hs:t.size≤1000000000):Calls Tryz.prog 213 #[.string t] w (RetSB w (parT t)):=by
 have hb0:Below w.heap.size w (w.alloc (.cells #[] 37)):=(Below.refl _ _).alloc (Nat.le_refl _) _
 have ho0:OwnVS (w.alloc (.cells #[] 37)) w.heap.size (.slice (some ⟨w.heap.size,0,none⟩) 0 0) []:=OwnVS.made0 w (Nat.le_refl _)
 have hm0:=hm.below hb0
 by_cases hd:bts t=[45]
 ·have hr:=Lib.hid (Z8z hd)
  have t1:=Zu6 hd
  clear hd
  go_enter Tryz.func213,Tryz.ntmps213
  go_wp2_with fail
  go_ret2
  exact Zb2 ho0 (by simp) (by rw[hr.out];rfl) (by rw[hr.out];rfl) hb0
 ·have t1:=Zou hd
  have HBAD:=Lib.hid (fun k (h:k<(cutT 59 t).length) (hf:parS (cutT 59 t)[k]=none)=>Zae9 hd h hf)
  have HALL:=Lib.hid (fun S hl hf=>Zagi (t:=t) hd (S:=S) hl hf)
  have HSP:=Lib.hid (fun c (h:MaxW c)=>Zlp t 59 c h hs)
  have hsz:=Zii (c:=59) hs
  have hc9:(cutT 59 t).length≤1000000001:=by have:=Zgl (c:=59) (s:=t);omega
  generalize cutT 59 t=P at*
  have HSZ:=Lib.hid hsz
  clear hd hsz
  go_enter Tryz.func213,Tryz.ntmps213
  go_wp2_with fail
  refine(HSP.out _ hm0).mono ?_;rintro e w1 ⟨rfl,rfl⟩
  have hbS:=(Below.refl (w.alloc (.cells #[] 37)).heap.size (w.alloc (.cells #[] 37))).alloc (Nat.le_refl _) (.cells (P.map Value.string).toArray 9)
  have hrd:=Box.new (w.alloc (.cells #[] 37)) (P.map Value.string).toArray 9
  have hb1:=hb0.trans (hbS.mono hb0.size)
  have ho1:OwnVS ((w.alloc (.cells #[] 37)).alloc (.cells (P.map Value.string).toArray 9)) w.heap.size (.slice (some ⟨w.heap.size,0,none⟩) 0 0) []:=Zam ho0 hbS fun k hk=>(ho0.lt k hk).2
  have hm1:=hm0.below hbS
  clear hbS ho0 hb0 hm0
  generalize (w.alloc (.cells #[] 37)).alloc (.cells (P.map Value.string).toArray 9)=w1 at*
  generalize (w.alloc (.cells #[] 37)).heap.size=G at*
  go_wp2_with fail
  go_loopw [4,16] (fun v i wr=>∃(k:Nat) (S:List Stn),k≤P.length∧i= .int .i64 k∧Hid (S.length=k)∧Hid (∀i (h:i<P.length) (h':i<S.length),parS P[i]=some S[i])∧OwnVS wr w.heap.size v S∧Box wr G (P.map Value.string).toArray 9∧Below w.heap.size w wr) (fun _ i _=>P.length-(intOf i).toNat)
  case atStart=>exact⟨0,[],Nat.zero_le _,rfl,Lib.hid rfl,Lib.hid (fun i _ h=>absurd h (by simp)),ho1,hrd,hb1⟩
  case round=>
   clear ho1 hrd hm1 hb1
   obtain⟨k,S,hk,rfl,HL,HF,ho,hBX,hb⟩:=hrel
   have hz:=hb.size
   have hR:=Zaih hBX (by omega)
   have hM:=hm.below hb
   by_cases hlt:k<P.length
   ·obtain⟨b,off,e1,hl,hc⟩:=hR.at hlt
    cases e1
    have hc:wr.cell? ⟨G,k,none⟩=some (.string P[k]):=by rw[←hc,Nat.zero_add]
    have hpz:=HSZ.out _ (List.getElem_mem hl)
    have HSN:=Lib.hid (fun x=>Zadx (x:=x) HL.out hlt HF.out)
    have HBK:=Lib.hid (HBAD.out k hlt)
    cases hq:parS P[k]with
    |none=>
     have hr:=Lib.hid (HBK.out hq)
     have HQ:=Lib.hid hq
     clear hq
     go_wp2_with fail
     refine(Zlb P[k] _ hM hpz).mono ?_;rintro e w2 ⟨rfl,hb2⟩
     rw[HQ.out]
     simp only[Option.getD_none,Option.isSome_none]
     have hb3:=hb.trans (hb2.mono hb.size)
     go_wp2_with fail
     go_ret2
     exact Zdm hr.out (hb3.alloc hb3.size _)
    |some x=>
     have HQ:=Lib.hid hq
     have HS2:=Lib.hid (HSN.out x hq)
     clear hq
     go_wp2_with fail
     refine(Zlb P[k] _ hM hpz).mono ?_;rintro e w2 ⟨rfl,hb2⟩
     rw[HQ.out]
     simp only[Option.getD_some,Option.isSome_some]
     have hb3:=hb.trans (hb2.mono hb.size)
     have ho2:OwnVS w2 w.heap.size _ S:=Zam ho hb2 fun k hk=>(ho.lt k hk).2
     have hBX2:=hBX.below hb2 hBX.lt
     have hz3:=hb3.size
     have hkS:S.length≤1000000001:=by have:=HL.out;omega
     have hb5:Below w.heap.size w ((w2.alloc (.cells #[.string x.nm,.string x.ph,.int .i64 x.g,.int .i64 x.l] 37)).alloc (.cells #[.string x.nm,.string x.ph,.int .i64 x.g,.int .i64 x.l] 37)):=(hb3.alloc hz3 _).alloc (by simp;omega) _
     have ho4:OwnVS ((w2.alloc (.cells #[.string x.nm,.string x.ph,.int .i64 x.g,.int .i64 x.l] 37)).alloc (.cells #[.string x.nm,.string x.ph,.int .i64 x.g,.int .i64 x.l] 37)) w.heap.size _ S:=World.ownsRow.alloc (World.ownsRow.alloc ho2 _) _
     have hW:Below w2.heap.size w2 ((w2.alloc (.cells #[.string x.nm,.string x.ph,.int .i64 x.g,.int .i64 x.l] 37)).alloc (.cells #[.string x.nm,.string x.ph,.int .i64 x.g,.int .i64 x.l] 37)):=((Below.refl _ _).alloc (Nat.le_refl _) _).alloc (by simp) _
     have hBX4:=hBX2.below hW hBX2.lt
     have hrx:RdS ((w2.alloc (.cells #[.string x.nm,.string x.ph,.int .i64 x.g,.int .i64 x.l] 37)).alloc (.cells #[.string x.nm,.string x.ph,.int .i64 x.g,.int .i64 x.l] 37)) (some ⟨w2.heap.size+1,0,none⟩) 1 [x]:=by have:=Zq6 (w2.alloc (.cells #[.string x.nm,.string x.ph,.int .i64 x.g,.int .i64 x.l] 37)) x 37;simpa using this
     have hz5:=hb5.size
     clear hb ho hR hM hb2 hc ho2 hBX hBX2 hb3 hW
     go_wp2_with (at_builtin;refine Zga _ rfl (.tmp 27) (.tmp 29) rfl w.heap.size _ S [x] _ 1 1 rfl (by exact ho4) rfl (by exact hrx) (by intro e;cases e) (by omega) (by exact hz5) ?_;intro v' w5 ho5 hg5 hb6)
     have HLS:=Lib.hid (show(S++[x]).length=k+1 by rw[List.length_append,HL.out];rfl)
     have hb7:=hb5.trans hb6
     have hBX5:=hBX4.grown hg5 (Zzy ho4 hBX4 (by decide))
     go_roundw
     case rel=>exact⟨k+1,S++[x],by omega,by go_num,HLS,HS2,ho5,hBX5,hb7⟩
     case measure=>simp[intOf];omega
   ·obtain rfl:k=P.length:=by omega
    have HA:=Lib.hid (HALL.out S HL.out HF.out)
    have hsl:S.length≤1000000001:=by have:=HL.out;omega
    obtain⟨a2,n2,c2,hv,ho2⟩:=ho.own (by omega)
    subst hv
    have hcap2:=ho2.cap'.1
    go_wp2_with fail
    refine(Zba ho2.rd hcap2).mono ?_;rintro e w3 ⟨rfl,hb3⟩
    have ho3:=ho2.below hb3
    have hb4:=hb.trans (hb3.mono hb.size)
    by_cases hcb:Zay S=true
    ·have hr:=Lib.hid (HA.out.trans (if_pos hcb))
     rw[hcb]
     clear hcb
     go_wp2_with fail
     go_ret2
     exact retSB_some' hr.out ho3 hb4
    ·have hr:=Lib.hid (HA.out.trans (if_neg hcb))
     rw[show Zay S=false by simpa using hcb]
     clear hcb
     go_wp2_with fail
     go_ret2
     exact Zdm hr.out hb4
theorem OwnF.box {α:Type} {f:α→Value} {t:TypeId} {w:World} {lo n c:Nat} {ao:Option Addr} {l:List α} (h:OwnF f t w lo ao n c l) (hn:0<n):∃g cur,ao=some ⟨g,0,none⟩∧lo≤g∧Box w g cur t∧∀i (hi:i<l.length),cur[i]?=some (f l[i]):=by
 have hr:=h.rd
 rcases h.2.2.2 with ⟨h1,h2⟩|⟨g,cap,cur,hv,hg,hb,hcap,hmx,hsz,hx⟩
 ·omega
 ·cases hv
  refine⟨g,cur,rfl,hg,hb,fun i hi=>?_⟩
  have hi2:i<n:=by rw[h.1];exact hi
  have h3:(cur.toList.take (n*1))[i]?=some (f l[i]):=by rw[hx];simp[hi]
  rw[List.getElem?_take,if_pos (by omega),Array.getElem?_toList]at h3
  exact h3
theorem Zafw {p:ByteArray} (h:(cutT 58 p).length≠4):rawS p=none:=by
 unfold rawS
 split
 ·next hc=>rw[hc]at h;exact absurd rfl h
 ·rfl
theorem Zacb {p f0 f1 f2 f3:ByteArray} (h:cutT 58 p=[f0,f1,f2,f3]):rawS p=some ⟨f0,Zar f1,(numT f2).getD 0,(numT f3).getD 0⟩:=by
 unfold rawS;rw[h]
theorem Znn (s:ByteArray):(Zar s).size≤s.size:=by
 unfold Zar;split
 ·exact Nat.zero_le _
 ·exact Nat.le_refl _
theorem Zzf {p:ByteArray} {s:Stn} (h:rawS p=some s):s.nm.size≤p.size∧s.ph.size≤p.size:=by
 unfold rawS at h
 split at h
 ·next f0 f1 f2 f3 hc=>
  obtain rfl:=Option.some.inj h
  have hz:=Zii (c:=58) (s:=p) (Nat.le_refl _)
  rw[hc]at hz
  exact⟨hz f0 (by simp),Nat.le_trans (Znn f1) (hz f1 (by simp))⟩
 ·cases h
theorem Zaeh {S:List Stn} {x:Stn} {P:List ByteArray} {k:Nat} (hl:S.length=k) (hk:k<P.length) (h:∀i (h:i<P.length) (h':i<S.length),rawS P[i]=some S[i]) (hx:rawS P[k]=some x):∀i (h:i<P.length) (h':i<(S++[x]).length),rawS P[i]=some (S++[x])[i]:=by
 intro i h1 h2
 rw[List.length_append,List.length_singleton]at h2
 by_cases e:i<S.length
 ·rw[List.getElem_append_left e];exact h i h1 e
 ·obtain rfl:i=k:=by omega
  rw[List.getElem_append_right (by omega)]
  simp only[hl,Nat.sub_self,List.getElem_cons_zero]
  exact hx
theorem Z9f {P:List ByteArray} {k:Nat} (hk:k<P.length) (h8:k≤8):∃h:k<(P.take 9).length,(P.take 9)[k]=P[k]:=⟨by rw[List.length_take];omega,by rw[List.getElem_take]⟩
theorem Zaev {t:ByteArray} (hd:bts t=[45]):spT t=some []:=by unfold spT;rw[if_pos hd]
theorem Zajo {t:ByteArray} (hd:bts t≠[45]) {k:Nat} (h:k<((cutT 59 t).take 9).length) (hf:rawS ((cutT 59 t).take 9)[k]=none):spT t=none:=by
 unfold spT;rw[if_neg hd,Zqu h hf]
theorem Zai3 {t:ByteArray} (hd:bts t≠[45]) {S:List Stn} (hl:S.length=((cutT 59 t).take 9).length) (hf:∀i (h:i<((cutT 59 t).take 9).length) (h':i<S.length),rawS ((cutT 59 t).take 9)[i]=some S[i]):spT t=if bts (fmtT S)=bts t then some S else none:=by
 unfold spT;rw[if_neg hd,Zq8 hl hf]
theorem Zog (t:ByteArray) (w:World) (hs:t.size≤1000000000):Calls Tryz.prog 148 #[.string t] w (RetSB w (spT t)):=by
 have hb0:Below w.heap.size w (w.alloc (.cells #[] 37)):=(Below.refl _ _).alloc (Nat.le_refl _) _
 have ho0:OwnVS (w.alloc (.cells #[] 37)) w.heap.size (.slice (some ⟨w.heap.size,0,none⟩) 0 0) []:=OwnVS.made0 w (Nat.le_refl _)
 by_cases hd:bts t=[45]
 ·have hr:=Lib.hid (Zaev hd)
  have t1:=Zu6 hd
  clear hd
  go_enter Tryz.func148,Tryz.ntmps148
  go_wp2_with fail
  go_ret2
  exact Zb2 ho0 (by simp) (by rw[hr.out];rfl) (by rw[hr.out];rfl) hb0
 ·have t1:=Zou hd
  have HBAD:=Lib.hid (fun k (h:k<((cutT 59 t).take 9).length) (hf:rawS ((cutT 59 t).take 9)[k]=none)=>Zajo hd h hf)
  have HALL:=Lib.hid (fun S hl hf=>Zai3 (t:=t) hd (S:=S) hl hf)
  have HCU:=Lib.hid (fun c=>Zho t 59 59 rfl c hs)
  have hsz:=Zii (c:=59) hs
  have hc9:(cutT 59 t).length≤1000000001:=by have:=Zgl (c:=59) (s:=t);omega
  have hc1:0<(cutT 59 t).length:=by rw[Zf5];omega
  generalize cutT 59 t=P at*
  have HSZ:=Lib.hid hsz
  clear hd hsz
  go_enter Tryz.func148,Tryz.ntmps148
  go_wp2_with fail
  refine(HCU.out _).mono ?_;rintro e w1 ⟨ap,np,cp,rfl,hoP,hbS⟩
  have HNP:=Lib.hid hoP.1
  obtain⟨g,cur,rfl,hg0,hBX,hcur⟩:=hoP.box (by rw[HNP.out];exact hc1)
  have HCUR:=Lib.hid hcur
  have hb1:=hb0.trans (hbS.mono hb0.size)
  have ho1:OwnVS w1 w.heap.size (.slice (some ⟨w.heap.size,0,none⟩) 0 0) []:=Zam ho0 hbS fun k hk=>(ho0.lt k hk).2
  have hn9:np≤1000000001:=by rw[HNP.out];exact hc9
  clear hbS ho0 hb0 hoP hcur
  go_wp2_with fail
  go_loopw [4,6] (fun v i wr=>∃(k:Nat) (S:List Stn),k≤np∧k≤9∧i= .int .i64 k∧Hid (S.length=k)∧Hid (∀i (h:i<(P.take 9).length) (h':i<S.length),rawS (P.take 9)[i]=some S[i])∧OwnVS wr w.heap.size v S∧Box wr g cur 9∧Below w.heap.size w wr) (fun _ i _=>np-(intOf i).toNat)
  case atStart=>exact⟨0,[],Nat.zero_le _,Nat.zero_le _,rfl,Lib.hid rfl,Lib.hid (fun i _ h=>absurd h (by simp)),ho1,hBX,hb1⟩
  case round=>
   clear ho1 hBX hb1
   obtain⟨k,S,hk,hk9,rfl,HL,HF,ho,hBX,hb⟩:=hrel
   have hz:=hb.size
   by_cases hlt:k<np
   ·by_cases h8:k≤8
    ·have h8i:(k:Int)≤8:=by omega
     have hkP:k<P.length:=by rw[←HNP.out];exact hlt
     have hc:=hBX.cell (HCUR.out k hkP)
     have hpz:=HSZ.out _ (List.getElem_mem hkP)
     obtain⟨h9,e9⟩:=Z9f hkP h8
     have HBK:=Lib.hid (HBAD.out k h9)
     have HSN:=Lib.hid (fun x=>Zaeh (x:=x) HL.out h9 HF.out)
     rw[e9]at HBK HSN
     have HCP:=Lib.hid (fun c=>Zho P[k] 58 58 rfl c hpz)
     have HR4:=Lib.hid (fun f0 f1 f2 f3=>Zacb (p:=P[k]) (f0:=f0) (f1:=f1) (f2:=f2) (f3:=f3))
     have HRL:=Lib.hid (Zafw (p:=P[k]))
     have hfz:=Zii (c:=58) hpz
     have hfc:(cutT 58 P[k]).length≤1000000001:=by have:=Zgl (c:=58) (s:=P[k]);omega
     clear h9 e9
     go_wp2_with fail
     refine(HCP.out _).mono ?_;rintro e w2 ⟨af,nf,cf,rfl,hoF,hb2⟩
     have HNF:=Lib.hid hoF.1
     have hnf9:nf≤1000000001:=by rw[HNF.out];exact hfc
     have hBX2:=hBX.below hb2 hBX.lt
     have hb3:=hb.trans (hb2.mono hb.size)
     have hz3:=hb3.size
     have ho2:OwnVS w2 w.heap.size _ S:=Zam ho hb2 fun k hk=>(ho.lt k hk).2
     clear hBX ho hb hb2 hc
     by_cases h4:nf=4
     ·obtain⟨f0,f1,f2,f3,hf⟩:=Zaai (show(cutT 58 P[k]).length=4 by rw[←HNF.out];exact h4)
      have hn4:((nf:Int) != 4)=false:=by rw[h4];rfl
      have HX:=Lib.hid (HR4.out f0 f1 f2 f3 hf)
      rw[hf]at hoF hfz
      obtain⟨fb,fc,rfl,hfb,hBF,hfcur⟩:=hoF.box (by omega)
      have d0:=hBF.cell (hfcur 0 (by simp))
      have d1:=hBF.cell (hfcur 1 (by simp))
      have d2:=hBF.cell (hfcur 2 (by simp))
      have d3:=hBF.cell (hfcur 3 (by simp))
      simp only[List.getElem_cons_zero,List.getElem_cons_succ]at d0 d1 d2 d3
      have z2:=hfz f2 (by simp)
      have z3:=hfz f3 (by simp)
      have HFC:=Lib.hid hfcur
      have hnf1:3<nf:=by omega
      have hnf0:0<nf:=by omega
      have hnf2:1<nf:=by omega
      have hnf3:(1:Int)<(nf:Int):=by omega
      have hnf4:(0:Int)<(nf:Int):=by omega
      have hnf5:¬nf=0:=by omega
      clear hf h4 hoF hfz hfcur
      go_wp2_with fail
      refine(Zlk f2 _ (by omega)).mono ?_;rintro e w' ⟨rfl,rfl⟩
      go_wp2_with fail
      refine(Zlk f3 _ (by omega)).mono ?_;rintro e w' ⟨rfl,rfl⟩
      generalize (numT f2).getD 0=gn at*
      generalize (numT f2).isSome=gb at*
      generalize (numT f3).getD 0=ln at*
      generalize (numT f3).isSome=lb at*
      have HS2:=Lib.hid (HSN.out ⟨f0,Zar f1,gn,ln⟩ HX.out)
      have C0:w2.drew.cell? ⟨fb,0,none⟩=some (.string f0)∧w2.drew.cell? ⟨fb,1,none⟩=some (.string f1):=⟨d0,d1⟩
      have hWO:Below w2.heap.size w2 (w2.alloc (.cells #[.string f0,.string (Zar f1),.int .i64 gn,.int .i64 ln] 37)):=(Below.refl _ _).alloc (Nat.le_refl _) _
      have hBFA:Box (w2.alloc (.cells #[.string f0,.string (Zar f1),.int .i64 gn,.int .i64 ln] 37)).drew fb fc 9:=hBF.alloc (.cells #[.string f0,.string (Zar f1),.int .i64 gn,.int .i64 ln] 37)
      have CA:(w2.alloc (.cells #[.string f0,.string (Zar f1),.int .i64 gn,.int .i64 ln] 37)).drew.cell? ⟨fb,0,none⟩=some (.string f0)∧(w2.alloc (.cells #[.string f0,.string (Zar f1),.int .i64 gn,.int .i64 ln] 37)).drew.cell? ⟨fb,1,none⟩=some (.string f1):=⟨(hWO.cell (Zaa d0)).trans d0,(hWO.cell (Zaa d1)).trans d1⟩
      have hownA:OwnVS (w2.alloc (.cells #[.string f0,.string (Zar f1),.int .i64 gn,.int .i64 ln] 37)).drew w.heap.size _ S:=World.ownsRow.alloc ho2 (.cells #[.string f0,.string (Zar f1),.int .i64 gn,.int .i64 ln] 37)
      have hrx:RdS (w2.alloc (.cells #[.string f0,.string (Zar f1),.int .i64 gn,.int .i64 ln] 37)).drew (some ⟨w2.heap.size,0,none⟩) 1 [⟨f0,Zar f1,gn,ln⟩]:=Zq6 w2 ⟨f0,Zar f1,gn,ln⟩ 37
      have hzA:w.heap.size≤(w2.alloc (.cells #[.string f0,.string (Zar f1),.int .i64 gn,.int .i64 ln] 37)).drew.heap.size:=Nat.le_trans hz3 hWO.size
      have hBXA:Box (w2.alloc (.cells #[.string f0,.string (Zar f1),.int .i64 gn,.int .i64 ln] 37)).drew g cur 9:=hBX2.alloc (.cells #[.string f0,.string (Zar f1),.int .i64 gn,.int .i64 ln] 37)
      have hbA:Below w.heap.size w (w2.alloc (.cells #[.string f0,.string (Zar f1),.int .i64 gn,.int .i64 ln] 37)).drew:=hb3.trans ((Below.drew hWO).mono hz3)
      have hSl:S.length≤9:=by have:=HL.out;omega
      go_wp2_with fail
      go_region_held3 (fun w'=>w'.cell? ⟨fb,0,none⟩=some (.string f0)∧w'.cell? ⟨fb,1,none⟩=some (.string f1)) (first|with_reducible exact C0|with_reducible exact CA|with_reducible exact C3) (first|(go_at_call 217;refine(Zkk _ _).mono ?_;rintro e w' ⟨rfl,rfl⟩)|(refine Zh7 (w2.alloc (.cells #[.string f0,.string (Zar f1),.int .i64 gn,.int .i64 ln] 37)).drew rfl (.tmp 51) (.tmp 62) rfl w.heap.size _ S [⟨f0,Zar f1,gn,ln⟩] _ 1 1 rfl (by exact hownA) rfl (by exact hrx) (by intro e;cases e) (by omega) (by exact hzA) ?_;intro v' w5 ho5 hg5 hb6;have hBF5:=hBFA.grown hg5 (Zzy hownA hBFA (by decide));have hBX5:=hBXA.grown hg5 (Zzy hownA hBXA (by decide));have C3:w5.cell? ⟨fb,0,none⟩=some (.string f0)∧w5.cell? ⟨fb,1,none⟩=some (.string f1):=⟨hBF5.cell (HFC.out 0 (by simp)),hBF5.cell (HFC.out 1 (by simp))⟩))
      all_goals
       have hb7:=hbA.trans hb6
       have HLS:=Lib.hid (show(S++[(⟨f0,Zar f1,gn,ln⟩:Stn)]).length=k+1 by rw[List.length_append,HL.out];rfl)
       go_wp2_with fail
       go_roundw
       case rel=>exact⟨k+1,S++[⟨f0,Zar f1,gn,ln⟩],by omega,by omega,by go_num,HLS,HS2,ho5,hBX5,hb7⟩
       case measure=>simp[intOf];omega
     ·have hn4:((nf:Int) != 4)=true:=by rw[bne_iff_ne];omega
      have hr:=Lib.hid (HBK.out (HRL.out (by rw[←HNF.out];exact h4)))
      clear h4
      go_wp2_with fail
      go_ret2
      exact Zb2 (OwnVS.mono (OwnVS.made0 w2 (Nat.le_refl _)) hb3.size) (by simp) (by rw[hr.out];rfl) (by rw[hr.out];rfl) (hb3.alloc hb3.size _)
    ·have h8i:¬(k:Int)≤8:=by omega
     have hbs:=ho.own (by have:=HL.out;omega)
     obtain⟨a2,n2,c2,hv,ho2⟩:=hbs
     subst hv
     have HA:=Lib.hid (HALL.out S (by rw[HL.out,List.length_take,←HNP.out];omega) HF.out)
     have hm2:∀i (h:i<S.length),(S[i]'h).nm.size≤1099511627776∧(S[i]'h).ph.size≤1099511627776:=fun i h=>by
      have hip:i<(P.take 9).length:=by rw[List.length_take,←HNP.out];have:=HL.out;omega
      have h1:=Zzf (HF.out i hip h)
      have h2:=HSZ.out _ (List.mem_of_mem_take (List.getElem_mem hip))
      omega
     go_wp2_with fail
     refine(Zf6 ho2.rd hm2).mono ?_;rintro e w3 ⟨rfl,hb3⟩
     have ho3:=ho2.below hb3
     have hb4:=hb.trans (hb3.mono hb.size)
     by_cases he:bts (fmtT S)=bts t
     ·have hr:=Lib.hid (HA.out.trans (if_pos he))
      have hne:((fmtT S).toList != t.toList)=false:=by rw[Zck,Zck,he];simp
      have heq:((fmtT S).toList==t.toList)=true:=by rw[Zck,Zck,he];simp
      clear he
      go_wp2_with fail
      go_ret2
      exact retSB_some' hr.out ho3 hb4
     ·have hr:=Lib.hid (HA.out.trans (if_neg he))
      have hne:((fmtT S).toList != t.toList)=true:=by rw[Zck,Zck,bne_iff_ne];exact he
      have heq:((fmtT S).toList==t.toList)=false:=by rw[Zck,Zck,beq_eq_false_iff_ne];exact he
      clear he
      go_wp2_with fail
      go_ret2
      exact Zb2 (OwnVS.mono (OwnVS.made0 w3 (Nat.le_refl _)) hb4.size) (by simp) (by rw[hr.out];rfl) (by rw[hr.out];rfl) (hb4.alloc hb4.size _)
   ·obtain rfl:k=np:=by omega
    have hbs:=ho.own (by have:=HL.out;omega)
    obtain⟨a2,n2,c2,hv,ho2⟩:=hbs
    subst hv
    have HA:=Lib.hid (HALL.out S (by rw[HL.out,List.length_take,←HNP.out];omega) HF.out)
    have hm2:∀i (h:i<S.length),(S[i]'h).nm.size≤1099511627776∧(S[i]'h).ph.size≤1099511627776:=fun i h=>by
     have hip:i<(P.take 9).length:=by rw[List.length_take,←HNP.out];have:=HL.out;omega
     have h1:=Zzf (HF.out i hip h)
     have h2:=HSZ.out _ (List.mem_of_mem_take (List.getElem_mem hip))
     omega
    go_wp2_with fail
    refine(Zf6 ho2.rd hm2).mono ?_;rintro e w3 ⟨rfl,hb3⟩
    have ho3:=ho2.below hb3
    have hb4:=hb.trans (hb3.mono hb.size)
    by_cases he:bts (fmtT S)=bts t
    ·have hr:=Lib.hid (HA.out.trans (if_pos he))
     have hne:((fmtT S).toList != t.toList)=false:=by rw[Zck,Zck,he];simp
     have heq:((fmtT S).toList==t.toList)=true:=by rw[Zck,Zck,he];simp
     clear he
     go_wp2_with fail
     go_ret2
     exact retSB_some' hr.out ho3 hb4
    ·have hr:=Lib.hid (HA.out.trans (if_neg he))
     have hne:((fmtT S).toList != t.toList)=true:=by rw[Zck,Zck,bne_iff_ne];exact he
     have heq:((fmtT S).toList==t.toList)=false:=by rw[Zck,Zck,beq_eq_false_iff_ne];exact he
     clear he
     go_wp2_with fail
     go_ret2
     exact Zb2 (OwnVS.mono (OwnVS.made0 w3 (Nat.le_refl _)) hb4.size) (by simp) (by rw[hr.out];rfl) (by rw[hr.out];rfl) (hb4.alloc hb4.size _)
theorem Zaan {s t x:Int} (h:regB s t x=true):decT s++⟨#[32]⟩++decT t++⟨#[32]⟩++decT x=rgT s t x:=by unfold rgT;rw[if_pos h,rgT_is]
theorem Zagx {s t x:Int} (h:regB s t x=false):rgT s t x=⟨#[]⟩:=by unfold rgT;rw[h];rfl
theorem Zs7 {n:Int} (h:I64 n):(decT n).size≤21:=Zcl h.1 h.2
theorem reg3 {w:World} {b:Nat} {s t x:Int} (h:RegAt w b s t x):w.cell? ⟨b,0,none⟩=some (.int .i64 s)∧w.cell? ⟨b,1,none⟩=some (.int .i64 t)∧w.cell? ⟨b,2,none⟩=some (.int .i64 x):=⟨h.c0,h.c1,h.c2⟩
theorem Zb8 (s t x:Int) (w:World) (htab:TabW w):Calls Tryz.prog 29 #[.agg #[.int .i64 s,.int .i64 t,.int .i64 x]] w fun e w'=>e= .returned (.string (rgT s t x))∧Below w.heap.size w w':=by
 have hB0:Below w.heap.size w (w.alloc (.cells #[.int .i64 s,.int .i64 t,.int .i64 x] 46)):=(Below.refl _ _).alloc (Nat.le_refl _) _
 have hR0:=Za4 w s t x
 by_cases hr:regB s t x=true
 ·have hbd:=Zvd hr
  have HR:=Lib.hid (Zaan hr)
  have HV:=Lib.hid hr
  have hI1:I64 s:=⟨by omega,by omega⟩
  have hI2:I64 t:=⟨by omega,by omega⟩
  have hI3:I64 x:=⟨by omega,by omega⟩
  have z1:=Zs7 (n:=s) ⟨by omega,by omega⟩
  have z2:=Zs7 (n:=t) ⟨by omega,by omega⟩
  have z3:=Zs7 (n:=x) ⟨by omega,by omega⟩
  have n1:¬(decT s).size+1>9223372036854775807:=by omega
  have n1':¬9223372036854775807<(decT s).size+1:=by omega
  have n1'':¬9223372036854775807≤(decT s).size:=by omega
  have n2:¬(decT s).size+1+(decT t).size>9223372036854775807:=by omega
  have n2':¬9223372036854775807<(decT s).size+1+(decT t).size:=by omega
  have n3:¬(decT s).size+1+(decT t).size+1>9223372036854775807:=by omega
  have n3':¬9223372036854775807<(decT s).size+1+(decT t).size+1:=by omega
  have n3'':¬9223372036854775807≤(decT s).size+1+(decT t).size:=by omega
  have n4:¬(decT s).size+1+(decT t).size+1+(decT x).size>9223372036854775807:=by omega
  have n4':¬9223372036854775807<(decT s).size+1+(decT t).size+1+(decT x).size:=by omega
  clear hr hbd
  go_enter Tryz.func29,Tryz.ntmps29
  go_wp2_with fail
  refine(Zal s t x _).mono ?_;rintro e w1 ⟨rfl,hb1⟩
  rw[HV.out]
  have hR:RegAt w1.drew w.heap.size s t x:=hR0.below (Below.drew hb1) hR0.lt
  have hba:=Below.drew (hB0.trans (hb1.mono hB0.size))
  have hT:TabW w1.drew:=htab.below hba
  have C:=reg3 hR
  clear hR0 hB0 hb1 htab
  go_wp2_with fail
  go_region_held3 (fun w'=>w'.cell? ⟨w.heap.size,0,none⟩=some (.int .i64 s)∧w'.cell? ⟨w.heap.size,1,none⟩=some (.int .i64 t)∧w'.cell? ⟨w.heap.size,2,none⟩=some (.int .i64 x)) (first|with_reducible exact C) (first|(go_at_call 54;refine(Zob _ _ (by first|exact hI1|exact hI2|exact hI3) hT).mono ?_;rintro e w5 ⟨rfl,hb5⟩;have hT:=hT.below hb5;have hba:=hba.trans (hb5.mono hba.size);have hR:=hR.below hb5 hR.lt;have C:=reg3 hR))
  all_goals
   rw[HR.out]
   clear C hR
   go_wp2_with fail
   go_ret
   exact⟨rfl,hba⟩
 ·have hr':regB s t x=false:=by simpa using hr
  have HR:=Lib.hid (Zagx hr')
  have HV:=Lib.hid hr'
  clear hr hr'
  go_enter Tryz.func29,Tryz.ntmps29
  go_wp2_with fail
  refine(Zal s t x _).mono ?_;rintro e w1 ⟨rfl,hb1⟩
  rw[HV.out]
  have hba:=hB0.trans (hb1.mono hB0.size)
  go_wp2_with fail
  go_ret
  exact⟨by rw[HR.out];rfl,hba⟩
theorem Zc7 (s t x:Int) (w:World):Calls Tryz.prog 140 #[.agg #[.int .i64 s,.int .i64 t,.int .i64 x]] w fun e w'=>e= .returned (.string (rgT s t x))∧Below w.heap.size w w':=by
 have hB0:Below w.heap.size w (w.alloc (.cells #[.int .i64 s,.int .i64 t,.int .i64 x] 46)):=(Below.refl _ _).alloc (Nat.le_refl _) _
 have hR0:=Za4 w s t x
 by_cases hr:regB s t x=true
 ·have hbd:=Zvd hr
  have HR:=Lib.hid (Zaan hr)
  have HV:=Lib.hid hr
  have hI1:I63 s:=⟨by omega,by omega⟩
  have hI2:I63 t:=⟨by omega,by omega⟩
  have hI3:I63 x:=⟨by omega,by omega⟩
  have z1:=Zs7 (n:=s) ⟨by omega,by omega⟩
  have z2:=Zs7 (n:=t) ⟨by omega,by omega⟩
  have z3:=Zs7 (n:=x) ⟨by omega,by omega⟩
  have n1:¬(decT s).size+1>9223372036854775807:=by omega
  have n1':¬9223372036854775807<(decT s).size+1:=by omega
  have n1'':¬9223372036854775807≤(decT s).size:=by omega
  have n2:¬(decT s).size+1+(decT t).size>9223372036854775807:=by omega
  have n2':¬9223372036854775807<(decT s).size+1+(decT t).size:=by omega
  have n3:¬(decT s).size+1+(decT t).size+1>9223372036854775807:=by omega
  have n3':¬9223372036854775807<(decT s).size+1+(decT t).size+1:=by omega
  have n3'':¬9223372036854775807≤(decT s).size+1+(decT t).size:=by omega
  have n4:¬(decT s).size+1+(decT t).size+1+(decT x).size>9223372036854775807:=by omega
  have n4':¬9223372036854775807<(decT s).size+1+(decT t).size+1+(decT x).size:=by omega
  clear hr hbd
  go_enter Tryz.func140,Tryz.ntmps140
  go_wp2_with fail
  refine(Zao s t x _).mono ?_;rintro e w1 ⟨rfl,hb1⟩
  rw[HV.out]
  have hR:RegAt w1.drew w.heap.size s t x:=hR0.below (Below.drew hb1) hR0.lt
  have hba:=Below.drew (hB0.trans (hb1.mono hB0.size))
  have C:=reg3 hR
  clear hR0 hB0 hb1
  go_wp2_with fail
  go_region_held3 (fun w'=>w'.cell? ⟨w.heap.size,0,none⟩=some (.int .i64 s)∧w'.cell? ⟨w.heap.size,1,none⟩=some (.int .i64 t)∧w'.cell? ⟨w.heap.size,2,none⟩=some (.int .i64 x)) (first|with_reducible exact C) (first|(go_at_call 141;refine(Zq7 _ _ (by first|exact hI1|exact hI2|exact hI3)).mono ?_;rintro e w5 ⟨rfl,hb5⟩;have hba:=hba.trans (hb5.mono hba.size);have hR:=hR.below hb5 hR.lt;have C:=reg3 hR))
  all_goals
   rw[HR.out]
   clear C hR
   go_wp2_with fail
   go_ret
   exact⟨rfl,hba⟩
 ·have hr':regB s t x=false:=by simpa using hr
  have HR:=Lib.hid (Zagx hr')
  have HV:=Lib.hid hr'
  clear hr hr'
  go_enter Tryz.func140,Tryz.ntmps140
  go_wp2_with fail
  refine(Zao s t x _).mono ?_;rintro e w1 ⟨rfl,hb1⟩
  rw[HV.out]
  have hba:=hB0.trans (hb1.mono hB0.size)
  go_wp2_with fail
  go_ret
  exact⟨by rw[HR.out];rfl,hba⟩
end Go.Proofs.YtcjihfongfefoaaGreatDoor
