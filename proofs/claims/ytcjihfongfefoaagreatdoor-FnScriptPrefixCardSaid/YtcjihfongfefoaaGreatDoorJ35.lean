/- Yl -/
import Derived.Test.YtcjihfongfefoaaGreatDoorJ34
import Derived.Test.YtcjihfongfefoaaGreatDoorShlf
namespace Go.Proofs.YtcjihfongfefoaaGreatDoor
open Go.RowKit
set_option maxHeartbeats 25600000
set_option maxRecDepth 100000
theorem Zig {w w':World} (h:Qw w w'):Below w.heap.size w w':=h.below _
theorem Zyb {m:Mch} {l:ByteArray} (h:isF (Zf8 l) (Zi7 l).length=false):exec m l=(m,whatT):=by
 unfold exec
 unfold isF at h
 cases hk:wrd (Zf8 l)with
 |none=>rfl
 |some k=>
  rw[hk]at h
  simp only[]at h ⊢
  rw[if_neg (by rw[h];simp)]
theorem Zw8 {m:Mch} {l:ByteArray} {k:Nat} (hk:wrd (Zf8 l)=some k) (h:Zce k (Zi7 l).length=true):exec m l=(cmd m k (Zi7 l)).getD (m,noT):=by
 unfold exec
 rw[hk]
 simp only[]
 rw[if_pos h]
def RetX (w:World) (b:Nat) (r:Mch×ByteArray) (e:Ending) (w':World):Prop:=e= .returned (.string r.2)∧RadW w' b r.1∧w.grownBy w' (some b)
theorem Zxx {w:World} {b:Nat} {m:Mch} {line:ByteArray} (h:EnvW w b m) (hfo:FormsW w) (hl:line.size≤20000) (hr:Zfu line=none):
 Calls Tryz.prog 64 #[.pointer (some ⟨b,0,none⟩),.string line] w (RetX w b (exec m line)):=by
 have HR1:=Lib.hid (show(Zfu line).getD ⟨#[]⟩=⟨#[]⟩by rw[hr];rfl)
 have HR2:=Lib.hid (show(Zfu line).isSome=false by rw[hr];rfl)
 have hfl:Zi7 line=[]:=by unfold Zi7;rw[hr]
 have hx1:=fun(hF:isF (Zf8 line) 0=false)=>Zyb (m:=m) (l:=line) (by rw[hfl];exact hF)
 have hx2:=fun k (hk:wrd (Zf8 line)=some k) (hF:Zce k 0=true)=>Zw8 (m:=m) hk (by rw[hfl];exact hF)
 rw[hfl]at hx2
 obtain⟨wo,hwo⟩:∃wo,Zf8 line=wo:=⟨_,rfl⟩
 rw[hwo]at hx1 hx2
 have HWO:=Lib.hid hwo
 clear hwo hfl hr
 by_cases hF:isF wo 0=true
 ·obtain⟨k,hk,hform⟩:=Z2f hF
  obtain⟨hk28,hkb⟩:=Zhj hk
  have hle:leastL.getD k 0=0:=Nat.le_zero.1 (Zbp hform).1
  have hcs:k=0∨k=2∨k=14∨k=21∨k=27:=by
   have:∀j,j<28→leastL.getD j 0=0→j=0∨j=2∨j=14∨j=21∨j=27:=by decide
   exact this k hk28 hle
  obtain⟨R,hR⟩:∃R,cmd m k []=R:=⟨_,rfl⟩
  rw[hx2 k hk hform,hR]
  have HC:=Lib.hid hR
  have HFO:=Lib.hid hform
  have HKB:=Lib.hid hkb
  have HF:=Lib.hid hF
  clear hR hform hkb hF hk hx1 hx2 hle hk28
  go_enter Tryz.func64,Tryz.ntmps64
  go_wp2_with fail
  refine(Zad9 line _ h.mx (by omega)).mono ?_;rintro e w1 ⟨rfl,hq1⟩
  rw[HWO.out,HR1.out,HR2.out]
  have hb1:=Zig hq1
  have hbA:=hb1.alloc hb1.size (.cells #[] 9)
  have hfA:=hfo.below hbA
  have hRA:RdT (w1.alloc (.cells #[] 9)) (some ⟨w1.heap.size,0,none⟩) 0 []:=⟨rfl,by omega,fun i hi=>by cases hi⟩
  clear hb1 hq1
  go_wp2_with fail
  refine(Zo5 wo 0 _ hfA).mono ?_;rintro e w3 ⟨rfl,hb3⟩
  rw[HF.out]
  have hbE:=hbA.trans (hb3.mono hbA.size)
  have h3:=h.below hbE
  have hFl:Flds w3 w1.heap.size 0 0 []:=⟨hRA.below hb3,Nat.le_refl _,(fun p hp=>by cases hp),by omega⟩
  clear hbA hfA hRA hb3
  rcases hcs with rfl|rfl|rfl|rfl|rfl
  all_goals (first
   |(have e0:wo=(⟨#[114,101,103,105,115,116,101,114]⟩:ByteArray):=Zae HKB.out;subst e0;go_wp2_with fail;refine(Zom h3 hFl HFO.out).mono ?_)
   |(have e0:wo=(⟨#[112,101,114,105,111,100]⟩:ByteArray):=Zae HKB.out;subst e0;go_wp2_with fail;refine(Z5y h3 hFl HFO.out).mono ?_)
   |(have e0:wo=(⟨#[115,105,103,110,97,108]⟩:ByteArray):=Zae HKB.out;subst e0;go_wp2_with fail;refine(Z60 h3 hFl HFO.out).mono ?_)
   |(have e0:wo=(⟨#[99,101,108,108]⟩:ByteArray):=Zae HKB.out;subst e0;go_wp2_with fail;refine(Z10 h3 hFl HFO.out).mono ?_)
   |(have e0:wo=(⟨#[102,111,114,103,101,116]⟩:ByteArray):=Zae HKB.out;subst e0;go_wp2_with fail;refine(Z56 h3 hFl HFO.out).mono ?_))
  all_goals
   intro e w4 hret
   rcases R with _|⟨m',o'⟩
   ·obtain⟨o,rfl,hr4,hg4⟩:=hret.none HC.out
    go_wp2_with fail
    go_ret
    exact⟨rfl,hr4,Zel (Zad hbE _) hg4⟩
   ·obtain⟨rfl,hr4,hg4⟩:=hret.some HC.out
    go_wp2_with fail
    go_ret
    exact⟨rfl,hr4,Zel (Zad hbE _) hg4⟩
 ·have hF':isF wo 0=false:=by simpa using hF
  rw[hx1 hF']
  have HF:=Lib.hid hF'
  clear hF hF' hx1 hx2
  go_enter Tryz.func64,Tryz.ntmps64
  go_wp2_with fail
  refine(Zad9 line _ h.mx (by omega)).mono ?_;rintro e w1 ⟨rfl,hq1⟩
  rw[HWO.out,HR1.out,HR2.out]
  have hb1:=Zig hq1
  have hbA:=hb1.alloc hb1.size (.cells #[] 9)
  have hfA:=hfo.below hbA
  clear hb1 hq1
  go_wp2_with fail
  refine(Zo5 wo 0 _ hfA).mono ?_;rintro e w3 ⟨rfl,hb3⟩
  rw[HF.out]
  have hbE:=hbA.trans (hb3.mono hbA.size)
  go_wp2_with fail
  go_ret
  exact⟨rfl,h.rad.below hbE,Zad hbE _⟩
theorem Zyi {w:World} {b:Nat} {m:Mch} {line r:ByteArray} (h:EnvW w b m) (hfo:FormsW w) (hl:line.size≤20000) (hr:Zfu line=some r):
 Calls Tryz.prog 64 #[.pointer (some ⟨b,0,none⟩),.string line] w (RetX w b (exec m line)):=by
 have HR1:=Lib.hid (show(Zfu line).getD ⟨#[]⟩=r by rw[hr];rfl)
 have HR2:=Lib.hid (show(Zfu line).isSome=true by rw[hr];rfl)
 have hrz:r.size≤20000:=Nat.le_trans (Zabn hr) hl
 have hfl:Zi7 line=cutT 32 r:=by unfold Zi7;rw[hr]
 have hx1:=fun(hF:isF (Zf8 line) (cutT 32 r).length=false)=>Zyb (m:=m) (l:=line) (by rw[hfl];exact hF)
 have hx2:=fun k (hk:wrd (Zf8 line)=some k) (hF:Zce k (cutT 32 r).length=true)=>Zw8 (m:=m) hk (by rw[hfl];exact hF)
 rw[hfl]at hx2
 have hsz:∀p∈cutT 32 r,p.size≤20000:=fun p hp=>Nat.le_trans (Zdk hp) hrz
 have hln:(cutT 32 r).length≤20001∧1≤(cutT 32 r).length:=by
  have h1:=Zf5 32 r
  have h2:=List.count_le_length (a:=(32:UInt8)) (l:=bts r)
  rw[Zbz]at h2
  omega
 have HSP:=Lib.hid (fun w (hm:MaxW w)=>Zlp r 32 w hm (by omega))
 obtain⟨wo,hwo⟩:∃wo,Zf8 line=wo:=⟨_,rfl⟩
 obtain⟨fs,hfs⟩:∃fs,cutT 32 r=fs:=⟨_,rfl⟩
 rw[hwo,hfs]at hx1 hx2
 rw[hfs]at hsz hln HSP
 have HWO:=Lib.hid hwo
 obtain⟨n,hn⟩:∃n,fs.length=n:=⟨_,rfl⟩
 rw[hn]at hx1 hx2 hln HSP
 have HN:=Lib.hid hn
 have HSZ:=Lib.hid hsz
 clear hwo hfl hr hfs hsz hn
 obtain⟨hln1,hln2⟩:=hln
 by_cases hF:isF wo n=true
 ·obtain⟨k,hk,hform⟩:=Z2f hF
  obtain⟨hk28,hkb⟩:=Zhj hk
  have hle:¬mostL.getD k 0=0:=fun e=>by have:=(Zbp hform).2;omega
  have hcs:k=0∨k=1∨k=3∨k=4∨k=5∨k=6∨k=7∨k=8∨k=9∨k=10∨k=11∨k=12∨k=13∨k=15∨k=16∨k=17∨k=18∨k=19∨k=20∨k=21∨k=22∨k=23∨k=24∨k=25∨k=26:=by
   have e1:k≠2:=fun e=>hle (by rw[e];rfl)
   have e2:k≠14:=fun e=>hle (by rw[e];rfl)
   have e3:k≠27:=fun e=>hle (by rw[e];rfl)
   omega
  obtain⟨R,hR⟩:∃R,cmd m k fs=R:=⟨_,rfl⟩
  rw[hx2 k hk hform,hR]
  have HC:=Lib.hid hR
  have HFO:=Lib.hid hform
  have HKB:=Lib.hid hkb
  have HF:=Lib.hid hF
  clear hR hform hkb hF hk hx1 hx2 hle hk28
  go_enter Tryz.func64,Tryz.ntmps64
  go_wp2_with fail
  refine(Zad9 line _ h.mx (by omega)).mono ?_;rintro e w1 ⟨rfl,hq1⟩
  rw[HWO.out,HR1.out,HR2.out]
  have hb1:=Zig hq1
  have hbB:=hb1.alloc hb1.size (.cells #[] 9)
  have hm1:=h.mx.below hbB
  clear hq1 hb1
  go_wp2_with fail
  generalize w1.alloc (.cells #[] 9)=wB at*
  refine(HSP.out _ hm1).mono ?_;rintro e w2 ⟨rfl,rfl⟩
  have hbA:=hbB.alloc hbB.size (.cells (fs.map Value.string).toArray 9)
  have hfA:=hfo.below hbA
  have hRA:=Z9t wB fs 9 (by rw[HN.out];omega)
  rw[HN.out]at hRA
  clear hbB hm1
  generalize wB.alloc (.cells (fs.map Value.string).toArray 9)=wA at*
  generalize wB.heap.size=g at*
  go_wp2_with fail
  refine(Zo5 wo n _ hfA).mono ?_;rintro e w3 ⟨rfl,hb3⟩
  rw[HF.out]
  have hbE:=hbA.trans (hb3.mono hbA.size)
  have h3:=h.below hbE
  have hFl:Flds w3 g n n fs:=⟨hRA.below hb3,Nat.le_refl _,HSZ.out,hln1⟩
  clear hbA hfA hRA hb3
  rcases hcs with rfl|rfl|rfl|rfl|rfl|rfl|rfl|rfl|rfl|rfl|rfl|rfl|rfl|rfl|rfl|rfl|rfl|rfl|rfl|rfl|rfl|rfl|rfl|rfl|rfl
  all_goals (first
   |(have e0:wo=(⟨#[114,101,103,105,115,116,101,114]⟩:ByteArray):=Zae HKB.out;subst e0;go_wp2_with fail;refine(Zom h3 hFl HFO.out).mono ?_)
   |(have e0:wo=(⟨#[106,117,109,112]⟩:ByteArray):=Zae HKB.out;subst e0;go_wp2_with fail;refine(Zagr h3 hFl HFO.out).mono ?_)
   |(have e0:wo=(⟨#[98,105,116,115]⟩:ByteArray):=Zae HKB.out;subst e0;go_wp2_with fail;refine(Zagj h3 hFl HFO.out).mono ?_)
   |(have e0:wo=(⟨#[104,111,112,115]⟩:ByteArray):=Zae HKB.out;subst e0;go_wp2_with fail;refine(Zafy h3 hFl HFO.out).mono ?_)
   |(have e0:wo=(⟨#[115,104,111,114,116,101,115,116]⟩:ByteArray):=Zae HKB.out;subst e0;go_wp2_with fail;refine(Zxu h3 hFl HFO.out).mono ?_)
   |(have e0:wo=(⟨#[109,97,120,105,109,97,108]⟩:ByteArray):=Zae HKB.out;subst e0;go_wp2_with fail;refine(Zzq h3 hFl HFO.out).mono ?_)
   |(have e0:wo=(⟨#[99,114,111,115,115]⟩:ByteArray):=Zae HKB.out;subst e0;go_wp2_with fail;refine(Zabt h3 hFl HFO.out).mono ?_)
   |(have e0:wo=(⟨#[112,101,97,107]⟩:ByteArray):=Zae HKB.out;subst e0;go_wp2_with fail;refine(Zagc h3 hFl HFO.out).mono ?_)
   |(have e0:wo=(⟨#[103,111,108,100]⟩:ByteArray):=Zae HKB.out;subst e0;go_wp2_with fail;refine(Zaf4 h3 hFl HFO.out).mono ?_)
   |(have e0:wo=(⟨#[119,97,108,115,104]⟩:ByteArray):=Zae HKB.out;subst e0;go_wp2_with fail;refine(Z97 h3 hFl HFO.out).mono ?_)
   |(have e0:wo=(⟨#[116,114,101,101]⟩:ByteArray):=Zae HKB.out;subst e0;go_wp2_with fail;refine(Zael h3 hFl HFO.out).mono ?_)
   |(have e0:wo=(⟨#[115,112,114,101,97,100]⟩:ByteArray):=Zae HKB.out;subst e0;go_wp2_with fail;refine(Z5j h3 hFl HFO.out).mono ?_)
   |(have e0:wo=(⟨#[103,97,105,110]⟩:ByteArray):=Zae HKB.out;subst e0;go_wp2_with fail;refine(Zafr h3 hFl HFO.out).mono ?_)
   |(have e0:wo=(⟨#[100,101,115,112,114,101,97,100]⟩:ByteArray):=Zae HKB.out;subst e0;go_wp2_with fail;refine(Zxo h3 hFl HFO.out).mono ?_)
   |(have e0:wo=(⟨#[114,101,99,101,105,118,101]⟩:ByteArray):=Zae HKB.out;subst e0;go_wp2_with fail;refine(Z1g h3 hFl HFO.out).mono ?_)
   |(have e0:wo=(⟨#[102,114,97,109,101]⟩:ByteArray):=Zae HKB.out;subst e0;go_wp2_with fail;refine(Zaaq h3 hFl HFO.out).mono ?_)
   |(have e0:wo=(⟨#[102,105,110,100]⟩:ByteArray):=Zae HKB.out;subst e0;go_wp2_with fail;refine(Zaei h3 hFl HFO.out).mono ?_)
   |(have e0:wo=(⟨#[112,114,111,116,101,99,116]⟩:ByteArray):=Zae HKB.out;subst e0;go_wp2_with fail;refine(Zz4 h3 hFl HFO.out).mono ?_)
   |(have e0:wo=(⟨#[111,112,101,110]⟩:ByteArray):=Zae HKB.out;subst e0;go_wp2_with fail;refine(Zafk h3 hFl HFO.out).mono ?_)
   |(have e0:wo=(⟨#[99,101,108,108]⟩:ByteArray):=Zae HKB.out;subst e0;go_wp2_with fail;refine(Z10 h3 hFl HFO.out).mono ?_)
   |(have e0:wo=(⟨#[97,100,109,105,116]⟩:ByteArray):=Zae HKB.out;subst e0;go_wp2_with fail;refine(Z8n h3 hFl HFO.out).mono ?_)
   |(have e0:wo=(⟨#[114,101,108,101,97,115,101]⟩:ByteArray):=Zae HKB.out;subst e0;go_wp2_with fail;refine(Zzw h3 hFl HFO.out).mono ?_)
   |(have e0:wo=(⟨#[112,111,119,101,114]⟩:ByteArray):=Zae HKB.out;subst e0;go_wp2_with fail;refine(Zacy h3 hFl HFO.out).mono ?_)
   |(have e0:wo=(⟨#[115,101,110,100]⟩:ByteArray):=Zae HKB.out;subst e0;go_wp2_with fail;refine(Zaf6 h3 hFl HFO.out).mono ?_)
   |(have e0:wo=(⟨#[104,101,97,114]⟩:ByteArray):=Zae HKB.out;subst e0;go_wp2_with fail;refine(Zafx h3 hFl HFO.out).mono ?_))
  all_goals
   intro e w4 hret
   rcases R with _|⟨m',o'⟩
   ·obtain⟨o,rfl,hr4,hg4⟩:=hret.none HC.out
    go_wp2_with fail
    go_ret
    exact⟨rfl,hr4,Zel (Zad hbE _) hg4⟩
   ·obtain⟨rfl,hr4,hg4⟩:=hret.some HC.out
    go_wp2_with fail
    go_ret
    exact⟨rfl,hr4,Zel (Zad hbE _) hg4⟩
 ·have hF':isF wo n=false:=by simpa using hF
  rw[hx1 hF']
  have HF:=Lib.hid hF'
  clear hF hF' hx1 hx2
  go_enter Tryz.func64,Tryz.ntmps64
  go_wp2_with fail
  refine(Zad9 line _ h.mx (by omega)).mono ?_;rintro e w1 ⟨rfl,hq1⟩
  rw[HWO.out,HR1.out,HR2.out]
  have hb1:=Zig hq1
  have hbB:=hb1.alloc hb1.size (.cells #[] 9)
  have hm1:=h.mx.below hbB
  clear hq1 hb1
  go_wp2_with fail
  generalize w1.alloc (.cells #[] 9)=wB at*
  refine(HSP.out _ hm1).mono ?_;rintro e w2 ⟨rfl,rfl⟩
  have hbA:=hbB.alloc hbB.size (.cells (fs.map Value.string).toArray 9)
  have hfA:=hfo.below hbA
  clear hbB hm1
  generalize wB.alloc (.cells (fs.map Value.string).toArray 9)=wA at*
  generalize wB.heap.size=g at*
  go_wp2_with fail
  refine(Zo5 wo n _ hfA).mono ?_;rintro e w3 ⟨rfl,hb3⟩
  rw[HF.out]
  have hbE:=hbA.trans (hb3.mono hbA.size)
  go_wp2_with fail
  go_ret
  exact⟨rfl,h.rad.below hbE,Zad hbE _⟩
theorem Zab8 {w:World} {b:Nat} {m:Mch} {line:ByteArray} (h:EnvW w b m) (hfo:FormsW w) (hl:line.size≤20000):
 Calls Tryz.prog 64 #[.pointer (some ⟨b,0,none⟩),.string line] w (RetX w b (exec m line)):=by
 rcases hr:Zfu line with _|r
 ·exact Zxx h hfo hl hr
 ·exact Zyi h hfo hl hr
end Go.Proofs.YtcjihfongfefoaaGreatDoor
