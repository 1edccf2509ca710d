/- Yk -/
import Derived.Test.YtcjihfongfefoaaGreatDoorJ31
import Derived.Test.YtcjihfongfefoaaGreatDoorJ32
import Derived.Test.YtcjihfongfefoaaGreatDoorJ33
import Derived.Test.YtcjihfongfefoaaGreatDoorShlf
namespace Go.Proofs.YtcjihfongfefoaaGreatDoor
open Go.RowKit
theorem Zhj {wo:ByteArray} {k:Nat} (h:wrd wo=some k):k<28∧bts wo=lits.getD k []:=by
 unfold wrd at h
 rw[List.findIdx?_eq_some_iff_getElem]at h
 obtain⟨hk,h1,_⟩:=h
 rw[decide_eq_true_eq]at h1
 exact⟨hk,by rw[h1];simp[List.getD,hk]⟩
theorem Z2f {wo:ByteArray} {n:Nat} (h:isF wo n=true):∃k,wrd wo=some k∧Zce k n=true:=by
 unfold isF at h
 cases hk:wrd wo with
 |none=>rw[hk]at h;cases h
 |some k=>rw[hk]at h;exact⟨k,rfl,h⟩
theorem Zbp {k n:Nat} (h:Zce k n=true):leastL.getD k 0≤n∧n≤mostL.getD k 0:=by
 unfold Zce at h
 rw[Bool.and_eq_true,decide_eq_true_eq,decide_eq_true_eq]at h
 exact h
theorem RetM.none {w w':World} {b:Nat} {m:Mch} {r:Option (Mch×ByteArray)} {e:Ending} (h:RetM w b m r e w') (hr:r=none):∃o,e= .returned (.tuple #[.string o,.bool false])∧RadW w' b m∧w.grownBy w' (some b):=by
 subst hr;obtain⟨o,he,_,h2,h3⟩:=h;exact⟨o,he,h2,h3⟩
theorem RetM.some {w w':World} {b:Nat} {m m':Mch} {r:Option (Mch×ByteArray)} {o:ByteArray} {e:Ending} (h:RetM w b m r e w') (hr:r=some (m',o)):e= .returned (.tuple #[.string o,.bool true])∧RadW w' b m'∧w.grownBy w' (some b):=by
 subst hr;obtain⟨o',he,h1,h2,h3⟩:=h
 obtain rfl:=h1 _ rfl
 exact⟨he,h2,h3⟩
theorem Zkn {l:List ByteArray} (h:l.length=3):∃a b c,l=[a,b,c]:=by match l,h with|[a,b,c],_=>exact⟨a,b,c,rfl⟩
structure Flds (w:World) (g n c:Nat) (fs:List ByteArray):Prop where
 rd:RdT w (some ⟨g,0,none⟩) n fs
 cap:n≤c
 sz:∀p∈fs,p.size≤20000
 le:n≤20001
theorem Flds.len {w:World} {g n c:Nat} {fs:List ByteArray} (h:Flds w g n c fs):fs.length=n:=h.rd.1.symm
theorem Zom {w:World} {b g n c:Nat} {m:Mch} {fs:List ByteArray} (h:EnvW w b m) (hf:Flds w g n c fs) (hn:Zce 0 n=true):
 Calls Tryz.prog 135 #[.pointer (some ⟨b,0,none⟩),.string (⟨#[114,101,103,105,115,116,101,114]⟩:ByteArray),.slice (some ⟨g,0,none⟩) n c] w (RetM w b m (cmd m 0 fs)):=by
 have hl:=hf.len
 by_cases h0:n=0
 ·subst h0
  have e:cmd m 0 fs=some (m,rgT m.s m.t m.x):=if_pos hl
  rw[e]
  exact Z6z h
 ·have e:cmd m 0 fs=_:=if_neg (show ¬fs.length=0 by omega)
  rw[e]
  exact Zabg h hf.rd hf.cap hf.le (by omega) hf.sz
theorem Zagr {w:World} {b g n c:Nat} {m:Mch} {fs:List ByteArray} (h:EnvW w b m) (hf:Flds w g n c fs) (hn:Zce 1 n=true):
 Calls Tryz.prog 135 #[.pointer (some ⟨b,0,none⟩),.string (⟨#[106,117,109,112]⟩:ByteArray),.slice (some ⟨g,0,none⟩) n c] w (RetM w b m (cmd m 1 fs)):=by
 have hb:=Zbp hn
 obtain rfl:n=1:=Nat.le_antisymm hb.2 hb.1
 obtain⟨a,rfl⟩:=Zeq hf.len
 exact Z6t h hf.rd hf.sz
theorem Z5y {w:World} {b g n c:Nat} {m:Mch} {fs:List ByteArray} (h:EnvW w b m) (hf:Flds w g n c fs) (hn:Zce 2 n=true):
 Calls Tryz.prog 135 #[.pointer (some ⟨b,0,none⟩),.string (⟨#[112,101,114,105,111,100]⟩:ByteArray),.slice (some ⟨g,0,none⟩) n c] w (RetM w b m (cmd m 2 fs)):=by
 have hb:=Zbp hn
 obtain rfl:n=0:=Nat.le_antisymm hb.2 hb.1
 exact Zx2 h
theorem Zagj {w:World} {b g n c:Nat} {m:Mch} {fs:List ByteArray} (h:EnvW w b m) (hf:Flds w g n c fs) (hn:Zce 3 n=true):
 Calls Tryz.prog 135 #[.pointer (some ⟨b,0,none⟩),.string (⟨#[98,105,116,115]⟩:ByteArray),.slice (some ⟨g,0,none⟩) n c] w (RetM w b m (cmd m 3 fs)):=by
 have hb:=Zbp hn
 obtain rfl:n=1:=Nat.le_antisymm hb.2 hb.1
 obtain⟨a,rfl⟩:=Zeq hf.len
 exact Z5w h hf.rd hf.sz
theorem Zafy {w:World} {b g n c:Nat} {m:Mch} {fs:List ByteArray} (h:EnvW w b m) (hf:Flds w g n c fs) (hn:Zce 4 n=true):
 Calls Tryz.prog 135 #[.pointer (some ⟨b,0,none⟩),.string (⟨#[104,111,112,115]⟩:ByteArray),.slice (some ⟨g,0,none⟩) n c] w (RetM w b m (cmd m 4 fs)):=by
 have hb:=Zbp hn
 obtain rfl:n=2:=Nat.le_antisymm hb.2 hb.1
 obtain⟨a,a2,rfl⟩:=Zf2 hf.len
 exact Z62 h hf.rd hf.sz
theorem Zxu {w:World} {b g n c:Nat} {m:Mch} {fs:List ByteArray} (h:EnvW w b m) (hf:Flds w g n c fs) (hn:Zce 5 n=true):
 Calls Tryz.prog 135 #[.pointer (some ⟨b,0,none⟩),.string (⟨#[115,104,111,114,116,101,115,116]⟩:ByteArray),.slice (some ⟨g,0,none⟩) n c] w (RetM w b m (cmd m 5 fs)):=by
 have hb:=Zbp hn
 obtain rfl:n=1:=Nat.le_antisymm hb.2 hb.1
 obtain⟨a,rfl⟩:=Zeq hf.len
 exact Zso h hf.rd
theorem Zzq {w:World} {b g n c:Nat} {m:Mch} {fs:List ByteArray} (h:EnvW w b m) (hf:Flds w g n c fs) (hn:Zce 6 n=true):
 Calls Tryz.prog 135 #[.pointer (some ⟨b,0,none⟩),.string (⟨#[109,97,120,105,109,97,108]⟩:ByteArray),.slice (some ⟨g,0,none⟩) n c] w (RetM w b m (cmd m 6 fs)):=by
 have hb:=Zbp hn
 obtain rfl:n=1:=Nat.le_antisymm hb.2 hb.1
 obtain⟨a,rfl⟩:=Zeq hf.len
 exact Zuy h hf.rd hf.sz
theorem Zabt {w:World} {b g n c:Nat} {m:Mch} {fs:List ByteArray} (h:EnvW w b m) (hf:Flds w g n c fs) (hn:Zce 7 n=true):
 Calls Tryz.prog 136 #[.string (⟨#[99,114,111,115,115]⟩:ByteArray),.slice (some ⟨g,0,none⟩) n c] w (RetM w b m (cmd m 7 fs)):=by
 have hb:=Zbp hn
 obtain rfl:n=3:=Nat.le_antisymm hb.2 hb.1
 obtain⟨a,a2,a3,rfl⟩:=Zkn hf.len
 refine(Zx9 h.tab hf.rd hf.sz).mono ?_
 intro e w' hret
 have:=hret.m h.rad
 have e2:cmd m 7 [a,a2,a3]=m.say ((numT a3).bind fun n=>(crsR a a2 n).map decT):=by show((numT a3).bind fun n=>m.say ((crsR a a2 n).map decT))=_;cases numT a3<;>rfl
 rw[e2]
 exact this
theorem Zagc {w:World} {b g n c:Nat} {m:Mch} {fs:List ByteArray} (h:EnvW w b m) (hf:Flds w g n c fs) (hn:Zce 8 n=true):
 Calls Tryz.prog 136 #[.string (⟨#[112,101,97,107]⟩:ByteArray),.slice (some ⟨g,0,none⟩) n c] w (RetM w b m (cmd m 8 fs)):=by
 have hb:=Zbp hn
 obtain rfl:n=2:=Nat.le_antisymm hb.2 hb.1
 obtain⟨a,a2,rfl⟩:=Zf2 hf.len
 refine(Z09 h.tab hf.rd).mono ?_
 intro e w' hret
 have:=hret.m h.rad
 have e2:cmd m 8 [a,a2]=m.say (if Zhz a a2<0 then none else some (decT (Zhz a a2))):=by show(if Zhz a a2<0 then none else some (m,decT (Zhz a a2)))=_;split<;>rfl
 rw[e2]
 exact this
theorem Zaf4 {w:World} {b g n c:Nat} {m:Mch} {fs:List ByteArray} (h:EnvW w b m) (hf:Flds w g n c fs) (hn:Zce 9 n=true):
 Calls Tryz.prog 136 #[.string (⟨#[103,111,108,100]⟩:ByteArray),.slice (some ⟨g,0,none⟩) n c] w (RetM w b m (cmd m 9 fs)):=by
 have hb:=Zbp hn
 obtain rfl:n=4:=Nat.le_antisymm hb.2 hb.1
 obtain⟨a,a2,a3,a4,rfl⟩:=Z42 hf.len
 refine(Z0v hf.rd hf.sz).mono ?_
 intro e w' hret
 have:=hret.m h.rad
 have e2:cmd m 9 [a,a2,a3,a4]=m.say ((numT a).bind fun p=>(numT a2).bind fun q=>(numT a3).bind fun r=>(numT a4).bind fun s=>Zgo p q r s):=by
  show((numT a).bind fun p=>(numT a2).bind fun q=>(numT a3).bind fun r=>(numT a4).bind fun s=>m.say (Zgo p q r s))=_
  cases numT a<;>cases numT a2<;>cases numT a3<;>cases numT a4<;>rfl
 rw[e2]
 exact this
theorem Z97 {w:World} {b g n c:Nat} {m:Mch} {fs:List ByteArray} (h:EnvW w b m) (hf:Flds w g n c fs) (hn:Zce 10 n=true):
 Calls Tryz.prog 136 #[.string (⟨#[119,97,108,115,104]⟩:ByteArray),.slice (some ⟨g,0,none⟩) n c] w (RetM w b m (cmd m 10 fs)):=by
 have hb:=Zbp hn
 obtain rfl:n=2:=Nat.le_antisymm hb.2 hb.1
 obtain⟨a,a2,rfl⟩:=Zf2 hf.len
 refine(Zy7 hf.rd hf.sz).mono ?_
 intro e w' hret
 have:=hret.m h.rad
 have e2:cmd m 10 [a,a2]=m.say ((numT a).bind fun p=>(numT a2).bind fun q=>walR p q):=by
  show((numT a).bind fun p=>(numT a2).bind fun q=>m.say (walR p q))=_
  cases numT a<;>cases numT a2<;>rfl
 rw[e2]
 exact this
theorem Zael {w:World} {b g n c:Nat} {m:Mch} {fs:List ByteArray} (h:EnvW w b m) (hf:Flds w g n c fs) (hn:Zce 11 n=true):
 Calls Tryz.prog 136 #[.string (⟨#[116,114,101,101]⟩:ByteArray),.slice (some ⟨g,0,none⟩) n c] w (RetM w b m (cmd m 11 fs)):=by
 have hb:=Zbp hn
 obtain rfl:n=1:=Nat.le_antisymm hb.2 hb.1
 obtain⟨a,rfl⟩:=Zeq hf.len
 refine(Z1o hf.rd).mono ?_
 intro e w' hret
 have:=hret.m h.rad
 exact this
theorem Z5j {w:World} {b g n c:Nat} {m:Mch} {fs:List ByteArray} (h:EnvW w b m) (hf:Flds w g n c fs) (hn:Zce 12 n=true):
 Calls Tryz.prog 137 #[.pointer (some ⟨b,0,none⟩),.string (⟨#[115,112,114,101,97,100]⟩:ByteArray),.slice (some ⟨g,0,none⟩) n c] w (RetM w b m (cmd m 12 fs)):=by
 have hb:=Zbp hn
 obtain rfl:n=2:=Nat.le_antisymm hb.2 hb.1
 obtain⟨a,a2,rfl⟩:=Zf2 hf.len
 exact Zyj h hf.rd
theorem Zafr {w:World} {b g n c:Nat} {m:Mch} {fs:List ByteArray} (h:EnvW w b m) (hf:Flds w g n c fs) (hn:Zce 13 n=true):
 Calls Tryz.prog 137 #[.pointer (some ⟨b,0,none⟩),.string (⟨#[103,97,105,110]⟩:ByteArray),.slice (some ⟨g,0,none⟩) n c] w (RetM w b m (cmd m 13 fs)):=by
 have hb:=Zbp hn
 obtain rfl:n=1:=Nat.le_antisymm hb.2 hb.1
 obtain⟨a,rfl⟩:=Zeq hf.len
 exact Z5p h hf.rd hf.sz
theorem Z60 {w:World} {b g n c:Nat} {m:Mch} {fs:List ByteArray} (h:EnvW w b m) (hf:Flds w g n c fs) (hn:Zce 14 n=true):
 Calls Tryz.prog 137 #[.pointer (some ⟨b,0,none⟩),.string (⟨#[115,105,103,110,97,108]⟩:ByteArray),.slice (some ⟨g,0,none⟩) n c] w (RetM w b m (cmd m 14 fs)):=by
 have hb:=Zbp hn
 obtain rfl:n=0:=Nat.le_antisymm hb.2 hb.1
 exact Z5h h
theorem Zxo {w:World} {b g n c:Nat} {m:Mch} {fs:List ByteArray} (h:EnvW w b m) (hf:Flds w g n c fs) (hn:Zce 15 n=true):
 Calls Tryz.prog 137 #[.pointer (some ⟨b,0,none⟩),.string (⟨#[100,101,115,112,114,101,97,100]⟩:ByteArray),.slice (some ⟨g,0,none⟩) n c] w (RetM w b m (cmd m 15 fs)):=by
 have hb:=Zbp hn
 obtain rfl:n=2:=Nat.le_antisymm hb.2 hb.1
 obtain⟨a,a2,rfl⟩:=Zf2 hf.len
 exact Zsm h hf.rd hf.cap hf.sz
theorem Z1g {w:World} {b g n c:Nat} {m:Mch} {fs:List ByteArray} (h:EnvW w b m) (hf:Flds w g n c fs) (hn:Zce 16 n=true):
 Calls Tryz.prog 137 #[.pointer (some ⟨b,0,none⟩),.string (⟨#[114,101,99,101,105,118,101]⟩:ByteArray),.slice (some ⟨g,0,none⟩) n c] w (RetM w b m (cmd m 16 fs)):=by
 have hb:=Zbp hn
 obtain rfl:n=3:=Nat.le_antisymm hb.2 hb.1
 obtain⟨a,a2,a3,rfl⟩:=Zkn hf.len
 exact Zwc h hf.rd hf.cap hf.sz
theorem Zaaq {w:World} {b g n c:Nat} {m:Mch} {fs:List ByteArray} (h:EnvW w b m) (hf:Flds w g n c fs) (hn:Zce 17 n=true):
 Calls Tryz.prog 138 #[.pointer (some ⟨b,0,none⟩),.string (⟨#[102,114,97,109,101]⟩:ByteArray),.slice (some ⟨g,0,none⟩) n c] w (RetM w b m (cmd m 17 fs)):=by
 have hb:=Zbp hn
 obtain rfl:n=1:=Nat.le_antisymm hb.2 hb.1
 obtain⟨a,rfl⟩:=Zeq hf.len
 exact Z0n h hf.rd
theorem Zaei {w:World} {b g n c:Nat} {m:Mch} {fs:List ByteArray} (h:EnvW w b m) (hf:Flds w g n c fs) (hn:Zce 18 n=true):
 Calls Tryz.prog 138 #[.pointer (some ⟨b,0,none⟩),.string (⟨#[102,105,110,100]⟩:ByteArray),.slice (some ⟨g,0,none⟩) n c] w (RetM w b m (cmd m 18 fs)):=by
 have hb:=Zbp hn
 obtain rfl:n=1:=Nat.le_antisymm hb.2 hb.1
 obtain⟨a,rfl⟩:=Zeq hf.len
 exact Z5s (a:=a) h hf.rd (hf.sz a (by simp))
theorem Zz4 {w:World} {b g n c:Nat} {m:Mch} {fs:List ByteArray} (h:EnvW w b m) (hf:Flds w g n c fs) (hn:Zce 19 n=true):
 Calls Tryz.prog 138 #[.pointer (some ⟨b,0,none⟩),.string (⟨#[112,114,111,116,101,99,116]⟩:ByteArray),.slice (some ⟨g,0,none⟩) n c] w (RetM w b m (cmd m 19 fs)):=by
 have hb:=Zbp hn
 obtain rfl:n=2:=Nat.le_antisymm hb.2 hb.1
 obtain⟨a,a2,rfl⟩:=Zf2 hf.len
 exact Zua h hf.rd hf.sz
theorem Zafk {w:World} {b g n c:Nat} {m:Mch} {fs:List ByteArray} (h:EnvW w b m) (hf:Flds w g n c fs) (hn:Zce 20 n=true):
 Calls Tryz.prog 138 #[.pointer (some ⟨b,0,none⟩),.string (⟨#[111,112,101,110]⟩:ByteArray),.slice (some ⟨g,0,none⟩) n c] w (RetM w b m (cmd m 20 fs)):=by
 have hb:=Zbp hn
 obtain rfl:n=2:=Nat.le_antisymm hb.2 hb.1
 obtain⟨a,a2,rfl⟩:=Zf2 hf.len
 exact Z5d h hf.rd hf.sz
theorem Z10 {w:World} {b g n c:Nat} {m:Mch} {fs:List ByteArray} (h:EnvW w b m) (hf:Flds w g n c fs) (hn:Zce 21 n=true):
 Calls Tryz.prog 139 #[.pointer (some ⟨b,0,none⟩),.string (⟨#[99,101,108,108]⟩:ByteArray),.slice (some ⟨g,0,none⟩) n c] w (RetM w b m (cmd m 21 fs)):=by
 have hl:=hf.len
 by_cases h0:n=0
 ·subst h0
  have e:cmd m 21 fs=some (m,fmtT m.C):=if_pos hl
  rw[e]
  exact Z6s h
 ·have e:cmd m 21 fs=_:=if_neg (show ¬fs.length=0 by omega)
  rw[e]
  exact Z9r h hf.rd hf.cap hf.le (by omega) hf.sz
theorem Z8n {w:World} {b g n c:Nat} {m:Mch} {fs:List ByteArray} (h:EnvW w b m) (hf:Flds w g n c fs) (hn:Zce 22 n=true):
 Calls Tryz.prog 139 #[.pointer (some ⟨b,0,none⟩),.string (⟨#[97,100,109,105,116]⟩:ByteArray),.slice (some ⟨g,0,none⟩) n c] w (RetM w b m (cmd m 22 fs)):=by
 have hb:=Zbp hn
 obtain rfl:n=3:=Nat.le_antisymm hb.2 hb.1
 obtain⟨a,a2,a3,rfl⟩:=Zkn hf.len
 exact Z00 h hf.rd hf.cap hf.sz
theorem Zzw {w:World} {b g n c:Nat} {m:Mch} {fs:List ByteArray} (h:EnvW w b m) (hf:Flds w g n c fs) (hn:Zce 23 n=true):
 Calls Tryz.prog 139 #[.pointer (some ⟨b,0,none⟩),.string (⟨#[114,101,108,101,97,115,101]⟩:ByteArray),.slice (some ⟨g,0,none⟩) n c] w (RetM w b m (cmd m 23 fs)):=by
 have hb:=Zbp hn
 obtain rfl:n=1:=Nat.le_antisymm hb.2 hb.1
 obtain⟨a,rfl⟩:=Zeq hf.len
 exact Zvq h hf.rd
theorem Zacy {w:World} {b g n c:Nat} {m:Mch} {fs:List ByteArray} (h:EnvW w b m) (hf:Flds w g n c fs) (hn:Zce 24 n=true):
 Calls Tryz.prog 139 #[.pointer (some ⟨b,0,none⟩),.string (⟨#[112,111,119,101,114]⟩:ByteArray),.slice (some ⟨g,0,none⟩) n c] w (RetM w b m (cmd m 24 fs)):=by
 have hb:=Zbp hn
 obtain rfl:n=1:=Nat.le_antisymm hb.2 hb.1
 obtain⟨a,rfl⟩:=Zeq hf.len
 exact Zzr h hf.rd hf.sz
theorem Zaf6 {w:World} {b g n c:Nat} {m:Mch} {fs:List ByteArray} (h:EnvW w b m) (hf:Flds w g n c fs) (_hn:Zce 25 n=true):
 Calls Tryz.prog 139 #[.pointer (some ⟨b,0,none⟩),.string (⟨#[115,101,110,100]⟩:ByteArray),.slice (some ⟨g,0,none⟩) n c] w (RetM w b m (cmd m 25 fs)):=by
 exact Z5f h hf.rd (by have:=hf.le;omega)
theorem Zafx {w:World} {b g n c:Nat} {m:Mch} {fs:List ByteArray} (h:EnvW w b m) (hf:Flds w g n c fs) (hn:Zce 26 n=true):
 Calls Tryz.prog 139 #[.pointer (some ⟨b,0,none⟩),.string (⟨#[104,101,97,114]⟩:ByteArray),.slice (some ⟨g,0,none⟩) n c] w (RetM w b m (cmd m 26 fs)):=by
 have hb:=Zbp hn
 obtain rfl:n=2:=Nat.le_antisymm hb.2 hb.1
 obtain⟨a,a2,rfl⟩:=Zf2 hf.len
 exact Z57 h hf.rd hf.cap hf.sz
theorem Z56 {w:World} {b g n c:Nat} {m:Mch} {fs:List ByteArray} (h:EnvW w b m) (hf:Flds w g n c fs) (hn:Zce 27 n=true):
 Calls Tryz.prog 139 #[.pointer (some ⟨b,0,none⟩),.string (⟨#[102,111,114,103,101,116]⟩:ByteArray),.slice (some ⟨g,0,none⟩) n c] w (RetM w b m (cmd m 27 fs)):=by
 have hb:=Zbp hn
 obtain rfl:n=0:=Nat.le_antisymm hb.2 hb.1
 exact Zxz h
end Go.Proofs.YtcjihfongfefoaaGreatDoor
