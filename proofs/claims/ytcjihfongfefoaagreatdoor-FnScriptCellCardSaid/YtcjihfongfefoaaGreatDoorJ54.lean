/- Vd Zd Zf Zg -/
import Derived.Test.YtcjihfongfefoaaGreatDoorJ53
import Derived.Test.YtcjihfongfefoaaGreatDoorShlf
namespace Go.Proofs.YtcjihfongfefoaaGreatDoor
open Go.RowKit
theorem Z45 {s t x:Nat} (hs:1≤s) (hx:x<2^s):∀i,i≤s→Zdu s t i x%2^(s-i)=x/2^i
 |0,_=>by rw[Nat.pow_zero,Nat.div_one,Nat.sub_zero];exact Nat.mod_eq_of_lt hx
 |i+1,h=>by
  have ih:=Z45 (t:=t) hs hx i (by omega)
  rw[Zgm]
  unfold Zfx
  have e:2^(s-i)=2*2^(s-(i+1)):=by rw[←Nat.pow_succ'];congr 1;omega
  have e2:2^(s-1)=2^(s-(i+1))*2^i:=by rw[←Nat.pow_add];congr 1;omega
  rw[e2,Nat.mul_left_comm,Nat.add_mul_mod_self_left,←Nat.mod_mul_right_div_self,←e,ih,Nat.div_div_eq_div_mul,Nat.pow_succ]
theorem Zagp {s t x i:Nat} (hs:1≤s) (hx:x<2^s) (hi:i<s):Zdu s t i x%2=x/2^i%2:=by
 have h:=Z45 (t:=t) hs hx i (by omega)
 have e:2^(s-i)=2*2^(s-i-1):=by rw[←Nat.pow_succ'];congr 1;omega
 rw[←h,e,Nat.mod_mul_right_mod]
theorem Zn8 (s t x n:Nat):Zab (text (runL s t x n))=runL s t x n:=Zcf (Zki s t x n)
theorem Z76 {s t x n:Nat} (hs:1≤s) (hx:x<2^s) (hn:s≤n):∀i,i≤s→frmX (text (runL s t x n)) i=x%2^i
 |0,_=>by rw[Nat.pow_zero,Nat.mod_one];rfl
 |i+1,h=>by
  have ih:=Z76 (t:=t) hs hx hn i (by omega)
  unfold frmX
  have hl:i<(runL s t x n).length:=by rw[Zdf];omega
  have hb:((Zab (text (runL s t x n))).getD i 0-48).toNat=x/2^i%2:=by
   rw[Zn8,show(runL s t x n).getD i 0=(runL s t x n)[i]by simp[List.getD,hl],Zt7,Zagp hs hx (by omega)]
   omega
  rw[hb,ih,Nat.mod_pow_succ,Nat.mul_comm]
theorem Zacf {p:Nat→Bool} {n i:Nat} (hi:i<n) (h:p i=true):∃j,(List.range n).find? p=some j:=by
 cases hf:(List.range n).find? p with
 |some j=>exact⟨j,rfl⟩
 |none=>
  rw[List.find?_eq_none]at hf
  exact absurd h (hf i (List.mem_range.2 hi))
theorem Z61 {α:Type} {f:Nat→Option α} {n i:Nat} (hi:i<n) (h:(f i).isSome=true):((List.range n).findSome? f).isSome=true:=by
 cases hf:(List.range n).findSome? f with
 |some j=>rfl
 |none=>
  rw[List.findSome?_eq_none_iff]at hf
  rw[hf i (List.mem_range.2 hi)]at h
  cases h
theorem Zaj2 {s t x:Int} (h:regB s t x=true):(shR (text (runL s.toNat t.toNat x.toNat 16))).isSome=true:=by
 obtain⟨S,T,X,rfl,rfl,rfl,h1,h2,h3⟩:=Zbx h
 simp only[Int.toNat_natCast]
 have hz:(text (runL S T X 16)).size=16:=by rw[Zaq,Zdf]
 have hall:allS bitC (text (runL S T X 16))=true:=Zpv S T X 16
 have hok:shOk (text (runL S T X 16))=true:=by
  unfold shOk
  rw[Zd9 (by omega) hall,hz];rfl
 have hg:shG (text (runL S T X 16)) S T=true:=by
  unfold shG
  rw[Z76 (by omega) h3 (by omega) S (Nat.le_refl _),Nat.mod_eq_of_lt h3,hz,Zn8]
  exact decide_eq_true rfl
 rw[Z0d hok]
 rw[Option.isSome_map]
 unfold shM
 refine Z61 (i:=S-2) (by omega) ?_
 rw[Option.isSome_map,show S-2+2=S by omega]
 unfold shN
 obtain⟨j,hj⟩:=Zacf (p:=fun j=>shG (text (runL S T X 16)) S (j+1)) (n:=2^S-1) (i:=T-1) (by omega) (by
  show shG (text (runL S T X 16)) S (T-1+1)=true
  rw[show T-1+1=T by omega];exact hg)
 rw[hj];rfl
def runB (s t x:Int):ByteArray:=text (runL s.toNat t.toNat x.toNat 16)
theorem Z6m (s t x:Int):∀y∈Zab (runB s t x),Za7 y:=by
 unfold runB
 rw[Zn8]
 exact Zki _ _ _ _
theorem Zqf (s t x:Int):(runB s t x).size=16:=by unfold runB;rw[Zaq,Zdf]
theorem Zyg (s t x:Int) {c:UInt8} (h1:c.toNat≠48) (h2:c.toNat≠49):c ∉ bts (runB s t x):=Z3g (Z6m s t x) h1 h2
theorem Zahh {s t x:Int} (h:regB s t x=true):rnR s t x 16=some (runB s t x):=by rw[Z1i (by rw[h];decide)];rfl
theorem num_7:numT (⟨#[55]⟩:ByteArray)=some 7:=by decide
theorem num_5:numT (⟨#[53]⟩:ByteArray)=some 5:=by decide
theorem num_16:numT (⟨#[49,54]⟩:ByteArray)=some 16:=by decide
theorem cut_75:cutT 32 (⟨#[55,32,53]⟩:ByteArray)=[(⟨#[55]⟩:ByteArray),(⟨#[53]⟩:ByteArray)]:=by decide
theorem cut_16:cutT 32 (⟨#[49,54]⟩:ByteArray)=[(⟨#[49,54]⟩:ByteArray)]:=by decide
theorem Zq9 {s t x k:Int} {r:Int×Int×Int} (h:jmpR s t x k=some r):regB s t x=true∧(-5000≤k∧k≤5000)∧r=(s,t,jmpX s t x k):=by
 unfold jmpR at h
 split at h
 ·rename_i h1
  unfold Zkz at h1
  simp only[Bool.and_eq_true]at h1
  exact⟨h1.1.1,inB_iff.1 h1.1.2,(Option.some.inj h).symm⟩
 ·cases h
theorem cmd3 (m:Mch) (a:ByteArray):cmd m 3 [a]=(numT a).bind fun n=>m.say ((rnR m.s m.t m.x n).map Zaf):=rfl
theorem cmd4 (m:Mch) (a b:ByteArray):cmd m 4 [a,b]=(numT a).bind fun x=>(numT b).bind fun y=>m.say ((Zcz m.s m.t m.x x y).map nmsT):=rfl
def regP (s t x k X a b c:Int) (h:List Int):List (ByteArray×ByteArray):=
 [((⟨#[114,101,103,105,115,116,101,114]⟩:ByteArray)++⟨#[32]⟩++rgT s t x,sokT),
  ((⟨#[112,101,114,105,111,100]⟩:ByteArray),decT (perR s t x)++⟨#[32]⟩++decT (Zfn s t x)),
  ((⟨#[106,117,109,112]⟩:ByteArray)++⟨#[32]⟩++decT k,rgT s t X),
  ((⟨#[98,105,116,115]⟩:ByteArray)++⟨#[32]⟩++(⟨#[49,54]⟩:ByteArray),runB s t X),
  ((⟨#[115,104,111,114,116,101,115,116]⟩:ByteArray)++⟨#[32]⟩++runB s t X,rgT a b c),
  ((⟨#[104,111,112,115]⟩:ByteArray)++⟨#[32]⟩++(⟨#[55,32,53]⟩:ByteArray),nmsT h)]
theorem Zab6 {s t x k X a b c:Int} {h:List Int} (hj:jmpR s t x k=some (s,t,X)) (hs:shR (runB s t X)=some (a,b,c)) (hh:Zcz s t X 7 5=some h):
 Zjl mch0 (regP s t x k X a b c h) ⟨s,t,X,[],[]⟩:=by
 obtain⟨hr,hk,_⟩:=Zq9 hj
 have hr2:regB s t X=true:=Zrx hj
 refine Zb3 (k:=0) (m1:=⟨s,t,x,[],[]⟩) (by decide) (by decide) (Zah3 _ _ _) (Z8l hr) rfl ?_ ?_
 ·show(parG (Zbi 32 (rgF s t x))).map _=_
  rw[Z2u hr,Zzu hr];rfl
 refine Zrt (k:=2) (m1:=⟨s,t,x,[],[]⟩) (by decide) (by decide) rfl rfl ?_
 refine Zb3 (k:=1) (m1:=⟨s,t,X,[],[]⟩) (by decide) (by decide) (Zoj _) (Zdq (Zqe _)) rfl ?_ ?_
 ·show(numT (decT k)).bind _=_
  rw[Zew (by omega) (by omega)]
  show(jmpR s t x k).map _=_
  rw[hj];rfl
 refine Zb3 (k:=3) (m1:=⟨s,t,X,[],[]⟩) (by decide) (by decide) (by decide) cut_16 rfl ?_ ?_
 ·rw[cmd3,num_16]
  show Mch.say _ ((rnR s t X 16).map Zaf)=_
  rw[Zahh hr2]
  show some (_,Zaf (runB s t X))=_
  rw[Zaaf (fun e=>by have:=Zqf s t X;rw[←Zbz,e]at this;cases this)]
 refine Zb3 (k:=5) (m1:=⟨s,t,X,[],[]⟩) (by decide) (by decide) (Zyg _ _ _ (by decide) (by decide)) (Zdq (Zyg _ _ _ (by decide) (by decide))) rfl ?_ ?_
 ·show Mch.say _ ((shR (runB s t X)).map _)=_
  rw[hs];rfl
 refine Zb3 (k:=4) (m1:=⟨s,t,X,[],[]⟩) (by decide) (by decide) (by decide) cut_75 rfl ?_ rfl
 rw[cmd4,num_7,num_5]
 show Mch.say _ ((Zcz s t X 7 5).map nmsT)=_
 rw[hh];rfl
theorem Zzc {l:List Int} {n:Nat} (hn:l.length≤n) (h:∀x∈l,I64 x):(nmsT l).size≤n*22+1:=Zhn hn h
theorem Z54 {s t x k X a b c:Int} {h:List Int} (hj:jmpR s t x k=some (s,t,X)) (hs:shR (runB s t X)=some (a,b,c)) (hh:Zcz s t X 7 5=some h):
 Zb4 (Zb0 ((regP s t x k X a b c h).map Prod.fst))=Zb0 ((regP s t x k X a b c h).map Prod.snd):=by
 obtain⟨hr,hk,_⟩:=Zq9 hj
 have hr2:regB s t X=true:=Zrx hj
 have z1:=Zk2 hr
 have z2:=Zk2 hr2
 have z3:=Znx (a,b,c)
 have z4:=Zde (Zux s t x)
 have z5:=Zde (Zpt s t x)
 have z6:(decT k).size≤21:=Zde ⟨by omega,by omega⟩
 have z7:=Zqf s t X
 have z8:=Zzc (Zmx hh).1 (Zmx hh).2
 simp only[]at z3
 refine Zhb (Zab6 hj hs hh) ?_ ?_ ?_
 ·exact(by decide:6≤100)
 ·simp only[regP,List.map_cons,List.map_nil,Zaz,Zbf,ByteArray.size_append,Zk5,List.length_cons,List.length_nil]
  omega
 ·simp only[regP,sokT,List.map_cons,List.map_nil,Zaz,Zbf,ByteArray.size_append,Zk5,List.length_cons,List.length_nil]
  omega
theorem Zafn (s t x k X a b c:Int) (h:List Int):Zb0 ((regP s t x k X a b c h).map Prod.fst)=
 (⟨#[114,101,103,105,115,116,101,114,32]⟩:ByteArray)++rgT s t x++(⟨#[10,112,101,114,105,111,100,10,106,117,109,112,32]⟩:ByteArray)++decT k++(⟨#[10,98,105,116,115,32,49,54,10,115,104,111,114,116,101,115,116,32]⟩:ByteArray)++runB s t X++(⟨#[10,104,111,112,115,32,55,32,53,10]⟩:ByteArray):=by
 apply Zae
 simp only[regP,List.map_cons,List.map_nil,Zaz,Zbf,Zbw,Zfy,List.append_assoc,List.cons_append,List.nil_append]
theorem Zaiw (s t x k X a b c:Int) (h:List Int):Zb0 ((regP s t x k X a b c h).map Prod.snd)=
 (⟨#[111,107,10]⟩:ByteArray)++decT (perR s t x)++(⟨#[32]⟩:ByteArray)++decT (Zfn s t x)++(⟨#[10]⟩:ByteArray)++rgT s t X++(⟨#[10]⟩:ByteArray)++runB s t X++(⟨#[10]⟩:ByteArray)++rgT a b c++(⟨#[10]⟩:ByteArray)++nmsT h++(⟨#[10]⟩:ByteArray):=by
 apply Zae
 simp only[regP,sokT,List.map_cons,List.map_nil,Zaz,Zbf,Zbw,Zfy,List.append_assoc,List.cons_append,List.nil_append]
theorem Zp8 {d c:ByteArray} {l:List Int} (h:sprR d c=some l):Zan d=true∧seqB c=true∧d.size*c.size≤3000∧l=Zbj (Zab d) (Zab c):=by
 unfold sprR at h
 split at h
 ·rename_i h1
  unfold Zz8 at h1
  simp only[Bool.and_eq_true,decide_eq_true_eq]at h1
  exact⟨h1.1.1,h1.1.2,h1.2,(Option.some.inj h).symm⟩
 ·cases h
theorem Zyc {c:ByteArray} (h:seqB c=true):Zan c=true:=by
 unfold seqB at h
 rw[Bool.and_eq_true]at h
 exact h.1
theorem Z66 {d c:List Int} {j:Nat} (hj:j<d.length):dotN (Zbj d c) c (j*c.length) c.length=Zbk (d.getD j 0)*(c.length:Int):=by
 rw[Zail,Z4m (g:=fun _=>Zbk (d.getD j 0)),Z4q]
 intro i hi
 have hlt:j*c.length+i<d.length*c.length:=by
  have:=Nat.mul_le_mul_right c.length (show j+1≤d.length by omega)
  rw[Nat.add_mul,Nat.one_mul]at this
  omega
 rw[Zr6 d c hlt,show(j*c.length+i)/c.length=j by rw[Nat.mul_comm,Nat.mul_add_div (by omega),Nat.div_eq_of_lt hi,Nat.add_zero],
  show(j*c.length+i)%c.length=i by rw[Nat.mul_comm,Nat.mul_add_mod,Nat.mod_eq_of_lt hi],Int.mul_comm,Int.mul_assoc,Zadu,Int.mul_one]
theorem Z1e {d c:ByteArray} (hd:Zan d=true) (hc:seqB c=true):text (Zfk (Zes (Zbj (Zab d) (Zab c)) (Zab c) 0 d.size))=d:=by
 conv=>rhs;rw[←Zc6 d]
 congr 1
 apply List.ext_getElem
 ·rw[Zh2,Zdl,Zac]
 ·intro j h1 h2
  rw[Zh2,Zdl]at h1
  have hcl:(0:Int)<((Zab c).length:Int):=by have:=Zbg hc;rw[Zac];omega
  rw[Zqi,Zaio _ _ _ _ h1,Z66 (by rw[Zac];exact h1),Int.mul_comm,Zaj7 hcl (Z7w hd h1)]
  exact Zc9 _
theorem Zacs {d c:ByteArray} {l:List Int} (h:sprR d c=some l):sclR l (-2)=some (Zb9 (-2) l):=by
 have hs:=Zno h
 obtain⟨_,_,hz,rfl⟩:=Zp8 h
 refine Zpr hs (by decide) (Zqy ?_ ?_)
 ·rw[Zh5,Zep,Zac,Zac];exact hz
 ·intro x hx
  unfold Zb9 at hx
  obtain⟨y,hy,rfl⟩:=List.mem_map.1 hx
  have:=Zib _ _ y hy
  omega
theorem Z7c {n:Int} (h: -2≤n∧n≤2):(decT n).size≤2:=by
 have d0:Lib.decDigits 0=[48]:=Zo2
 have d1:Lib.decDigits 1=[49]:=by rw[Lib.decDigits];rfl
 have d2:Lib.decDigits 2=[50]:=by rw[Lib.decDigits];rfl
 have h5:n= -2∨n= -1∨n=0∨n=1∨n=2:=by omega
 unfold decT
 rw[Zfi]
 rcases h5 with rfl|rfl|rfl|rfl|rfl
 ·show(45::Lib.decDigits 2).length≤2;rw[d2];decide
 ·show(45::Lib.decDigits 1).length≤2;rw[d1];decide
 ·show(Lib.decDigits 0).length≤2;rw[d0];decide
 ·show(Lib.decDigits 1).length≤2;rw[d1];decide
 ·show(Lib.decDigits 2).length≤2;rw[d2];decide
theorem Zab2 {l:List Int} {n:Nat} (hn:l.length≤n) (h:bdL 2 l):(nmsT l).size≤n*3+1:=by
 unfold nmsT
 have h1:=Zgc (c:=32) (M:=2) (ps:=l.map decT) (fun p hp=>by
  obtain⟨x,hx,rfl⟩:=List.mem_map.1 hp
  exact Z7c (h x hx))
 rw[List.length_map]at h1
 have h2:=Ze2 (Zbi 32 (l.map decT))
 have h3:l.length*3≤n*3:=Nat.mul_le_mul_right 3 hn
 omega
def sprP (d c:ByteArray) (L D2 Z:List Int):List (ByteArray×ByteArray):=
 [((⟨#[115,112,114,101,97,100]⟩:ByteArray)++⟨#[32]⟩++(Zaf d++⟨#[32]⟩++c),nmsT L),
  ((⟨#[100,101,115,112,114,101,97,100]⟩:ByteArray)++⟨#[32]⟩++(c++⟨#[32]⟩++decT (d.size:Int)),nmsT D2),
  ((⟨#[114,101,99,101,105,118,101]⟩:ByteArray)++⟨#[32]⟩++(c++⟨#[32]⟩++(⟨#[48]⟩:ByteArray)++⟨#[32]⟩++decT (d.size:Int)),Zaf d),
  ((⟨#[103,97,105,110]⟩:ByteArray)++⟨#[32]⟩++(⟨#[45,50]⟩:ByteArray),nmsT Z),
  ((⟨#[115,105,103,110,97,108]⟩:ByteArray),nmsT Z)]
theorem cmd13 (m:Mch) (a:ByteArray):cmd m 13 [a]=(numT a).bind fun n=>m.toS (sclR m.S n):=rfl
theorem cmd16 (m:Mch) (c a b:ByteArray):cmd m 16 [c,a,b]=(numT a).bind fun d=>(numT b).bind fun n=>m.say ((rcvR m.S c d n).map Zaf):=rfl
theorem num_0:numT (⟨#[48]⟩:ByteArray)=some 0:=by decide
theorem num_m2:numT (⟨#[45,50]⟩:ByteArray)=some (-2):=by decide
theorem Zab5 {d c:ByteArray} {L:List Int} (h:sprR d c=some L):Zjl mch0 (sprP d c L (Zes L (Zab c) 0 d.size) (Zb9 (-2) L)) ⟨3,3,1,[],Zb9 (-2) L⟩:=by
 obtain⟨hd,hc,hz,hL⟩:=Zp8 h
 have hs:=Zno h
 have hd6:=Zem hd
 have f10:∀{z:ByteArray},Zan z=true→(10:UInt8) ∉ bts z:=fun h=>Zh3 h (by decide) (by decide)
 have f32:∀{z:ByteArray},Zan z=true→(32:UInt8) ∉ bts z:=fun h=>Zh3 h (by decide) (by decide)
 have c10:=f10 (Zyc hc)
 have c32:=f32 (Zyc hc)
 have hn:numT (decT (d.size:Int))=some (d.size:Int):=Zew (by omega) (by omega)
 refine Zb3 (k:=12) (m1:=⟨3,3,1,[],L⟩) (by decide) (by decide) (Zif (by decide) (Zzs (f10 hd)) c10) (Zny (Zz2 (f32 hd)) c32) rfl ?_ ?_
 ·show Mch.toS _ (sprR (Zar (Zaf d)) c)=_
  rw[Zm6 hd,h];rfl
 refine Zb3 (k:=15) (m1:=⟨3,3,1,[],L⟩) (by decide) (by decide) (Zif (by decide) c10 (Zoj _)) (Zny c32 (Zqe _)) rfl ?_ ?_
 ·show(numT (decT (d.size:Int))).bind _=_
  rw[hn]
  show Mch.say _ ((dspR L c (d.size:Int)).map nmsT)=_
  rw[Zpa (by unfold Zi8;rw[hs,hc,Zax (by omega) (by omega)];rfl),Int.toNat_natCast];rfl
 refine Zb3 (k:=16) (m1:=⟨3,3,1,[],L⟩) (by decide) (by decide) (Zif (by decide) (Zif (by decide) c10 (by decide)) (Zoj _)) (Z9j c32 (by decide) (Zqe _)) rfl ?_ ?_
 ·rw[cmd16,num_0,hn]
  show Mch.say _ ((rcvR L c ((0:Nat):Int) (d.size:Int)).map Zaf)=_
  rw[Zps (by unfold recB;rw[hs,hc,Zax (a:=0) (by omega) (by omega),Zax (a:=0) (by omega) (by omega)];rfl),hL,Z1e hd hc];rfl
 refine Zb3 (k:=13) (m1:=⟨3,3,1,[],Zb9 (-2) L⟩) (by decide) (by decide) (by decide) (Zdq (by decide)) rfl ?_ ?_
 ·rw[cmd13,num_m2]
  show Mch.toS _ (sclR L (-2))=_
  rw[Zacs h];rfl
 exact Zrt (k:=14) (m1:=⟨3,3,1,[],Zb9 (-2) L⟩) (by decide) (by decide) rfl rfl rfl
theorem spr_script {d c:ByteArray} {L:List Int} (h:sprR d c=some L) (hl:L.length≤800):
 Zb4 (Zb0 ((sprP d c L (Zes L (Zab c) 0 d.size) (Zb9 (-2) L)).map Prod.fst))=Zb0 ((sprP d c L (Zes L (Zab c) 0 d.size) (Zb9 (-2) L)).map Prod.snd):=by
 obtain⟨hd,hc,hz,hL⟩:=Zp8 h
 have hs:=Zno h
 have hd6:=Zem hd
 have hc2:=Zbg hc
 have hb1:bdL 1 L:=by rw[hL];exact Zib _ _
 have hb2:bdL 2 (Zb9 (-2) L):=fun x hx=>by
  unfold Zb9 at hx
  obtain⟨y,hy,rfl⟩:=List.mem_map.1 hx
  have:=hb1 y hy
  omega
 have z1:=Zab2 hl (Zka hb1 (by omega))
 have z2:=Zab2 (l:=Zb9 (-2) L) (n:=800) (by rw[Zh5];exact hl) hb2
 have z3:(nmsT (Zes L (Zab c) 0 d.size)).size≤600*22+1:=by
  have hdsp:dspR L c (d.size:Int)=some (Zes L (Zab c) 0 d.size):=by
   rw[Zpa (by unfold Zi8;rw[hs,hc,Zax (by omega) (by omega)];rfl),Int.toNat_natCast]
  obtain⟨e1,e2⟩:=Zxs hdsp
  exact Zhn e1 e2
 have z4:(decT (d.size:Int)).size≤21:=Zde ⟨by omega,by omega⟩
 have z5:=Ze2 d
 refine Zhb (Zab5 h) ?_ ?_ ?_
 ·exact(by decide:5≤100)
 ·simp only[sprP,List.map_cons,List.map_nil,Zaz,Zbf,ByteArray.size_append,Zk5,List.length_cons,List.length_nil]
  omega
 ·simp only[sprP,List.map_cons,List.map_nil,Zaz,Zbf,ByteArray.size_append,Zk5,List.length_cons,List.length_nil]
  omega
theorem spr_text (d c:ByteArray) (L D2 Z:List Int):Zb0 ((sprP d c L D2 Z).map Prod.fst)=
 (⟨#[115,112,114,101,97,100,32]⟩:ByteArray)++Zaf d++(⟨#[32]⟩:ByteArray)++c++(⟨#[10,100,101,115,112,114,101,97,100,32]⟩:ByteArray)++c++(⟨#[32]⟩:ByteArray)++decT (d.size:Int)++(⟨#[10,114,101,99,101,105,118,101,32]⟩:ByteArray)++c++(⟨#[32,48,32]⟩:ByteArray)++decT (d.size:Int)++(⟨#[10,103,97,105,110,32,45,50,10,115,105,103,110,97,108,10]⟩:ByteArray):=by
 apply Zae
 simp only[sprP,List.map_cons,List.map_nil,Zaz,Zbf,Zbw,Zfy,List.append_assoc,List.cons_append,List.nil_append]
theorem spr_out (d c:ByteArray) (L D2 Z:List Int):Zb0 ((sprP d c L D2 Z).map Prod.snd)=
 nmsT L++(⟨#[10]⟩:ByteArray)++nmsT D2++(⟨#[10]⟩:ByteArray)++Zaf d++(⟨#[10]⟩:ByteArray)++nmsT Z++(⟨#[10]⟩:ByteArray)++nmsT Z++(⟨#[10]⟩:ByteArray):=by
 apply Zae
 simp only[sprP,List.map_cons,List.map_nil,Zaz,Zbf,Zbw,Zfy,List.append_assoc,List.cons_append,List.nil_append]
theorem Zajv {s:Stn} (h:stOk s) {c:UInt8} (hc:c=10∨c=32):c ∉ bts (stT s):=by
 obtain⟨h1,h2,_,_⟩:=Zeu h
 have hd:digC c=false:=by rcases hc with rfl|rfl<;>decide
 have h45:c≠45:=by rcases hc with rfl|rfl<;>decide
 have h97:c.toNat<97:=by rcases hc with rfl|rfl<;>decide
 have h48:c.toNat≠48∧c.toNat≠49:=by rcases hc with rfl|rfl<;>decide
 have h58:c≠58:=by rcases hc with rfl|rfl<;>decide
 refine Zkg h58 (fun p hp=>?_)
 simp only[stF,List.mem_cons,List.not_mem_nil,or_false]at hp
 rcases hp with rfl|rfl|rfl|rfl
 ·exact Zp2 h1 h97
 ·exact Zh9 (Zyu h2 h48) h45
 ·exact Zo7 _ h45 hd
 ·exact Zo7 _ h45 hd
theorem Z4f {l:List Stn} (h:Zay l=true) {c:UInt8} (hc:c=10∨c=32):c ∉ bts (fmtT l):=by
 unfold fmtT
 rw[if_pos h]
 refine Zh9 (Zkg (by rcases hc with rfl|rfl<;>decide) (fun p hp=>?_)) (by rcases hc with rfl|rfl<;>decide)
 obtain⟨s,hs,rfl⟩:=List.mem_map.1 hp
 exact Zajv ((cellB_iff.1 h).2.1 s hs) hc
theorem Z4j {l:List Stn} (h:Zay l=true) {i:Nat} (hi:i<l.length) {c:UInt8} (hc:c.toNat<97):c ∉ bts l[i].nm:=
 Zp2 (Zeu ((cellB_iff.1 h).2.1 _ (List.getElem_mem hi))).1 hc
theorem Z33 {l:List Stn} (h:Zay l=true) {i:Nat} (hi:i<l.length):l[i].nm.size≤8:=by
 have:=(Zeu ((cellB_iff.1 h).2.1 _ (List.getElem_mem hi))).1
 unfold Zdv at this
 rw[Bool.and_eq_true]at this
 have:=(inB_iff.1 this.1).2
 omega
theorem Zabq {c:UInt8} (a:ByteArray) {r:List ByteArray} (h:r≠[]):Zbi c (a::r)=a++⟨#[c]⟩++Zbi c r:=by
 apply Zae
 unfold Zbi
 rw[Zn3,Zbv,Zbv,List.map_cons,Zxw _ (by simpa using h)]
 simp
def spT':List ByteArray→ByteArray
 |[]=>⟨#[]⟩
 |a::r=>⟨#[32]⟩++a++spT' r
theorem Zajr:∀a b:List ByteArray,spT' (a++b)=spT' a++spT' b
 |[],b=>(Zui _).symm
 |x::r,b=>by
  show⟨#[32]⟩++x++spT' (r++b)=⟨#[32]⟩++x++spT' r++spT' b
  rw[Zajr r b,Zfm (⟨#[32]⟩++x)]
theorem Z11:∀{ps:List ByteArray},ps≠[]→spT' ps=⟨#[32]⟩++Zbi 32 ps
 |[],h=>absurd rfl h
 |[a],_=>by
  show⟨#[32]⟩++a++⟨#[]⟩=_
  rw[Zqz]
  congr 1
  apply Zae
  unfold Zbi
  rw[Zbv]
  exact(Lib.join_one _ _).symm
 |a::b::r,_=>by
  show⟨#[32]⟩++a++spT' (b::r)=_
  rw[Z11 (by simp),Zabq a (by simp),Zfm,Zfm]
def Z6v (l:List Stn) (ds:List ByteArray) (L:List Int) (i:Nat):ByteArray:=(crcR l L (l.getD i zstn).nm ((ds.getD i ⟨#[]⟩).size:Int)).getD ByteArray.empty
def Zup (l:List Stn) (ds:List ByteArray) (L:List Int) (i:Nat):ByteArray×ByteArray:=
 ((⟨#[104,101,97,114]⟩:ByteArray)++⟨#[32]⟩++((l.getD i zstn).nm++⟨#[32]⟩++decT ((ds.getD i ⟨#[]⟩).size:Int)),Zaf (Z6v l ds L i))
def Zmj (l:List Stn) (ds:List ByteArray) (L:List Int) (k:Nat):List (ByteArray×ByteArray):=(List.range k).map (Zup l ds L)
theorem Zko (l:List Stn) (ds:List ByteArray) (L:List Int) (k:Nat):Zmj l ds L (k+1)=Zmj l ds L k++[Zup l ds L k]:=by unfold Zmj;rw[List.range_succ,List.map_append];rfl
theorem Z88 (l:List Stn) (ds:List ByteArray) (L:List Int) (k:Nat):(Zmj l ds L k).length=k:=by simp[Zmj]
def Zt1 (l:List Stn) (ds:List ByteArray) (L:List Int):List (ByteArray×ByteArray):=
 [((⟨#[99,101,108,108]⟩:ByteArray)++⟨#[32]⟩++fmtT l,sokT),((⟨#[115,101,110,100]⟩:ByteArray)++⟨#[32]⟩++Zbi 32 (ds.map Zaf),nmsT L)]
def Zv3 (l nx rs:List Stn) (t:Int):List (ByteArray×ByteArray):=
 [((⟨#[112,111,119,101,114]⟩:ByteArray)++⟨#[32]⟩++decT t,fmtT nx),((⟨#[114,101,108,101,97,115,101]⟩:ByteArray)++⟨#[32]⟩++(l.getD 0 zstn).nm,fmtT rs),((⟨#[99,101,108,108]⟩:ByteArray),fmtT rs)]
theorem Zado {l:List Stn} {ds:List ByteArray} {L:List Int} (h:csgR l ds=some L) (h8:∀s∈ds,s.size≤8):L.length≤512:=by
 obtain⟨hc,hd,hu,rfl,_⟩:=Zg3 h
 have hall:∀u∈Zby l ds,(usrL u).length≤512:=by
  intro u hu2
  obtain⟨i,hi,rfl⟩:=List.getElem_of_mem hu2
  have h1:i<l.length:=by rw[Zim hd]at hi;exact hi
  have h2:i<ds.length:=by omega
  rw[Zfc h1 h2,Z3y]
  show ds[i].size*(Zfl l[i].ph).size≤512
  have e1:=h8 _ (List.getElem_mem h2)
  have e2:=Zks (Zcr (Zg9 (Zej hc h1)))
  exact Nat.le_trans (Nat.mul_le_mul e1 e2) (by omega)
 have hfold:∀(us:List Stn) (a:List Int),(∀u∈us,(usrL u).length≤512)→a.length≤512→(us.foldl (fun acc u=>addL acc (usrL u)) a).length≤512:=by
  intro us
  induction us with
  |nil=>intro a _ ha;exact ha
  |cons u r ih=>
   intro a hr ha
   rw[List.foldl_cons]
   refine ih _ (fun x hx=>hr x (by simp[hx])) ?_
   rw[Zhd]
   have:=hr u (by simp)
   omega
 exact hfold _ _ hall (Nat.zero_le _)
theorem Z6y {l:List Stn} {ds:List ByteArray} {L:List Int} (h:csgR l ds=some L) (hl:l≠[]):Zjl mch0 (Zt1 l ds L) ⟨3,3,1,l,L⟩:=by
 obtain⟨hc,hd,hu,_,hs⟩:=Zg3 h
 have hdb:∀s∈ds,Zan s=true:=fun s hs=>by
  obtain⟨i,hi,rfl⟩:=List.getElem_of_mem hs
  exact Zad6 h hi
 have hl8:=(cellB_iff.1 hc).1
 have hne:ds.map Zaf≠[]:=by
  intro e
  have h0:=congrArg List.length e
  rw[List.length_map]at h0
  have h1:ds.length=0:=h0
  exact hl (List.eq_nil_of_length_eq_zero (by omega))
 have hf:∀(c:UInt8),c.toNat≠48→c.toNat≠49→c≠45→∀p∈ds.map Zaf,c ∉ bts p:=by
  intro c h1 h2 h3 p hp
  obtain⟨s,hs,rfl⟩:=List.mem_map.1 hp
  exact Zh9 (Zh3 (hdb s hs) h1 h2) h3
 refine Zb3 (k:=21) (m1:=⟨3,3,1,l,[]⟩) (by decide) (by decide) (Z4f hc (.inl rfl)) (Zdq (Z4f hc (.inr rfl))) rfl ?_ ?_
 ·show(parT (Zbi 32 [fmtT l])).map _=_
  rw[Zye,Zaax hc];rfl
 refine Zb3 (k:=25) (m1:=⟨3,3,1,l,L⟩) (fs:=ds.map Zaf) (by decide) (by decide) (Zkg (by decide) (hf 10 (by decide) (by decide) (by decide))) (Zmn hne (hf 32 (by decide) (by decide) (by decide))) ?_ ?_ rfl
 ·rw[List.length_map]
  have:1≤ds.length:=by
   rcases Nat.eq_zero_or_pos ds.length with e|e
   ·exact absurd (by rw[List.map_eq_nil_iff];exact List.eq_nil_of_length_eq_zero e) hne
   ·exact e
  unfold Zce
  show(decide (1≤ds.length)&&decide (ds.length≤20001))=true
  rw[decide_eq_true this,decide_eq_true (by omega)];rfl
 ·show Mch.toS _ (csgR l ((ds.map Zaf).map Zar))=_
  have hid:ds.map (Zar ∘ Zaf)=ds:=by
   conv=>rhs;rw[←List.map_id ds]
   exact List.map_congr_left fun s hs=>Zm6 (hdb s hs)
  rw[List.map_map,hid,h];rfl
theorem Zty {l:List Stn} {ds:List ByteArray} {L:List Int} (h:csgR l ds=some L) (h8:∀s∈ds,s.size≤8):∀k,k≤l.length→Zjl ⟨3,3,1,l,L⟩ (Zmj l ds L k) ⟨3,3,1,l,L⟩
 |0,_=>rfl
 |k+1,hk=>by
  rw[Zko]
  refine Znc (Zty h h8 k (by omega)) ?_
  obtain⟨hc,hd,_,_,hs⟩:=Zg3 h
  have hkl:k<l.length:=by omega
  have hkd:k<ds.length:=by omega
  have hg:ds.getD k ⟨#[]⟩=ds[k]:=by simp[List.getD,hkd]
  have hz:=h8 _ (List.getElem_mem hkd)
  have hcr:=Z2t (m:=ds[k].size) hc hs hkl (by omega)
  unfold Zup Z6v
  rw[Zcv hkl,hg,hcr]
  refine Zb3 (k:=26) (m1:=⟨3,3,1,l,L⟩) (by decide) (by decide) (Zif (by decide) (Z4j hc hkl (by decide)) (Zoj _)) (Zny (Z4j hc hkl (by decide)) (Zqe _)) rfl ?_ rfl
  show(numT (decT (ds[k].size:Int))).bind _=_
  rw[Zew (by omega) (by omega)]
  show Mch.say _ ((crcR l L l[k].nm (ds[k].size:Int)).map Zaf)=_
  rw[hcr];rfl
theorem Z6l {l nx rs:List Stn} {L:List Int} {t:Int} (hc:Zay l=true) (hl:0<l.length) (ht:0≤t∧t≤8) (hn:Zfq l t=some nx) (hr:relR nx (l.getD 0 zstn).nm=some rs):
 Zjl ⟨3,3,1,l,L⟩ (Zv3 l nx rs t) ⟨3,3,1,rs,L⟩:=by
 have n32:=Z4j (c:=32) hc hl (by decide)
 have n10:=Z4j (c:=10) hc hl (by decide)
 have hg:=Zcv hl
 refine Zb3 (k:=24) (m1:=⟨3,3,1,nx,L⟩) (by decide) (by decide) (Zoj _) (Zdq (Zqe _)) rfl ?_ ?_
 ·show(numT (decT t)).bind _=_
  rw[Zew (by omega) (by omega)]
  show Mch.toC _ (Zfq l t)=_
  rw[hn];rfl
 refine Zb3 (k:=23) (m1:=⟨3,3,1,rs,L⟩) (by decide) (by decide) (by rw[hg];exact n10) (Zdq (by rw[hg];exact n32)) rfl ?_ ?_
 ·show Mch.toC _ (relR nx (l.getD 0 zstn).nm)=_
  rw[hr];rfl
 exact Zrt (k:=21) (m1:=⟨3,3,1,rs,L⟩) (by decide) (by decide) rfl rfl rfl
theorem step_rel {l:List Stn} {t:Int} (hc:Zay l=true) (hl:0<l.length) (ht:0≤t∧t≤8):∃nx rs,Zfq l t=some nx∧relR nx (l.getD 0 zstn).nm=some rs:=by
 have h1:=Zrb (t:=t) hc (Zax (by omega) (by omega))
 have h2:=Zrd h1
 have hl2:0<(l.map (pstS t)).length:=by rw[List.length_map];exact hl
 have h3:=Z7f h2 hl2
 have h4:(l.map (pstS t))[0].nm=(l.getD 0 zstn).nm:=by rw[Zcv hl,List.getElem_map];rfl
 rw[h4]at h3
 exact⟨_,_,h1,Zu8 h2 h3⟩
theorem Z4y {l:List Stn} {ds:List ByteArray} {L:List Int} (h:csgR l ds=some L) (h8:∀s∈ds,s.size≤8):∀k,k≤l.length→(Zb0 ((Zmj l ds L k).map Prod.fst)).size≤k*40∧(Zb0 ((Zmj l ds L k).map Prod.snd)).size≤k*40
 |0,_=>⟨Nat.le_refl _,Nat.le_refl _⟩
 |k+1,hk=>by
  obtain⟨hc,hd,_,_,hs⟩:=Zg3 h
  have hkl:k<l.length:=by omega
  have hkd:k<ds.length:=by omega
  have hg:ds.getD k ⟨#[]⟩=ds[k]:=by simp[List.getD,hkd]
  have hz:=h8 _ (List.getElem_mem hkd)
  have hcr:=Z2t (m:=ds[k].size) hc hs hkl (by omega)
  have hn:=Z33 hc hkl
  obtain⟨e1,e2⟩:=Z4y h h8 k (by omega)
  have e3:(decT (ds[k].size:Int)).size≤21:=Zde ⟨by omega,by omega⟩
  have e4:(Z6v l ds L k).size≤8:=by
   unfold Z6v
   rw[Zcv hkl,hg,hcr,Option.getD_some,Zaq,Zh2,Zdl]
   exact hz
  have e5:=Ze2 (Z6v l ds L k)
  rw[Zko,List.map_append,List.map_append,Zd1,Zd1,ByteArray.size_append,ByteArray.size_append]
  constructor
  ·show _+(Zb0 [(Zup l ds L k).1]).size≤_
   unfold Zup
   rw[Zcv hkl,hg]
   simp only[Zaz,Zbf,ByteArray.size_append,Zk5,List.length_cons,List.length_nil]
   omega
  ·show _+(Zb0 [(Zup l ds L k).2]).size≤_
   unfold Zup
   simp only[Zaz,Zbf,ByteArray.size_append,Zk5,List.length_cons,List.length_nil]
   omega
theorem cel_script {l nx rs:List Stn} {ds:List ByteArray} {L:List Int} {t:Int} (h:csgR l ds=some L) (hl:0<l.length) (h8:∀s∈ds,s.size≤8) (ht:0≤t∧t≤8) (hn:Zfq l t=some nx) (hr:relR nx (l.getD 0 zstn).nm=some rs):
 Zb4 (Zb0 ((Zt1 l ds L++Zmj l ds L l.length++Zv3 l nx rs t).map Prod.fst))=Zb0 ((Zt1 l ds L++Zmj l ds L l.length++Zv3 l nx rs t).map Prod.snd):=by
 obtain⟨hc,hd,_,_,hs⟩:=Zg3 h
 have hl8:=(cellB_iff.1 hc).1
 obtain⟨e1,e2⟩:=Z4y h h8 l.length (Nat.le_refl _)
 have z1:=Zle l
 have z2:=Zle nx
 have z3:=Zle rs
 have z4:(nmsT L).size≤512*22+1:=Zhn (Zado h h8) (Znf hs)
 have z5:(Zbi 32 (ds.map Zaf)).size≤80:=by
  have:=Zgc (c:=32) (M:=9) (ps:=ds.map Zaf) (fun p hp=>by
   obtain⟨s,hs,rfl⟩:=List.mem_map.1 hp
   have:=h8 s hs
   have:=Ze2 s
   omega)
  rw[List.length_map]at this
  omega
 have z6:(decT t).size≤21:=Zde ⟨by omega,by omega⟩
 have z7:=Z33 hc hl
 have hg:=Zcv hl
 refine Zhb (Znc (Znc (Z6y h (by intro e;rw[e]at hl;exact absurd hl (by decide))) (Zty h h8 l.length (Nat.le_refl _))) (Z6l hc hl ht hn hr)) ?_ ?_ ?_
 ·rw[List.length_append,List.length_append,Z88]
  show 2+l.length+3≤100
  omega
 ·rw[List.map_append,List.map_append,Zd1,Zd1]
  simp only[Zt1,Zv3,hg,List.map_cons,List.map_nil,Zaz,Zbf,ByteArray.size_append,Zk5,List.length_cons,List.length_nil]
  omega
 ·rw[List.map_append,List.map_append,Zd1,Zd1]
  simp only[Zt1,Zv3,sokT,List.map_cons,List.map_nil,Zaz,Zbf,ByteArray.size_append,Zk5,List.length_cons,List.length_nil]
  omega
theorem cel_text0 {ds:List ByteArray} (l:List Stn) (L:List Int) (h:ds≠[]):Zb0 ((Zt1 l ds L).map Prod.fst)=(⟨#[99,101,108,108,32]⟩:ByteArray)++fmtT l++(⟨#[10,115,101,110,100]⟩:ByteArray)++spT' (ds.map Zaf)++(⟨#[10]⟩:ByteArray):=by
 rw[Z11 (by simpa using h)]
 apply Zae
 simp only[Zt1,List.map_cons,List.map_nil,Zaz,Zbf,Zbw,Zfy,List.append_assoc,List.cons_append,List.nil_append]
theorem cel_out0 (l:List Stn) (ds:List ByteArray) (L:List Int):Zb0 ((Zt1 l ds L).map Prod.snd)=(⟨#[111,107,10]⟩:ByteArray)++nmsT L++(⟨#[10]⟩:ByteArray):=by
 apply Zae
 simp only[Zt1,sokT,List.map_cons,List.map_nil,Zaz,Zbf,Zbw,Zfy,List.append_assoc,List.cons_append,List.nil_append]
theorem cel_text1 (T:ByteArray) (l:List Stn) (ds:List ByteArray) (L:List Int) (k:Nat):T++Zb0 ((Zmj l ds L (k+1)).map Prod.fst)=T++Zb0 ((Zmj l ds L k).map Prod.fst)++(⟨#[104,101,97,114,32]⟩:ByteArray)++(l.getD k zstn).nm++(⟨#[32]⟩:ByteArray)++decT ((ds.getD k ⟨#[]⟩).size:Int)++(⟨#[10]⟩:ByteArray):=by
 rw[Zko,List.map_append,Zd1]
 apply Zae
 simp only[Zup,List.map_cons,List.map_nil,Zaz,Zbf,Zbw,Zfy,List.append_assoc,List.cons_append,List.nil_append]
theorem cel_out1 (T:ByteArray) (l:List Stn) (ds:List ByteArray) (L:List Int) (k:Nat):T++Zb0 ((Zmj l ds L (k+1)).map Prod.snd)=T++Zb0 ((Zmj l ds L k).map Prod.snd)++Zaf (Z6v l ds L k)++(⟨#[10]⟩:ByteArray):=by
 rw[Zko,List.map_append,Zd1]
 apply Zae
 simp only[Zup,List.map_cons,List.map_nil,Zaz,Zbf,Zbw,Zfy,List.append_assoc,List.cons_append,List.nil_append]
theorem cel_text2 (T:ByteArray) (l nx rs:List Stn) (t:Int):T++Zb0 ((Zv3 l nx rs t).map Prod.fst)=T++(⟨#[112,111,119,101,114,32]⟩:ByteArray)++decT t++(⟨#[10,114,101,108,101,97,115,101,32]⟩:ByteArray)++(l.getD 0 zstn).nm++(⟨#[10,99,101,108,108,10]⟩:ByteArray):=by
 apply Zae
 simp only[Zv3,List.map_cons,List.map_nil,Zaz,Zbf,Zbw,Zfy,List.append_assoc,List.cons_append,List.nil_append]
theorem cel_out2 (T:ByteArray) (l nx rs:List Stn) (t:Int):T++Zb0 ((Zv3 l nx rs t).map Prod.snd)=T++fmtT nx++(⟨#[10]⟩:ByteArray)++fmtT rs++(⟨#[10]⟩:ByteArray)++fmtT rs++(⟨#[10]⟩:ByteArray):=by
 apply Zae
 simp only[Zv3,List.map_cons,List.map_nil,Zaz,Zbf,Zbw,Zfy,List.append_assoc,List.cons_append,List.nil_append]
end Go.Proofs.YtcjihfongfefoaaGreatDoor
