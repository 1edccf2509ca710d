/- Fp Fq Tc Td Ru Rv Rx Qa Qb -/
import Derived.Test.YtcjihfongfefoaaGreatDoorJ05
import Derived.Test.YtcjihfongfefoaaGreatDoorJ06
import Derived.Deep.LoopGhost
namespace Go.Proofs.YtcjihfongfefoaaGreatDoor
open Go.RowKit
set_option maxHeartbeats 25600000
set_option maxRecDepth 100000
def bitN (n d i:Nat):Nat:=n/2^(d-1-i)%2
def binL (n d:Nat):List Int:=(List.range d).map fun i=>((48+bitN n d i:Nat):Int)
def binT (n d:Nat):ByteArray:=text (binL n d)
theorem Zhm (n d:Nat):(binL n d).length=d:=by simp[binL]
theorem Zpd {n d i:Nat} (h:i<(binL n d).length):(binL n d)[i]=((48+bitN n d i:Nat):Int):=by simp[binL]
theorem Zwp (n d i:Nat):bitN n d i≤1:=by unfold bitN;omega
theorem Zdn (n d:Nat):(binT n d).size=d:=by unfold binT;rw[Zaq,Zhm]
theorem Zgy (n:Nat) (w:World) (h:n≤1):Calls Tryz.prog 165 #[.int .i64 n] w fun e w'=>e= .returned (.int .u8 ((48+n:Nat):Int))∧w=w':=by
 rcases(show n=0∨n=1 by omega)with rfl|rfl
 ·go_enter Tryz.func165,Tryz.ntmps165
  go_wp2
  go_ret
  exact⟨rfl,rfl⟩
 ·go_enter Tryz.func165,Tryz.ntmps165
  go_wp2
  go_ret
  exact⟨rfl,rfl⟩
theorem Zxl (n d:Nat) (w:World) (hd:d≤6) (hn:n<64):Calls Tryz.prog 101 #[.int .i64 n,.int .i64 d] w fun e w'=>e= .returned (.string (binT n d))∧Below w.heap.size w w':=by
 have HL:=Lib.hid (Zhm n d)
 go_enter Tryz.func101,Tryz.ntmps101
 go_wp2_with (at_make;refine Zcd 22 5 1 (0:Int) Tryz.underlying22 Zct rfl (by decide) w rfl _ _ rfl .i64 .i64 d rfl rfl (by omega) ?_;intro w1 hown hb)
 have hF:=FillF.start hown HL.out (by simp)
 clear hown
 go_loopw [11] (fun i wr=>∃k:Nat,k≤d∧i= .int .i64 k∧Zmz wr w.heap.size w.heap.size d (binL n d) (List.replicate d 0) k∧Below w.heap.size w wr) (fun i _=>d-(intOf i).toNat)
 case atStart=>exact⟨0,Nat.zero_le _,rfl,hF,hb⟩
 case round=>
  clear hF hb
  obtain⟨k,hk,rfl,hF,hb⟩:=hrel
  by_cases hlt:k<d
  ·obtain⟨z,hc⟩:=hF.cell hlt
   have hf:=hF.free k
   have eA:bits .and .i64 ((n:Int)/2^(d-1-k)) 1=((bitN n d k:Nat):Int):=by
    have e1:(n:Int)/2^(d-1-k)=((n/2^(d-1-k):Nat):Int):=by simp
    rw[e1]
    have h1:n/2^(d-1-k)≤n:=Nat.div_le_self _ _
    have h2:=Zfd (n/2^(d-1-k)) 1 (by omega) (by omega)
    rw[show((1:Nat):Int)=1 from rfl]at h2
    rw[h2,Nat.and_one_is_mod];rfl
   have hst:=hF.step hlt (y:=.int .u8 ((48+bitN n d k:Nat):Int)) (fun hl=>by rw[Zpd hl])
   have hb2:=hF.below hb (.int .u8 ((48+bitN n d k:Nat):Int))
   have hb1:=Zwp n d k
   have EA:=Lib.hid eA
   clear eA hF hb
   go_wp2_with fail
   rw[EA.out]
   refine(Zgy _ _ hb1).mono ?_;rintro e w' ⟨rfl,rfl⟩
   generalize bitN n d k=B at*
   go_wp2_with fail
   go_roundw
   case rel=>exact⟨k+1,by omega,by go_num,hst,hb2⟩
   case measure=>simp[intOf];omega
  ·obtain rfl:k=d:=by omega
   have hd0:=hF.done (Nat.le_refl _)
   obtain⟨a1,n1,c1,e1,ho⟩:=hd0.own (by rw[HL.out];omega)
   cases e1
   have hrd:=ho.rd
   go_wp2_with (with_reducible refine Zca 22 5 9 Tryz.underlying22 Tryz.underlying5 Tryz.underlying9 _ rfl (.tmp 26) rfl rfl hrd ?_)
   go_ret
   exact⟨rfl,hb⟩
theorem Zzx (n:Nat) (w:World) (h:n≤9):Calls Tryz.prog 141 #[.int .i64 n] w fun e w'=>e= .returned (.string (text [((48+n:Nat):Int)]))∧Below w.heap.size w w':=by
 have hT:=Lib.hid (Zgg (48+(n:Int)))
 have hE:=Lib.hid (show text [48+(n:Int)]++(⟨#[]⟩:ByteArray)=text [((48+n:Nat):Int)]by rw[show(48+(n:Int))=((48+n:Nat):Int)by omega];apply ByteArray.ext;simp)
 have hsum:¬(text [48+(n:Int)]).size+(⟨#[]⟩:ByteArray).size>9223372036854775807:=by rw[hT.out];decide
 have hb:Below w.heap.size w (w.alloc (.cells #[.int .u8 (48+(n:Int))] 5)):=(Below.refl _ _).alloc (Nat.le_refl _) _
 go_enter Tryz.func141,Tryz.ntmps141
 go_wp2_with fail
 go_loop [0,3] (fun m o=>m= .int .i64 n∧o= .string ⟨#[]⟩) (fun _ _=>0)
 case atStart=>exact⟨rfl,rfl⟩
 case round=>
  obtain⟨rfl,rfl⟩:=hrel
  go_wp2_with (with_reducible refine Zca 22 5 9 Tryz.underlying22 Tryz.underlying5 Tryz.underlying9 _ rfl (.tmp 27) rfl rfl (Zr9 _ _ _) ?_)
  go_ret
  exact⟨Zaji hE.out,hb⟩
def Zjt (u:List ByteArray) (p:ByteArray):Bool:=u.all fun q=>!Zen p q
def Zg8 (u:List ByteArray) (d k:Nat):List ByteArray:=((List.range k).map (fun n=>binT n d)).filter (Zjt u)
theorem Zw3 {u:List ByteArray} {d k:Nat} (h:Zjt u (binT k d)=true):Zg8 u d (k+1)=Zg8 u d k++[binT k d]:=by
 unfold Zg8;rw[List.range_succ,List.map_append,List.filter_append];simp[h]
theorem Z2g {u:List ByteArray} {d k:Nat} (h:Zjt u (binT k d)=false):Zg8 u d (k+1)=Zg8 u d k:=by
 unfold Zg8;rw[List.range_succ,List.map_append,List.filter_append];simp[h]
theorem Zmk (u:List ByteArray) (d k:Nat):(Zg8 u d k).length≤k:=by
 unfold Zg8;refine Nat.le_trans (List.length_filter_le _ _) ?_;simp
theorem Z9q {u:List ByteArray} {p:ByteArray} {n:Nat} (hn:u.length≤n) (h:∀x (_:x<n) (hl:x<u.length),Zen p u[x]=false):Zjt u p=true:=by
 unfold Zjt;rw[List.all_eq_true]
 intro q hq
 obtain⟨i,hi,rfl⟩:=List.getElem_of_mem hq
 rw[h i (by omega) hi];rfl
theorem Zabe {u:List ByteArray} {p:ByteArray} {j:Nat} (hl:j<u.length) (h:Zen p u[j]=true):Zjt u p=false:=by
 unfold Zjt;rw[List.all_eq_false];exact⟨u[j],List.getElem_mem hl,by simp[h]⟩
theorem Z6a {u:List ByteArray} {p:ByteArray} {j:Nat} (hl:j<u.length):Zjt (u.take (j+1)) p=(Zjt (u.take j) p&&!Zen p u[j]):=by
 unfold Zjt;rw[List.take_succ_eq_append_getElem hl,List.all_append];simp
theorem Zyn {n d:Nat} (hd:d≤6):Zcq (binT n d)=true:=by
 unfold Zcq
 rw[Zdn,decide_eq_true hd,Bool.true_and]
 unfold allS binT text
 rw[List.all_eq_true]
 intro c hc
 simp only[List.mem_map,binL]at hc
 obtain⟨x,⟨i,_,rfl⟩,rfl⟩:=hc
 have h:=Zwp n d i
 rcases(show bitN n d i=0∨bitN n d i=1 by omega)with e|e<;>rw[e]<;>decide
theorem pow6 {d:Nat} (h:d≤6):2^d≤64:=Nat.le_trans (Nat.pow_le_pow_right (by omega) h) (by decide)
theorem Zcr {q:ByteArray} (h:Zcq q=true):q.size≤6:=by
 unfold Zcq at h;rw[Bool.and_eq_true,decide_eq_true_eq]at h;exact h.1
theorem Z1t {ao:Option Addr} {n c:Nat} {u:List ByteArray} {w:World} (d:Nat) (h:RdT w ao n u) (hd:d≤6) (hp:∀q∈u,Zcq q=true) (hlen:n≤70):
 Calls Tryz.prog 307 #[.slice ao n c,.int .i64 d] w fun e w'=>∃bo m cc,e= .returned (.tuple #[.slice bo m cc,.bool true])∧OwnT w' w.heap.size bo m cc (Zg8 u d (2^d))∧Below w.heap.size w w':=by
 have HN:=Lib.hid h.1
 have HP:=Lib.hid hp;clear hp
 have hpw:(2:Int)^d=((2^d:Nat):Int):=by rw[Int.natCast_pow];rfl
 have hP:2^d≤64:=pow6 hd
 have HF:=Lib.hid (show ∃P,P=2^d from⟨_,rfl⟩)
 have HR:=Lib.hid (show ∀x,x=Zg8 u d (2^d)→x=Zg8 u d (2^d)from fun _ h=>h)
 have HK:=Lib.hid (show ∀k,k<2^d→k<64 from fun k hk=>by omega)
 generalize hPe:2^d=P at*
 have hwA:IntKind.i64.wrap ((2:Int)^d)=(P:Int):=by rw[hpw];exact IntWalk.i64_in _ (by omega)
 have hwB:IntKind.i64.wrap ((1:Int)*2^d)=(P:Int):=by rw[Int.one_mul];exact hwA
 have hwC:RowKit.wrap64 ((2:Int)^d)=(P:Int):=by unfold wrap64;rw[hpw];omega
 clear hpw hPe HF HR
 have HA:=Lib.hid hwA;have HB:=Lib.hid hwB;have HC:=Lib.hid hwC
 clear hwA hwB hwC
 have hs:=h.2.1
 go_enter Tryz.func307,Tryz.ntmps307
 go_wp2
 go_step3
 go_wp2
 go_loop [26] (fun i=>∃k:Nat,k≤n∧i= .int .i64 k) (fun i=>n-(intOf i).toNat)
 case atStart=>exact⟨0,Nat.zero_le _,rfl⟩
 case round=>
  obtain⟨k,hk,rfl⟩:=hrel
  by_cases hlt:k<n
  ·obtain⟨bk,off,rfl,hl,hc⟩:=h.at hlt
   go_wp2_with fail
   refine(Zcu _ _).mono ?_;rintro e w' ⟨rfl,rfl⟩
   rw[HP.out _ (List.getElem_mem hl)]
   go_wp2_with fail
   go_round
   case rel=>exact⟨k+1,by omega,by go_num⟩
   case measure=>simp[intOf];omega
  ·have hb0:Below w.heap.size w (w.alloc (.cells #[] 9)):=(Below.refl _ _).alloc (Nat.le_refl _) _
   go_wp2_with fail
   go_step3
   have hwA:=HA.out;have hwB:=HB.out;have hwC:=HC.out
   go_wp2_with fail
   clear hwA hwB hwC
   go_loopg [8,37] P (fun g v i wr=>∃k:Nat,k+g=P∧i= .int .i64 k∧Zjo wr w.heap.size v (Zg8 u d k)∧Below w.heap.size w wr)
   case atStart=>exact⟨0,by omega,rfl,OwnVF.made0 _ _ w (Nat.le_refl _),hb0⟩
   case round=>
    obtain⟨k2,hk2,rfl,hown,hb⟩:=hrel
    cases gk with
    |zero=>
     obtain rfl:k2=P:=by omega
     obtain⟨bo,m,cc,rfl,ho⟩:=hown.own (by have:=Zmk u d k2;omega)
     go_wp2_with fail
     try rw[Exit.noGoto_ret]
     go_ret2
     exact⟨bo,m,cc,rfl,ho,hb⟩
    |succ g=>
     have hlt2:k2<P:=by omega
     have hk64:k2<64:=HK.out k2 hlt2
     have hPB:=Lib.hid (Zyn (n:=k2) hd)
     obtain⟨wo,hwo⟩:∃wo:World,wo=wr:=⟨_,rfl⟩
     subst hwo
     go_wp2_with fail
     refine(Zxl k2 d _ hd hk64).mono ?_;rintro e w2 ⟨rfl,hbt⟩
     have hown2:=hown.below hbt
     have hb2:=hb.trans (hbt.mono hb.size)
     have h2:=h.below hb2
     have hFN:=Lib.hid (Z2g (u:=u) (d:=d) (k:=k2))
     have hFY:=Lib.hid (Zw3 (u:=u) (d:=d) (k:=k2))
     have hFL:=Zmk u d k2
     have HHIT:=Lib.hid (fun j hl h=>@Zabe u (binT k2 d) j hl h)
     have HALL:=Lib.hid (fun n hn h=>@Z9q u (binT k2 d) n hn h)
     clear hown hb hbt
     generalize binT k2 d=p at*
     go_wp2_with fail
     go_loopg [45] n (fun g2 i wy=>∃j:Nat,j+g2=n∧i= .int .i64 j∧(∀x (_:x<j) (hl:x<u.length),Zen p u[x]=false)∧w2=wy)
     case atStart=>exact⟨0,by omega,rfl,fun x hx=>absurd hx (by omega),rfl⟩
     case round=>
      obtain⟨j,hj,rfl,hno,rfl⟩:=hrel
      have HO:=Lib.hid hno;clear hno
      cases gk with
      |zero=>
       obtain rfl:j=n:=by omega
       have hz:=hb2.size
       have hfb:=HALL.out j (by have:=HN.out;omega) HO.out
       go_wp2_with (at_builtin;go_loud (refine Zd5 24 9 16 ByteArray.empty Tryz.underlying24 Zd2 rfl (by decide) (fun _=>rfl) w2 rfl _ _ rfl w.heap.size _ _ _ rfl (by exact hown2) rfl (by omega) hz ?_);intro v' w3 hown3 _ hb3)
       have hown4:Zjo w3 w.heap.size v' (Zg8 u d (k2+1)):=by rw[hFY.out hfb];exact hown3
       have hb4:=hb2.trans hb3
       go_wp2_with fail
       go_roundg g
       case measure=>omega
       case rel=>exact⟨k2+1,by omega,by go_num,hown4,hb4⟩
      |succ g2=>
       have hlt3:j<n:=by omega
       obtain⟨bk,off,rfl,hl,hc⟩:=h2.at hlt3
       by_cases hcf:Zen p u[j]=true
       ·have hown4:=hown2
        rw[←hFN.out (HHIT.out j hl hcf)]at hown4
        go_wp2_with fail
        refine(Zfg _ _ _ hPB.out (HP.out _ (List.getElem_mem hl))).mono ?_;rintro e w' ⟨rfl,rfl⟩
        rw[hcf]
        go_wp2_with fail
        go_roundg g
        case measure=>omega
        case rel=>exact⟨k2+1,by omega,by go_num,hown4,hb2⟩
       ·have hcf':Zen p u[j]=false:=by simpa using hcf
        go_wp2_with fail
        refine(Zfg _ _ _ hPB.out (HP.out _ (List.getElem_mem hl))).mono ?_;rintro e w' ⟨rfl,rfl⟩
        rw[hcf']
        have HT:=Lib.hid (show ∀x (_:x<j+1) (hl:x<u.length),Zen p u[x]=false from fun x hx hl2=>by
         rcases Nat.lt_succ_iff_lt_or_eq.1 hx with hx|rfl
         ·exact HO.out x hx hl2
         ·exact hcf')
        clear hcf hcf'
        go_wp2_with fail
        go_roundg g2
        case measure=>omega
        case rel=>exact⟨j+1,by omega,by go_num,HT.out,rfl⟩
def Zf3 (u:List ByteArray) (d:Int):Option ByteArray:=if inB d 0 6=true then(Zg8 u d.toNat (2^d.toNat)).head? else none
theorem Zqv {u:List ByteArray} {d:Int} (h:inB d 0 6=false):Zf3 u d=none:=by unfold Zf3;rw[h];rfl
theorem Zsu {u:List ByteArray} {d:Nat} (h:d≤6):Zf3 u d=(Zg8 u d (2^d)).head?:=by
 unfold Zf3;rw[Zax (by omega) (by omega),if_pos rfl];simp
theorem Zwx {ao:Option Addr} {n c:Nat} {w:World} (d:Int) (hd:inB d 0 6=false) (hlen:n≤70):
 Calls Tryz.prog 307 #[.slice ao n c,.int .i64 d] w fun e w'=>e= .returned (.tuple #[.slice none 0 0,.bool false])∧w=w':=by
 by_cases h0:d<0
 ·go_enter Tryz.func307,Tryz.ntmps307
  go_wp2
  go_step3
  go_wp2
  try rw[Exit.noGoto_ret]
  go_ret2
  exact⟨rfl,rfl⟩
 ·have h6:6<d:=by
   by_cases h6:6<d
   ·exact h6
   ·rw[Zax (by omega) (by omega)]at hd;cases hd
  clear hd
  go_enter Tryz.func307,Tryz.ntmps307
  go_wp2
  go_step3
  go_wp2
  try rw[Exit.noGoto_ret]
  go_ret2
  exact⟨rfl,rfl⟩
theorem Zse {ao:Option Addr} {n c:Nat} {u:List ByteArray} {w:World} (d:Int) (h:RdT w ao n u) (hp:∀q∈u,Zcq q=true) (hlen:n≤70):
 Calls Tryz.prog 273 #[.slice ao n c,.int .i64 d] w (Zdx w (Zf3 u d)):=by
 by_cases hd:inB d 0 6=true
 ·have hd':=inB_iff.1 hd
  obtain⟨D,rfl⟩:=Int.eq_ofNat_of_zero_le hd'.1
  have hD:D≤6:=by omega
  have HR:=Lib.hid (Zsu (u:=u) hD)
  clear hd hd'
  go_enter Tryz.func273,Tryz.ntmps273
  go_wp2_with fail
  refine(Z1t D h hD hp hlen).mono ?_;rintro e w2 ⟨bo,m,cc,rfl,ho,hb⟩
  clear h hp
  generalize Zg8 u D (2^D)=L at*
  cases L with
  |nil=>
   have hm:=ho.rd.1
   have hm0:m=0:=by simpa using hm
   subst hm0
   clear hm
   go_wp2_with fail
   go_ret2
   exact Zag HR.out hb
  |cons x L=>
   have hm:=ho.rd.1
   have hm0:0<m:=by rw[hm];simp
   have hmne:((m:Int)==0)=false:=by simp;omega
   obtain⟨bk,off,rfl,hl,hc⟩:=ho.rd.at hm0
   rw[Nat.add_zero]at hc
   have hm1:(0:Int)<(m:Int):=by omega
   have HM:=Lib.hid hm;clear hm
   go_wp2_with fail
   go_ret2
   exact Zbb HR.out hb
 ·have hd':inB d 0 6=false:=by simpa using hd
  have HR:=Lib.hid (Zqv (u:=u) hd')
  clear hd
  go_enter Tryz.func273,Tryz.ntmps273
  go_wp2_with fail
  refine(Zwx d hd' hlen).mono ?_;rintro e w2 ⟨rfl,rfl⟩
  clear hd' h
  go_wp2_with fail
  go_ret2
  exact Zag HR.out (Below.refl _ _)
theorem Z3n {ao:Option Addr} {n c:Nat} {u:List ByteArray} {w:World} (d:Int) (h:RdT w ao n u) (hp:∀q∈u,Zcq q=true) (hlen:n≤70):
 Calls Tryz.prog 292 #[.slice ao n c,.int .i64 d] w fun e w'=>e= .returned (.bool (inB d 0 6))∧w=w':=by
 have HP:=Lib.hid hp;clear hp
 go_enter Tryz.func292,Tryz.ntmps292
 go_wp2
 go_loop [5] (fun i=>∃k:Nat,k≤n∧i= .int .i64 k) (fun i=>n-(intOf i).toNat)
 case atStart=>exact⟨0,Nat.zero_le _,rfl⟩
 case round=>
  obtain⟨k,hk,rfl⟩:=hrel
  by_cases hlt:k<n
  ·obtain⟨bk,off,rfl,hl,hc⟩:=h.at hlt
   have hz:=Zcr (HP.out _ (List.getElem_mem hl))
   go_wp2_with fail
   refine(Zkt _ _ (by omega)).mono ?_;rintro e w' ⟨rfl,rfl⟩
   rw[HP.out _ (List.getElem_mem hl)]
   go_wp2_with fail
   go_round
   case rel=>exact⟨k+1,by omega,by go_num⟩
   case measure=>simp[intOf];omega
  ·go_wp2_with fail
   refine(Zbq _ _ _ _).mono ?_;rintro e w' ⟨rfl,rfl⟩
   by_cases hd:inB d 0 6=true
   ·rw[hd]
    have HD:=Lib.hid hd;clear hd
    go_wp2_with fail
    go_ret
    exact⟨Zav ((decide_eq_true (by omega)).trans HD.out.symm),rfl⟩
   ·have hd':inB d 0 6=false:=by simpa using hd
    rw[hd']
    have HD:=Lib.hid hd';clear hd hd'
    go_wp2_with fail
    go_ret
    exact⟨Zav HD.out.symm,rfl⟩
theorem Ze3 (l r:List Int):text l++text r=text (l++r):=by
 apply ByteArray.ext;simp[text]
theorem Zabk {n d k:Nat} (h:k<d):(binL n d).take (k+1)=(binL n d).take k++[((48+bitN n d k:Nat):Int)]:=by
 have hl:k<(binL n d).length:=by rw[Zhm];exact h
 rw[List.take_succ_eq_append_getElem hl,Zpd hl]
theorem Zaf9 {ao:Option Addr} {n c:Nat} {u:List ByteArray} {w:World} (d:Nat) (h:RdT w ao n u) (hd:d≤6) (hp:∀q∈u,Zcq q=true) (hlen:n≤70):
 Calls Tryz.prog 293 #[.slice ao n c,.int .i64 d] w fun e w'=>∃bo m cc,e= .returned (.slice bo m cc)∧OwnT w' w.heap.size bo m cc (Zg8 u d (2^d))∧Below w.heap.size w w':=by
 have HN:=Lib.hid h.1
 have HP:=Lib.hid hp;clear hp
 have hP:2^d≤64:=pow6 hd
 have hpw:(2:Int)^(d:Int).toNat=((2^d:Nat):Int):=by rw[Int.toNat_natCast,Int.natCast_pow];rfl
 have HK:=Lib.hid (show ∀k,k<2^d→k<64 from fun k hk=>by omega)
 generalize hPe:2^d=P at*
 have HPW:=Lib.hid hpw
 have hs:=h.2.1
 have hb0:Below w.heap.size w (w.alloc (.cells #[] 9)):=(Below.refl _ _).alloc (Nat.le_refl _) _
 clear hpw hPe
 go_enter Tryz.func293,Tryz.ntmps293
 go_wp2
 go_loopw [5,6] (fun v i wr=>∃k:Nat,k≤P∧i= .int .i64 k∧Zjo wr w.heap.size v (Zg8 u d k)∧Below w.heap.size w wr) (fun _ i _=>P-(intOf i).toNat)
 case atStart=>exact⟨0,Nat.zero_le _,rfl,OwnVF.made0 _ _ w (Nat.le_refl _),hb0⟩
 case round=>
  obtain⟨k2,hk2,rfl,hown,hb⟩:=hrel
  obtain⟨wo,hwo⟩:∃wo:World,wo=wr:=⟨_,rfl⟩
  subst hwo
  have hz:=hb.size
  go_wp2_with fail
  refine(Zdd (d:Int) _ (by omega)).mono ?_;rintro e w' ⟨rfl,rfl⟩
  rw[HPW.out]
  by_cases hlt2:k2<P
  ·have hk64:k2<64:=HK.out k2 hlt2
   go_wp2_with fail
   go_loopw [7,8] (fun v i wr=>∃(j:Nat) (t:Int),j≤d∧t=(d:Int)-1-(j:Int)∧v= .string (text ((binL k2 d).take j))∧i= .int .i64 t∧Below wo.heap.size wo wr) (fun _ i _=>(intOf i+1).toNat)
   case atStart=>exact⟨0,(d:Int)-1,Nat.zero_le _,by omega,rfl,rfl,Below.refl _ _⟩
   case round=>
    obtain⟨j,t,hj,ht,rfl,rfl,hbr⟩:=hrel
    have hzr:=hbr.size
    by_cases hlt3:j<d
    ·obtain⟨S,rfl⟩:=Int.eq_ofNat_of_zero_le (show 0≤t by omega)
     have hS:S=d-1-j:=by omega
     have hS6:S≤6:=by omega
     have HSd:=Lib.hid ht
     have hQ1:2^S≤64:=pow6 hS6
     have hQ0:0<2^S:=Nat.pow_pos (by omega)
     have HQ:=Lib.hid (show(2:Int)^((S:Int)).toNat=((2^S:Nat):Int)by rw[Int.toNat_natCast,Int.natCast_pow];rfl)
     have HB:=Lib.hid (show bitN k2 d j=k2/2^S%2 by unfold bitN;rw[←hS])
     clear ht hS
     go_wp2_with fail
     refine(Zdd (S:Int) _ (by omega)).mono ?_;rintro e w' ⟨rfl,rfl⟩
     rw[HQ.out]
     clear HQ
     generalize 2^S=Q at*
     obtain⟨V,hV⟩:∃V,V=k2/Q:=⟨_,rfl⟩
     obtain⟨B,hB⟩:∃B,B=V%2:=⟨_,rfl⟩
     have hB9:B≤9:=by omega
     have hQne:((Q:Int)==0)=false:=by simp;omega
     have e1:(k2:Int).tdiv (Q:Int)=(V:Int):=by rw[hV,Int.ofNat_tdiv]
     have e2:(V:Int).tmod 2=(B:Int):=by rw[hB];rfl
     have e3:(V:Int)%2=(B:Int):=by rw[hB];rfl
     have e4:(k2:Int)/(Q:Int)=(V:Int):=by rw[hV];rfl
     have HBB:=Lib.hid (show bitN k2 d j=B by rw[HB.out,hB,hV])
     have hVk:V≤k2:=by rw[hV];exact Nat.div_le_self _ _
     clear hV hB HB
     go_wp2_with fail
     clear e1 e2 e3 e4
     refine(Zzx B _ hB9).mono ?_;rintro e w3 ⟨rfl,hb3⟩
     have hb4:=hbr.trans (hb3.mono hzr)
     have HX:=Lib.hid (show text ((binL k2 d).take j)++text [((48+B:Nat):Int)]=text ((binL k2 d).take (j+1))by rw[Ze3,Zabk hlt3,HBB.out])
     have hz1:(text ((binL k2 d).take j)).size≤6:=by rw[Zaq,List.length_take];omega
     have hz2:(text [((48+B:Nat):Int)]).size=1:=Zaq _
     have HZ2:=Lib.hid hz2;clear hz2
     have hsum:¬(text ((binL k2 d).take j)).size+(text [((48+B:Nat):Int)]).size>9223372036854775807:=by rw[HZ2.out];omega
     clear hb3 hbr
     generalize text [((48+B:Nat):Int)]=X at*
     go_wp2_with fail
     rw[HX.out]
     go_roundw
     case rel=>exact⟨j+1,(S:Int)-1,by omega,by have:=HSd.out;omega,rfl,by go_num,hb4⟩
     case measure=>simp[intOf]
    ·obtain rfl:j=d:=by omega
     obtain rfl:t= -1:=by omega
     have HT:=Lib.hid (show(binL k2 j).take j=binL k2 j from List.take_of_length_le (by rw[Zhm];exact Nat.le_refl _))
     rw[HT.out]
     have hpz:(binT k2 j).size≤6:=by rw[Zdn];exact hd
     rw[show text (binL k2 j)=binT k2 j from rfl]
     have hown2:=hown.below hbr
     have hb2:=hb.trans (hbr.mono hz)
     have h2:=h.below hb2
     have HFN:=Lib.hid (Z2g (u:=u) (d:=j) (k:=k2))
     have HFY:=Lib.hid (Zw3 (u:=u) (d:=j) (k:=k2))
     have hFL:=Zmk u j k2
     have HTK:=Lib.hid (fun x hl=>@Z6a u (binT k2 j) x hl)
     obtain⟨w2,hw2⟩:∃w2:World,w2=wr:=⟨_,rfl⟩
     subst hw2
     clear hown hb hbr ht HT
     generalize binT k2 j=p at*
     go_wp2_with fail
     go_loopw [9,10] (fun f i wy=>∃x:Nat,x≤n∧i= .int .i64 x∧f= .bool (Zjt (u.take x) p)∧Qw w2 wy) (fun _ i _=>n-(intOf i).toNat)
     case atStart=>exact⟨0,Nat.zero_le _,rfl,rfl,Qw.refl _⟩
     case round=>
      obtain⟨x,hx,rfl,rfl,hq⟩:=hrel
      obtain⟨w5,hw5⟩:∃w5:World,w5=wr:=⟨_,rfl⟩
      subst hw5
      by_cases hlx:x<n
      ·obtain⟨bk,off,rfl,hl,hc⟩:=(h2.qw hq).at hlx
       have hz3:=Zcr (HP.out _ (List.getElem_mem hl))
       have HTX:=Lib.hid (HTK.out x hl)
       by_cases hf:Zjt (u.take x) p=true
       ·rw[hf]at HTX ⊢
        clear hf
        go_wp2_with fail
        refine(Zj7 _ _ _ (by omega) (by omega)).mono ?_;rintro e w6 ⟨rfl,hq6⟩
        by_cases hcf:Zen p u[x]=true
        ·rw[hcf]at HTX ⊢
         clear hcf
         go_wp2_with fail
         go_roundw
         case rel=>exact⟨x+1,by omega,by go_num,by rw[HTX.out];rfl,hq.trans hq6⟩
         case measure=>simp[intOf];omega
        ·have hcf':Zen p u[x]=false:=by simpa using hcf
         rw[hcf']at HTX ⊢
         clear hcf hcf'
         go_wp2_with fail
         go_roundw
         case rel=>exact⟨x+1,by omega,by go_num,by rw[HTX.out];rfl,hq.trans hq6⟩
         case measure=>simp[intOf];omega
       ·have hf':Zjt (u.take x) p=false:=by simpa using hf
        rw[hf']at HTX ⊢
        clear hf hf'
        go_wp2_with fail
        go_roundw
        case rel=>exact⟨x+1,by omega,by go_num,by rw[HTX.out];rfl,hq⟩
        case measure=>simp[intOf];omega
      ·obtain rfl:x=n:=by omega
       have hown3:=hown2.below (hq.below _)
       have hb3:=hb2.trans ((hq.below w2.heap.size).mono hb2.size)
       have hz3:=hb3.size
       have hTA:u.take x=u:=List.take_of_length_le (by have:=HN.out;omega)
       rw[hTA]
       clear hTA hown2 hb2 hq
       by_cases hf:Zjt u p=true
       ·rw[hf]
        have HF:=Lib.hid (HFY.out hf);clear hf
        go_wp2_with (at_builtin;refine Zd5 24 9 16 ByteArray.empty Tryz.underlying24 Zd2 rfl (by decide) (fun _=>rfl) w5 rfl _ _ rfl w.heap.size _ _ _ rfl (by exact hown3) rfl (by omega) hz3 ?_;intro v' w7 hown7 _ hb7)
        have hown8:Zjo w7 w.heap.size v' (Zg8 u j (k2+1)):=by rw[HF.out];exact hown7
        have hb8:=hb3.trans hb7
        clear hown7 hown3 hb3 hb7
        go_wp2_with fail
        go_roundw
        case rel=>exact⟨k2+1,by omega,by go_num,hown8,hb8⟩
        case measure=>simp[intOf];omega
       ·have hf':Zjt u p=false:=by simpa using hf
        rw[hf']
        rw[←HFN.out hf']at hown3
        clear hf hf'
        go_wp2_with fail
        go_roundw
        case rel=>exact⟨k2+1,by omega,by go_num,hown3,hb3⟩
        case measure=>simp[intOf];omega
  ·obtain rfl:k2=P:=by omega
   obtain⟨bo,m,cc,rfl,ho⟩:=hown.own (by have:=Zmk u d k2;omega)
   go_wp2_with fail
   go_ret
   exact⟨bo,m,cc,rfl,ho,hb⟩
theorem Zq5 {ao:Option Addr} {n c:Nat} {u:List ByteArray} {w:World} (d:Int) (h:RdT w ao n u) (hp:∀q∈u,Zcq q=true) (hlen:n≤70):
 Calls Tryz.prog 249 #[.slice ao n c,.int .i64 d] w (Zdx w (Zf3 u d)):=by
 by_cases hd:inB d 0 6=true
 ·have hd':=inB_iff.1 hd
  obtain⟨D,rfl⟩:=Int.eq_ofNat_of_zero_le hd'.1
  have hD:D≤6:=by omega
  have HR:=Lib.hid (Zsu (u:=u) hD)
  clear hd'
  go_enter Tryz.func249,Tryz.ntmps249
  go_wp2_with fail
  refine(Z3n (D:Int) h hp hlen).mono ?_;rintro e w' ⟨rfl,rfl⟩
  rw[hd]
  clear hd
  go_wp2_with fail
  refine(Zaf9 D h hD hp hlen).mono ?_;rintro e w2 ⟨bo,m,cc,rfl,ho,hb⟩
  clear h hp
  generalize Zg8 u D (2^D)=L at*
  cases L with
  |nil=>
   have hm:=ho.rd.1
   have hm0:m=0:=by simpa using hm
   subst hm0
   clear hm
   go_wp2_with fail
   go_ret2
   exact Zag HR.out hb
  |cons x L=>
   have hm:=ho.rd.1
   have hm0:0<m:=by rw[hm];simp
   have hmne:((m:Int)==0)=false:=by simp;omega
   obtain⟨bk,off,rfl,hl,hc⟩:=ho.rd.at hm0
   rw[Nat.add_zero]at hc
   have hm1:(0:Int)<(m:Int):=by omega
   have HM:=Lib.hid hm;clear hm
   go_wp2_with fail
   go_ret2
   exact Zbb HR.out hb
 ·have hd':inB d 0 6=false:=by simpa using hd
  have HR:=Lib.hid (Zqv (u:=u) hd')
  clear hd
  go_enter Tryz.func249,Tryz.ntmps249
  go_wp2_with fail
  refine(Z3n d h hp hlen).mono ?_;rintro e w' ⟨rfl,rfl⟩
  rw[hd']
  clear hd' h
  go_wp2_with fail
  go_ret2
  exact Zag HR.out (Below.refl _ _)
def invL (l:List Int):List Int:=l.map fun x=>97-x
def invT (s:ByteArray):ByteArray:=text (invL (Zab s))
def Za7 (x:Int):Prop:=x=48∨x=49
theorem Z2h {l:List Int} {i:Nat} (h:i<(invL l).length):(invL l)[i]=97-l[i]'(by simpa[invL]using h):=by simp[invL]
theorem Ziq (l:List Int):(invL l).length=l.length:=by simp[invL]
theorem Zvu (s:ByteArray) (w:World) (hs:s.size≤1000) (hb:∀x∈Zab s,Za7 x):Calls Tryz.prog 118 #[.string s] w fun e w'=>e= .returned (.string (invT s))∧Below w.heap.size w w':=by
 have HL:=Lib.hid (show(invL (Zab s)).length=s.size by rw[Ziq,Zac])
 have HB:=Lib.hid hb;clear hb
 go_enter Tryz.func118,Tryz.ntmps118
 go_wp2_with (at_make;refine Zcd 22 5 1 (0:Int) Tryz.underlying22 Zct rfl (by decide) w rfl _ _ rfl .i64 .i64 s.size rfl rfl (by omega) ?_;intro w1 hown hb)
 have hF:=FillF.start hown HL.out (by simp)
 clear hown
 go_loopw [10] (fun i wr=>∃k:Nat,k≤s.size∧i= .int .i64 k∧Zmz wr w.heap.size w.heap.size s.size (invL (Zab s)) (List.replicate s.size 0) k∧Below w.heap.size w wr) (fun i _=>s.size-(intOf i).toNat)
 case atStart=>exact⟨0,Nat.zero_le _,rfl,hF,hb⟩
 case round=>
  clear hF hb
  obtain⟨k,hk,rfl,hF,hb⟩:=hrel
  by_cases hlt:k<s.size
  ·obtain⟨z,hc⟩:=hF.cell hlt
   have hf:=hF.free k
   have hkc:k<(Zab s).length:=by rw[Zac];exact hlt
   have hbit:Za7 (s[k].toNat:Int):=by rw[←Zcj s hlt];exact HB.out _ (List.getElem_mem hkc)
   have hx:(s[k].toNat:Int)=48∨(s[k].toNat:Int)=49:=hbit
   have hst:=hF.step hlt (y:=.int .u8 (97-(s[k].toNat:Int))) (fun hl=>by rw[Z2h hl,Zcj s hlt])
   have hb2:=hF.below hb (.int .u8 (97-(s[k].toNat:Int)))
   clear hF hb hbit
   go_wp2_with fail
   go_roundw
   case rel=>exact⟨k+1,by omega,by go_num,hst,hb2⟩
   case measure=>simp[intOf];omega
  ·obtain rfl:k=s.size:=by omega
   obtain⟨a1,n1,c1,e1,ho⟩:=(hF.done (Nat.le_refl _)).own (by rw[HL.out];omega)
   cases e1
   have hrd:=ho.rd
   go_wp2_with (with_reducible refine Zca 22 5 9 Tryz.underlying22 Tryz.underlying5 Tryz.underlying9 _ rfl (.tmp 21) rfl rfl hrd ?_)
   go_ret
   exact⟨rfl,hb⟩
def Zdh (p:ByteArray):Nat→List Int
 |0=>[48]
 |k+1=>Zdh p k++(if(Zab p).getD k 0=48 then Zdh p k else invL (Zdh p k))
theorem Zic (p:ByteArray) (k:Nat):(Zdh p k).length=2^k:=by
 induction k with
 |zero=>rfl
 |succ k ih=>
  unfold Zdh
  rw[List.length_append,Nat.pow_succ]
  split
  ·omega
  ·rw[Ziq];omega
theorem Zh8 (p:ByteArray) (k:Nat):∀x∈Zdh p k,Za7 x:=by
 induction k with
 |zero=>intro x hx;unfold Zdh at hx;rw[List.mem_singleton]at hx;exact .inl hx
 |succ k ih=>
  intro x hx
  unfold Zdh at hx
  rcases List.mem_append.1 hx with hx|hx
  ·exact ih x hx
  ·split at hx
   ·exact ih x hx
   ·unfold invL at hx
    obtain⟨y,hy,rfl⟩:=List.mem_map.1 hx
    rcases ih y hy with h|h
    ·right;omega
    ·left;omega
theorem Zcf {l:List Int} (h:∀x∈l,Za7 x):Zab (text l)=l:=by
 unfold Zab text
 simp only[List.map_map]
 refine(List.map_congr_left fun x hx=>?_).trans (List.map_id l)
 rcases h x hx with rfl|rfl<;>decide
theorem Zyv {p:ByteArray} {k:Nat} (h:(Zab p).getD k 0=48):text (Zdh p k)++text (Zdh p k)=text (Zdh p (k+1)):=by
 rw[Ze3];conv=>rhs;unfold Zdh
 rw[if_pos h]
theorem Z3t {p:ByteArray} {k:Nat} (h:(Zab p).getD k 0≠48):text (Zdh p k)++invT (text (Zdh p k))=text (Zdh p (k+1)):=by
 unfold invT
 rw[Zcf (Zh8 p k),Ze3];conv=>rhs;unfold Zdh
 rw[if_neg h]
theorem Znq (p:ByteArray) (w:World) (hp:Zcq p=true):Calls Tryz.prog 47 #[.string p] w fun e w'=>e= .returned (.tuple #[.string (text (Zdh p p.size)),.bool true])∧Below w.heap.size w w':=by
 have hz:=Zcr hp
 have HCB:=Lib.hid (fun k (c:World) (hk:k≤6)=>Zvu (text (Zdh p k)) c (by rw[Zaq,Zic];have:=pow6 hk;omega) (by rw[Zcf (Zh8 p k)];exact Zh8 p k))
 go_enter Tryz.func47,Tryz.ntmps47
 go_wp2_with fail
 refine(Zcu _ _).mono ?_;rintro e w' ⟨rfl,rfl⟩
 rw[hp]
 clear hp
 go_wp2_with fail
 go_loopw [4,11] (fun s i wr=>∃k:Nat,k≤p.size∧i= .int .i64 k∧s= .string (text (Zdh p k))∧Below w.heap.size w wr) (fun _ i _=>p.size-(intOf i).toNat)
 case atStart=>exact⟨0,Nat.zero_le _,rfl,by unfold Zdh;rfl,Below.refl _ _⟩
 case round=>
  obtain⟨k,hk,rfl,rfl,hb⟩:=hrel
  obtain⟨wo,hwo⟩:∃wo:World,wo=wr:=⟨_,rfl⟩
  subst hwo
  by_cases hlt:k<p.size
  ·have hkc:k<(Zab p).length:=by rw[Zac];exact hlt
   have HG:=Lib.hid (show(Zab p).getD k 0=(p[k].toNat:Int)by rw[←Zcj p hlt];simp[List.getD,hkc])
   have hzk:(text (Zdh p k)).size≤64:=by rw[Zaq,Zic];exact pow6 (by omega)
   have hzk2:(invT (text (Zdh p k))).size≤64:=by unfold invT;rw[Zaq,Ziq,Zac];exact hzk
   have hs1:¬(text (Zdh p k)).size+(text (Zdh p k)).size>9223372036854775807:=by omega
   have hs2:¬(text (Zdh p k)).size+(invT (text (Zdh p k))).size>9223372036854775807:=by omega
   by_cases h0:(p[k].toNat:Int)=48
   ·have h0':((p[k].toNat:Int)==48)=true:=by simp;omega
    have HX:=Lib.hid (Zyv (HG.out.trans h0))
    clear h0
    go_wp2_with fail
    rw[HX.out]
    go_roundw
    case rel=>exact⟨k+1,by omega,by go_num,rfl,hb⟩
    case measure=>simp[intOf];omega
   ·have h0':((p[k].toNat:Int)==48)=false:=by simp;omega
    have HX:=Lib.hid (Z3t (p:=p) (k:=k) (by rw[HG.out];exact h0))
    have hk6:k≤6:=by omega
    clear h0
    go_wp2_with fail
    refine(HCB.out k _ hk6).mono ?_;rintro e w2 ⟨rfl,hb2⟩
    have hb3:=hb.trans (hb2.mono hb.size)
    go_wp2_with fail
    rw[HX.out]
    go_roundw
    case rel=>exact⟨k+1,by omega,by go_num,rfl,hb3⟩
    case measure=>simp[intOf];omega
  ·obtain rfl:k=p.size:=by omega
   go_wp2_with fail
   go_ret2
   exact⟨rfl,hb⟩
def ones (n:Nat):ByteArray:=text (List.replicate n 49)
theorem Zj6 (n:Nat):(ones n).size=n:=by unfold ones;rw[Zaq,List.length_replicate]
theorem Z4t (a b:Nat):ones a++ones b=ones (a+b):=by unfold ones;rw[Ze3,List.replicate_append_replicate]
theorem Zae6 {n k:Nat} (h:k<(ones n).size):((ones n)[k].toNat:Int)=49:=by
 have hn:k<n:=by rw[Zj6]at h;exact h
 rw[←Zcj _ h]
 have e:Zab (ones n)=List.replicate n 49:=Zcf (fun x hx=>.inr (List.eq_of_mem_replicate hx))
 simp[e]
theorem Z3d (n:Nat) (w:World) (hn:n≤1000):Calls Tryz.prog 88 #[.string ⟨#[49]⟩,.int .i64 n] w fun e w'=>e= .returned (.string (ones n))∧w=w':=by
 go_enter Tryz.func88,Tryz.ntmps88
 go_wp2
 go_loop [0,1,5] (fun s i o=>∃a b j:Nat,s= .string (ones b)∧i= .int .i64 j∧o= .string (ones a)∧j≤n∧Hid (a+b*j=n∧b≤2*n+1)) (fun _ i _=>(intOf i).toNat)
 case atStart=>exact⟨0,1,n,rfl,rfl,rfl,Nat.le_refl _,Lib.hid ⟨by omega,by omega⟩⟩
 case round=>
  obtain⟨a,b,j,rfl,rfl,rfl,hj,HI⟩:=hrel
  by_cases h0:0<j
  ·have hbj:b≤b*j:=Nat.le_mul_of_pos_right b h0
   have hb:=HI.out.2
   have ha:a≤n:=by have:=HI.out.1;omega
   have hza:=Zj6 a
   have hzb:=Zj6 b
   have hs1:¬(ones a).size+(ones b).size>9223372036854775807:=by omega
   have hs2:¬(ones b).size+(ones b).size>9223372036854775807:=by omega
   have HZ:=Lib.hid (And.intro hza hzb);clear hza hzb
   have HA:=Lib.hid (Z4t a b)
   have HB:=Lib.hid (Z4t b b)
   have hbn:b≤n:=by have:=HI.out.1;omega
   by_cases hodd:j%2=1
   ·have hd:((j:Int)%2==1)=true:=by simp;omega
    have hmul:b*j=b*2*(j/2)+b:=by
     have:j=2*(j/2)+1:=by omega
     conv=>lhs;rw[this]
     rw[Nat.mul_add,Nat.mul_one,Nat.mul_assoc]
    have HN:=Lib.hid (show a+b+(b+b)*(j/2)=n∧b+b≤2*n+1 by
     have h1:=HI.out.1
     rw[show b+b=b*2 by omega]
     exact⟨by omega,by omega⟩)
    clear hodd hbj hmul
    go_wp2_with fail
    rw[HA.out,HB.out]
    go_round
    case rel=>exact⟨a+b,b+b,j/2,rfl,by go_num,rfl,by omega,HN⟩
    case measure=>simp[intOf];omega
   ·have hd:((j:Int)%2==1)=false:=by simp;omega
    have hmul:b*j=b*2*(j/2):=by
     have:j=2*(j/2):=by omega
     conv=>lhs;rw[this]
     rw[Nat.mul_assoc]
    have HN:=Lib.hid (show a+(b+b)*(j/2)=n∧b+b≤2*n+1 by
     have h1:=HI.out.1
     rw[show b+b=b*2 by omega]
     exact⟨by omega,by omega⟩)
    clear hodd hbj hmul
    go_wp2_with fail
    rw[HB.out]
    go_round
    case rel=>exact⟨a,b+b,j/2,rfl,by go_num,rfl,by omega,HN⟩
    case measure=>simp[intOf];omega
  ·obtain rfl:j=0:=by omega
   have hr:=Lib.hid (show a=n by have:=HI.out.1;omega)
   go_wp2_with fail
   go_ret
   exact⟨Zaji (by rw[hr.out]),rfl⟩
theorem Zaja (s:ByteArray) (w:World) (hs:s.size≤1000) (hb:∀x∈Zab s,Za7 x):Calls Tryz.prog 174 #[.string s,.string (ones s.size)] w fun e w'=>e= .returned (.string (invT s))∧Below w.heap.size w w':=by
 have HL:=Lib.hid (show(invL (Zab s)).length=s.size by rw[Ziq,Zac])
 have HB:=Lib.hid hb;clear hb
 have hoz:=Zj6 s.size
 have HO:=Lib.hid (fun k h=>@Zae6 s.size k h)
 generalize ones s.size=O at*
 have HOZ:=Lib.hid hoz
 clear hoz
 go_enter Tryz.func174,Tryz.ntmps174
 go_wp2_with (at_make;refine Zcd 22 5 1 (0:Int) Tryz.underlying22 Zct rfl (by decide) w rfl _ _ rfl .i64 .i64 s.size rfl rfl (by omega) ?_;intro w1 hown hb)
 have hF:=FillF.start hown HL.out (by simp)
 clear hown
 go_loopw [6] (fun i wr=>∃k:Nat,k≤s.size∧i= .int .i64 k∧Zmz wr w.heap.size w.heap.size s.size (invL (Zab s)) (List.replicate s.size 0) k∧Below w.heap.size w wr) (fun i _=>s.size-(intOf i).toNat)
 case atStart=>exact⟨0,Nat.zero_le _,rfl,hF,hb⟩
 case round=>
  clear hF hb
  obtain⟨k,hk,rfl,hF,hb⟩:=hrel
  by_cases hlt:k<s.size
  ·have hF1:=hF
   have hbd:=hb
   obtain⟨z,hc⟩:=hF1.cell hlt
   have hf:=hF1.free k
   have hkc:k<(Zab s).length:=by rw[Zac];exact hlt
   have hbit:Za7 (s[k].toNat:Int):=by rw[←Zcj s hlt];exact HB.out _ (List.getElem_mem hkc)
   have hst:=hF1.step hlt (y:=.int .u8 (97-(s[k].toNat:Int))) (fun hl=>by rw[Z2h hl,Zcj s hlt])
   have hb2:=hF1.below hbd (.int .u8 (97-(s[k].toNat:Int)))
   have hlO:k<O.size:=by rw[HOZ.out];exact hlt
   have hv:(O[k].toNat:Int)=49:=HO.out k hlO
   have hx1:bits .xor .u8 48 1=49:=by decide
   have hx2:bits .xor .u8 49 1=48:=by decide
   have hlt':(k:Int)<(s.size:Int):=by omega
   have hlO':(k:Int)<(O.size:Int):=by omega
   clear hF hF1 hb hbd
   rcases hbit with h48|h48
   ·rw[h48]at hst hb2
    go_wp2_with fail
    go_still_tail 13,(by kernel_rfl)
    go_wp2_with fail
    go_roundw
    case rel=>exact⟨k+1,by omega,by go_num,hst,hb2.drew⟩
    case measure=>simp[intOf];omega
   ·rw[h48]at hst hb2
    go_wp2_with fail
    go_still_tail 13,(by kernel_rfl)
    go_wp2_with fail
    go_roundw
    case rel=>exact⟨k+1,by omega,by go_num,hst,hb2.drew⟩
    case measure=>simp[intOf];omega
  ·obtain rfl:k=s.size:=by omega
   obtain⟨a1,n1,c1,e1,ho⟩:=(hF.done (Nat.le_refl _)).own (by rw[HL.out];omega)
   cases e1
   have hrd:=ho.rd
   go_wp2_with (with_reducible refine Zca 22 5 9 Tryz.underlying22 Tryz.underlying5 Tryz.underlying9 _ rfl (.tmp 29) rfl rfl hrd ?_)
   go_ret
   exact⟨rfl,hb⟩
theorem Zn9 (s:ByteArray) (w:World) (hs:s.size≤1000) (hb:∀x∈Zab s,Za7 x):Calls Tryz.prog 124 #[.string s] w fun e w'=>e= .returned (.string (invT s))∧Below w.heap.size w w':=by
 have HB:=Lib.hid hb;clear hb
 go_enter Tryz.func124,Tryz.ntmps124
 go_wp2_with fail
 refine(Z3d s.size _ hs).mono ?_;rintro e w1 ⟨rfl,rfl⟩
 go_wp2_with fail
 refine(Zaja s _ hs HB.out).mono ?_;rintro e w2 ⟨rfl,hb2⟩
 go_wp2_with fail
 go_ret
 exact⟨rfl,hb2⟩
theorem Zuw (p:ByteArray) (w:World) (hz:p.size≤6):Calls Tryz.prog 51 #[.string p] w fun e w'=>e= .returned (.string (text (Zdh p p.size)))∧Below w.heap.size w w':=by
 have HCB:=Lib.hid (fun k (c:World) (hk:k≤6)=>Zn9 (text (Zdh p k)) c (by rw[Zaq,Zic];have:=pow6 hk;omega) (by rw[Zcf (Zh8 p k)];exact Zh8 p k))
 go_enter Tryz.func51,Tryz.ntmps51
 go_wp2_with fail
 go_loopw [3,4] (fun s i wr=>∃k:Nat,k≤p.size∧i= .int .i64 k∧s= .string (text (Zdh p k))∧Below w.heap.size w wr) (fun _ i _=>p.size-(intOf i).toNat)
 case atStart=>exact⟨0,Nat.zero_le _,rfl,by unfold Zdh;rfl,Below.refl _ _⟩
 case round=>
  obtain⟨k,hk,rfl,rfl,hb⟩:=hrel
  obtain⟨wo,hwo⟩:∃wo:World,wo=wr:=⟨_,rfl⟩
  subst hwo
  by_cases hlt:k<p.size
  ·have hkc:k<(Zab p).length:=by rw[Zac];exact hlt
   have HG:=Lib.hid (show(Zab p).getD k 0=(p[k].toNat:Int)by rw[←Zcj p hlt];simp[List.getD,hkc])
   have hzk:(text (Zdh p k)).size≤64:=by rw[Zaq,Zic];exact pow6 (by omega)
   have hzk2:(invT (text (Zdh p k))).size≤64:=by unfold invT;rw[Zaq,Ziq,Zac];exact hzk
   have hs1:¬(text (Zdh p k)).size+(text (Zdh p k)).size>9223372036854775807:=by omega
   have hs2:¬(text (Zdh p k)).size+(invT (text (Zdh p k))).size>9223372036854775807:=by omega
   by_cases h0:(p[k].toNat:Int)=48
   ·have h0':((p[k].toNat:Int)==48)=true:=by simp;omega
    have HX:=Lib.hid (Zyv (HG.out.trans h0))
    clear h0
    go_wp2_with fail
    rw[HX.out]
    go_roundw
    case rel=>exact⟨k+1,by omega,by go_num,rfl,hb⟩
    case measure=>simp[intOf];omega
   ·have h0':((p[k].toNat:Int)==48)=false:=by simp;omega
    have HX:=Lib.hid (Z3t (p:=p) (k:=k) (by rw[HG.out];exact h0))
    have hk6:k≤6:=by omega
    clear h0
    go_wp2_with fail
    refine(HCB.out k _ hk6).mono ?_;rintro e w2 ⟨rfl,hb2⟩
    have hb3:=hb.trans (hb2.mono hb.size)
    go_wp2_with fail
    rw[HX.out]
    go_roundw
    case rel=>exact⟨k+1,by omega,by go_num,rfl,hb3⟩
    case measure=>simp[intOf];omega
  ·obtain rfl:k=p.size:=by omega
   go_wp2_with fail
   go_ret
   exact⟨rfl,hb⟩
def Zl4 (x:Int):Int:=if x<0 then 49 else 48
def Zfk (l:List Int):List Int:=l.map Zl4
theorem Zh2 (l:List Int):(Zfk l).length=l.length:=by simp[Zfk]
theorem Zqi {l:List Int} {i:Nat} (h:i<(Zfk l).length):(Zfk l)[i]=Zl4 (l[i]'(by simpa[Zfk]using h)):=by simp[Zfk]
theorem Zaga (x:Int) (w:World):Calls Tryz.prog 193 #[.int .i64 x] w fun e w'=>e= .returned (.int .u8 (Zl4 x))∧w=w':=by
 by_cases h:x<0
 ·have hr:=Lib.hid (show Zl4 x=49 by unfold Zl4;rw[if_pos h])
  go_enter Tryz.func193,Tryz.ntmps193
  go_wp2
  go_ret
  exact⟨congrArg (fun v=>Ending.returned (.int .u8 v)) hr.out.symm,rfl⟩
 ·have hr:=Lib.hid (show Zl4 x=48 by unfold Zl4;rw[if_neg h])
  go_enter Tryz.func193,Tryz.ntmps193
  go_wp2
  go_ret
  exact⟨congrArg (fun v=>Ending.returned (.int .u8 v)) hr.out.symm,rfl⟩
theorem Zwj {ao:Option Addr} {n c:Nat} {l:List Int} {w:World} (h:Rd w ao n l) (hn:n≤1000000):
 Calls Tryz.prog 130 #[.slice ao n c] w fun e w'=>e= .returned (.string (text (Zfk l)))∧Below w.heap.size w w':=by
 have HL:=Lib.hid (show(Zfk l).length=n by rw[Zh2,h.1])
 have HN:=Lib.hid h.1
 go_enter Tryz.func130,Tryz.ntmps130
 go_wp2_with (at_make;refine Zcd 22 5 1 (0:Int) Tryz.underlying22 Zct rfl (by decide) w rfl _ _ rfl .i64 .i64 n rfl rfl (by omega) ?_;intro w1 hown hb)
 have hF:=FillF.start hown HL.out (by simp)
 clear hown
 go_loopw [11] (fun i wr=>∃k:Nat,k≤n∧i= .int .i64 k∧Zmz wr w.heap.size w.heap.size n (Zfk l) (List.replicate n 0) k∧Below w.heap.size w wr) (fun i _=>n-(intOf i).toNat)
 case atStart=>exact⟨0,Nat.zero_le _,rfl,hF,hb⟩
 case round=>
  clear hF hb
  obtain⟨k,hk,rfl,hF,hb⟩:=hrel
  by_cases hlt:k<n
  ·obtain⟨bk,off,rfl,hl,hcl⟩:=(h.below hb).at hlt
   obtain⟨z,hc⟩:=hF.cell hlt
   have hf:=hF.free k
   have hst:=hF.step hlt (y:=.int .u8 (Zl4 l[k])) (fun hl2=>by rw[Zqi hl2])
   have hb2:=hF.below hb (.int .u8 (Zl4 l[k]))
   clear hF hb
   go_wp2_with fail
   refine(Zaga _ _).mono ?_;rintro e w' ⟨rfl,rfl⟩
   go_wp2_with fail
   go_roundw
   case rel=>exact⟨k+1,by omega,by go_num,hst,hb2⟩
   case measure=>simp[intOf];omega
  ·obtain rfl:k=n:=by omega
   obtain⟨a1,n1,c1,e1,ho⟩:=(hF.done (Nat.le_refl _)).own (by rw[HL.out];omega)
   cases e1
   have hrd:=ho.rd
   go_wp2_with (with_reducible refine Zca 22 5 9 Tryz.underlying22 Tryz.underlying5 Tryz.underlying9 _ rfl (.tmp 22) rfl rfl hrd ?_)
   go_ret
   exact⟨rfl,hb⟩
theorem Zabf {ao:Option Addr} {n c:Nat} {l:List Int} {w:World} (h:Rd w ao n l) (hn:n≤1000000):
 Calls Tryz.prog 287 #[.slice ao n c] w fun e w'=>e= .returned (.string (text (Zfk l)))∧Below w.heap.size w w':=by
 have HL:=Lib.hid (show(Zfk l).length=n by rw[Zh2,h.1])
 have HN:=Lib.hid h.1
 go_enter Tryz.func287,Tryz.ntmps287
 go_wp2_with (at_make;refine Zcd 22 5 1 (0:Int) Tryz.underlying22 Zct rfl (by decide) w rfl _ _ rfl .i64 .i64 n rfl rfl (by omega) ?_;intro w1 hown hb)
 have hrow:RowB w1 w.heap.size w.heap.size (List.replicate n 0):=by
  refine RowF.of (n:=n) (c:=n) ?_
  show w1.ownsRow _ _ _ _ (List.replicate n (0:Int)).length _
  rw[List.length_replicate];exact hown
 clear hown
 go_loopw [4] (fun i wr=>∃k:Nat,k≤n∧i= .int .i64 k∧RowB wr w.heap.size w.heap.size ((Zfk l).take k++(List.replicate n 0).drop k)∧Below w.heap.size w wr) (fun i _=>n-(intOf i).toNat)
 case atStart=>exact⟨0,Nat.zero_le _,rfl,by simpa using hrow,hb⟩
 case round=>
  clear hrow hb
  obtain⟨k,hk,rfl,hrow,hb⟩:=hrel
  by_cases hlt:k<n
  ·obtain⟨bk,off,rfl,hl,hcl⟩:=(h.below hb).at hlt
   have hlo:=(h.lt ⟨bk,off,none⟩ rfl (by omega))
   have hkM:k<((Zfk l).take k++(List.replicate n 0).drop k).length:=by rw[List.length_append,List.length_take,List.length_drop,List.length_replicate,HL.out];omega
   have hLk:k<(Zfk l).length:=by rw[HL.out];exact hlt
   have HNX:=Lib.hid (Zyw hLk (show(List.replicate n (0:Int)).length=(Zfk l).length by rw[HL.out];simp))
   have HG:=Lib.hid (Zqi hLk)
   have hc:=hrow.cell hkM
   have hf:=hrow.free hkM
   have hrow2:=hrow.set (i:=k) 48
   have hb2:=hrow.belowSet hb k (.int .u8 48)
   obtain⟨b9,o9,he9,hl9,hcl2⟩:=(h.below hb2).at hlt
   cases he9
   have hlen2:k<(((Zfk l).take k++(List.replicate n 0).drop k).set k 48).length:=by rw[List.length_set];exact hkM
   have hc2:=hrow2.cell hlen2
   have hf2:=hrow2.free hlen2
   have hrow3:=hrow2.set (i:=k) 49
   have hb3:=hrow2.belowSet hb2 k (.int .u8 49)
   rw[List.set_set]at hrow3
   clear hrow hb hcl
   by_cases hneg:l[k]<0
   ·have HS:=Lib.hid (show(49:Int)=(Zfk l)[k]by rw[HG.out];unfold Zl4;rw[if_pos hneg])
    have e:((Zfk l).take k++(List.replicate n 0).drop k).set k 49=(Zfk l).take (k+1)++(List.replicate n 0).drop (k+1):=by rw[HS.out];exact HNX.out
    rw[e]at hrow3
    clear e
    go_wp2_with fail
    go_roundw
    case rel=>exact⟨k+1,by omega,by go_num,hrow3,hb3⟩
    case measure=>simp[intOf];omega
   ·have HS:=Lib.hid (show(48:Int)=(Zfk l)[k]by rw[HG.out];unfold Zl4;rw[if_neg hneg])
    have e:((Zfk l).take k++(List.replicate n 0).drop k).set k 48=(Zfk l).take (k+1)++(List.replicate n 0).drop (k+1):=by rw[HS.out];exact HNX.out
    rw[e]at hrow2
    clear e
    go_wp2_with fail
    go_roundw
    case rel=>exact⟨k+1,by omega,by go_num,hrow2,hb2⟩
    case measure=>simp[intOf];omega
  ·obtain rfl:k=n:=by omega
   rw[List.take_of_length_le (by rw[HL.out];exact Nat.le_refl _),List.drop_of_length_le (by simp),List.append_nil]at hrow
   have hrd:=hrow.rd (n:=k) HL.out.symm (by omega)
   go_wp2_with (with_reducible refine Zca 22 5 9 Tryz.underlying22 Tryz.underlying5 Tryz.underlying9 _ rfl (.tmp 25) rfl rfl hrd ?_)
   go_ret
   exact⟨rfl,hb⟩
def seqB (s:ByteArray):Bool:=Zan s&&inB (s.size:Int) 1 255
theorem Zat (s:ByteArray) (w:World):Calls Tryz.prog 105 #[.string s] w fun e w'=>e= .returned (.bool (seqB s))∧w=w':=by
 by_cases h1:(1:Int)≤(s.size:Int)
 ·by_cases h2:(s.size:Int)≤255
  ·have hr:=Lib.hid (show seqB s=Zan s by unfold seqB;rw[Zax h1 h2,Bool.and_true])
   go_enter Tryz.func105,Tryz.ntmps105
   go_wp2_with fail
   refine(Za2 _ _).mono ?_;rintro e w' ⟨rfl,rfl⟩
   go_wp2_with fail
   go_ret
   exact⟨Zav hr.out.symm,rfl⟩
  ·have hr:=Lib.hid (show seqB s=false by unfold seqB;rw[Zma (by omega),Bool.and_false])
   go_enter Tryz.func105,Tryz.ntmps105
   go_wp2_with fail
   go_ret
   exact⟨Zav hr.out.symm,rfl⟩
 ·have hr:=Lib.hid (show seqB s=false by unfold seqB;rw[Zmo (by omega),Bool.and_false])
  go_enter Tryz.func105,Tryz.ntmps105
  go_wp2_with fail
  go_ret
  exact⟨Zav hr.out.symm,rfl⟩
theorem Za6 (s:ByteArray) (w:World) (hs:s.size≤1099511627776):Calls Tryz.prog 108 #[.string s] w fun e w'=>e= .returned (.bool (seqB s))∧w=w':=by
 by_cases h1:Zan s=true
 ·have hr:=Lib.hid (show seqB s=inB (s.size:Int) 1 255 by unfold seqB;rw[h1,Bool.true_and])
  go_enter Tryz.func108,Tryz.ntmps108
  go_wp2_with fail
  refine(Za0 _ _ hs).mono ?_;rintro e w' ⟨rfl,rfl⟩
  rw[h1]
  clear h1
  go_wp2_with fail
  refine(Zbq _ _ _ _).mono ?_;rintro e w' ⟨rfl,rfl⟩
  go_wp2_with fail
  go_ret
  exact⟨Zav hr.out.symm,rfl⟩
 ·have h1':Zan s=false:=by simpa using h1
  have hr:=Lib.hid (show seqB s=false by unfold seqB;rw[h1',Bool.false_and])
  go_enter Tryz.func108,Tryz.ntmps108
  go_wp2_with fail
  refine(Za0 _ _ hs).mono ?_;rintro e w' ⟨rfl,rfl⟩
  rw[h1']
  clear h1 h1'
  go_wp2_with fail
  go_ret
  exact⟨Zav hr.out.symm,rfl⟩
def sigB (l:List Int):Bool:=decide (l.length≤3000)&&allB (-1000000) 1000000 l
theorem Za3 {ao:Option Addr} {n c:Nat} {l:List Int} {w:World} (h:Rd w ao n l):
 Calls Tryz.prog 110 #[.slice ao n c] w fun e w'=>e= .returned (.bool (sigB l))∧w=w':=by
 by_cases h3:(n:Int)≤3000
 ·have hr:=Lib.hid (show sigB l=allB (-1000000) 1000000 l by unfold sigB;rw[decide_eq_true (by rw[←h.1];omega),Bool.true_and])
  go_enter Tryz.func110,Tryz.ntmps110
  go_wp2_with fail
  refine(Zrc (-1000000) 1000000 h).mono ?_;rintro e w' ⟨rfl,rfl⟩
  go_wp2_with fail
  go_ret
  exact⟨Zav hr.out.symm,rfl⟩
 ·have hr:=Lib.hid (show sigB l=false by unfold sigB;rw[decide_eq_false (by rw[←h.1];omega),Bool.false_and])
  go_enter Tryz.func110,Tryz.ntmps110
  go_wp2_with fail
  go_ret
  exact⟨Zav hr.out.symm,rfl⟩
theorem Zb1 {ao:Option Addr} {n c:Nat} {l:List Int} {w:World} (h:Rd w ao n l):
 Calls Tryz.prog 288 #[.slice ao n c] w fun e w'=>e= .returned (.bool (sigB l))∧w=w':=by
 have hs:=h.2.1
 have HN:=Lib.hid h.1
 go_enter Tryz.func288,Tryz.ntmps288
 go_wp2
 go_loop [3] (fun i=>∃k:Nat,k≤n∧i= .int .i64 k∧Hid (allB (-1000000) 1000000 (l.take k)=true)) (fun i=>n-(intOf i).toNat)
 case atStart=>exact⟨0,Nat.zero_le _,rfl,Lib.hid rfl⟩
 case round=>
  obtain⟨k,hk,rfl,HA⟩:=hrel
  by_cases hlt:k<n
  ·obtain⟨bk,off,rfl,hl,hc⟩:=h.at hlt
   clear h
   go_wp2_with fail
   refine(Zbq _ _ _ _).mono ?_;rintro e w' ⟨rfl,rfl⟩
   by_cases h1:inB l[k] (-1000000) 1000000=true
   ·rw[h1]
    have HT:=Lib.hid (Zk1 hl HA.out h1)
    clear h1
    go_wp2_with fail
    go_round
    case rel=>exact⟨k+1,by omega,by go_num,HT⟩
    case measure=>simp[intOf];omega
   ·have h1':inB l[k] (-1000000) 1000000=false:=by simpa using h1
    rw[h1']
    have hr:=Lib.hid (show sigB l=false by unfold sigB;rw[Zn6 hl h1',Bool.and_false])
    clear h1 h1'
    go_wp2_with fail
    go_ret
    exact⟨Zav hr.out.symm,rfl⟩
  ·have hr:=Lib.hid (show sigB l=decide ((n:Int)≤3000)by
    unfold sigB;rw[Ztx (by have:=HN.out;omega) HA.out,Bool.and_true];exact decide_eq_decide.2 (by have:=HN.out;omega))
   go_wp2_with fail
   go_ret
   exact⟨Zav hr.out.symm,rfl⟩
def recB (l:List Int) (s:ByteArray) (d:Int):Bool:=sigB l&&seqB s&&inB d 0 3000
theorem Zei {ao:Option Addr} {n c:Nat} {l:List Int} {w:World} (s:ByteArray) (d:Int) (h:Rd w ao n l):
 Calls Tryz.prog 129 #[.slice ao n c,.string s,.int .i64 d] w fun e w'=>e= .returned (.bool (recB l s d))∧w=w':=by
 by_cases h1:sigB l=true
 ·by_cases h2:seqB s=true
  ·have hr:=Lib.hid (show recB l s d=inB d 0 3000 by unfold recB;rw[h1,h2];rfl)
   by_cases h3:0≤d
   ·by_cases h4:d≤3000
    ·have HE:=Lib.hid (show inB d 0 3000=true from Zax h3 h4)
     go_enter Tryz.func129,Tryz.ntmps129
     go_wp2_with fail
     refine(Za3 h).mono ?_;rintro e w' ⟨rfl,rfl⟩
     rw[h1]
     go_wp2_with fail
     refine(Zat _ _).mono ?_;rintro e w' ⟨rfl,rfl⟩
     rw[h2]
     clear h1 h2
     go_wp2_with fail
     go_ret
     exact⟨Zav (by rw[hr.out,HE.out]),rfl⟩
    ·have HE:=Lib.hid (show inB d 0 3000=false from Zma (by omega))
     have h5:decide (d≤3000)=false:=by simpa using h4
     go_enter Tryz.func129,Tryz.ntmps129
     go_wp2_with fail
     refine(Za3 h).mono ?_;rintro e w' ⟨rfl,rfl⟩
     rw[h1]
     go_wp2_with fail
     refine(Zat _ _).mono ?_;rintro e w' ⟨rfl,rfl⟩
     rw[h2]
     clear h1 h2
     go_wp2_with fail
     go_ret
     exact⟨Zav (by rw[hr.out,HE.out]),rfl⟩
   ·have HE:=Lib.hid (show inB d 0 3000=false from Zmo (by omega))
    go_enter Tryz.func129,Tryz.ntmps129
    go_wp2_with fail
    refine(Za3 h).mono ?_;rintro e w' ⟨rfl,rfl⟩
    rw[h1]
    go_wp2_with fail
    refine(Zat _ _).mono ?_;rintro e w' ⟨rfl,rfl⟩
    rw[h2]
    clear h1 h2
    go_wp2_with fail
    go_ret
    exact⟨Zav (by rw[hr.out,HE.out]),rfl⟩
  ·have h2':seqB s=false:=by simpa using h2
   have HQ:=Lib.hid (show recB l s d=false by unfold recB;rw[h2'];simp)
   go_enter Tryz.func129,Tryz.ntmps129
   go_wp2_with fail
   refine(Za3 h).mono ?_;rintro e w' ⟨rfl,rfl⟩
   rw[h1]
   go_wp2_with fail
   refine(Zat _ _).mono ?_;rintro e w' ⟨rfl,rfl⟩
   rw[h2']
   clear h1 h2 h2'
   go_wp2_with fail
   go_ret
   exact⟨Zav (by rw[HQ.out]),rfl⟩
 ·have h1':sigB l=false:=by simpa using h1
  have hr:=Lib.hid (show recB l s d=false by unfold recB;rw[h1'];rfl)
  go_enter Tryz.func129,Tryz.ntmps129
  go_wp2_with fail
  refine(Za3 h).mono ?_;rintro e w' ⟨rfl,rfl⟩
  rw[h1']
  clear h1 h1'
  go_wp2_with fail
  go_ret
  exact⟨Zav hr.out.symm,rfl⟩
theorem Zkl {ao:Option Addr} {n c:Nat} {l:List Int} {w:World} (s:ByteArray) (d m:Int) (h:Rd w ao n l) (hs:s.size≤1099511627776):
 Calls Tryz.prog 285 #[.slice ao n c,.string s,.int .i64 d,.int .i64 m] w fun e w'=>e= .returned (.bool (recB l s d&&inB m 0 600))∧w=w':=by
 by_cases h1:sigB l=true
 ·by_cases h2:seqB s=true
  ·by_cases h3:inB d 0 3000=true
   ·have hr:=Lib.hid (show(recB l s d&&inB m 0 600)=inB m 0 600 by unfold recB;rw[h1,h2,h3];rfl)
    go_enter Tryz.func285,Tryz.ntmps285
    go_wp2_with fail
    refine(Zb1 h).mono ?_;rintro e w' ⟨rfl,rfl⟩
    rw[h1]
    go_wp2_with fail
    refine(Za6 _ _ hs).mono ?_;rintro e w' ⟨rfl,rfl⟩
    rw[h2]
    go_wp2_with fail
    refine(Zbq _ _ _ _).mono ?_;rintro e w' ⟨rfl,rfl⟩
    rw[h3]
    clear h1 h2 h3
    go_wp2_with fail
    refine(Zbq _ _ _ _).mono ?_;rintro e w' ⟨rfl,rfl⟩
    go_wp2_with fail
    go_ret
    exact⟨Zav hr.out.symm,rfl⟩
   ·have h3':inB d 0 3000=false:=by simpa using h3
    have hr:=Lib.hid (show(recB l s d&&inB m 0 600)=false by unfold recB;rw[h3'];simp)
    go_enter Tryz.func285,Tryz.ntmps285
    go_wp2_with fail
    refine(Zb1 h).mono ?_;rintro e w' ⟨rfl,rfl⟩
    rw[h1]
    go_wp2_with fail
    refine(Za6 _ _ hs).mono ?_;rintro e w' ⟨rfl,rfl⟩
    rw[h2]
    go_wp2_with fail
    refine(Zbq _ _ _ _).mono ?_;rintro e w' ⟨rfl,rfl⟩
    rw[h3']
    clear h1 h2 h3 h3'
    go_wp2_with fail
    go_ret
    exact⟨Zav hr.out.symm,rfl⟩
  ·have h2':seqB s=false:=by simpa using h2
   have hr:=Lib.hid (show(recB l s d&&inB m 0 600)=false by unfold recB;rw[h2'];simp)
   go_enter Tryz.func285,Tryz.ntmps285
   go_wp2_with fail
   refine(Zb1 h).mono ?_;rintro e w' ⟨rfl,rfl⟩
   rw[h1]
   go_wp2_with fail
   refine(Za6 _ _ hs).mono ?_;rintro e w' ⟨rfl,rfl⟩
   rw[h2']
   clear h1 h2 h2'
   go_wp2_with fail
   go_ret
   exact⟨Zav hr.out.symm,rfl⟩
 ·have h1':sigB l=false:=by simpa using h1
  have hr:=Lib.hid (show(recB l s d&&inB m 0 600)=false by unfold recB;rw[h1'];simp)
  go_enter Tryz.func285,Tryz.ntmps285
  go_wp2_with fail
  refine(Zb1 h).mono ?_;rintro e w' ⟨rfl,rfl⟩
  rw[h1']
  clear h1 h1'
  go_wp2_with fail
  go_ret
  exact⟨Zav hr.out.symm,rfl⟩
def Zbk (x:Int):Int:=if x=48 then 1 else -1
def dotN (l s:List Int) (f:Nat):Nat→Int
 |0=>0
 |k+1=>dotN l s f k+Zbk (s.getD k 0)*l.getD (f+k) 0
def Zes (l s:List Int) (f n:Nat):List Int:=(List.range n).map fun i=>dotN l s (f+i*s.length) s.length
theorem Zdl (l s:List Int) (f n:Nat):(Zes l s f n).length=n:=by simp[Zes]
theorem Zxe {l s:List Int} {f n i:Nat} (h:i<n):(Zes l s f n)[i]'(by rw[Zdl];exact h)=dotN l s (f+i*s.length) s.length:=by simp[Zes]
theorem Z6o (l s:List Int) (f n:Nat):Zes l s f (n+1)=Zes l s f n++[dotN l s (f+n*s.length) s.length]:=by unfold Zes;rw[Zht]
theorem Zip {l:List Int} (h:sigB l=true) (i:Nat): -1000000≤l.getD i 0∧l.getD i 0≤1000000:=by
 unfold sigB at h;rw[Bool.and_eq_true]at h
 by_cases hi:i<l.length
 ·have:=Zae7 h.2 hi
  simpa[List.getD,hi]using this
 ·have e:l.getD i 0=0:=by simp[List.getD,List.getElem?_eq_none (by omega:l.length≤i)]
  rw[e];omega
theorem Zhe {l:List Int} (h:sigB l=true):l.length≤3000:=by
 unfold sigB at h;rw[Bool.and_eq_true]at h;exact of_decide_eq_true h.1
theorem Zpm (x:Int):Zbk x=1∨Zbk x= -1:=by unfold Zbk;split<;>simp
theorem Zww (x y:Int) (h: -1000000≤y∧y≤1000000): -1000000≤Zbk x*y∧Zbk x*y≤1000000:=by
 rcases Zpm x with e|e<;>rw[e]<;>omega
theorem Zvv {l:List Int} (h:sigB l=true) (s:List Int) (f k:Nat): -(1000000*(k:Int))≤dotN l s f k∧dotN l s f k≤1000000*(k:Int):=by
 induction k with
 |zero=>simp[dotN]
 |succ k ih=>
  have:=Zww (s.getD k 0) (l.getD (f+k) 0) (Zip h (f+k))
  simp only[dotN]
  omega
theorem Z8x (l s:List Int) (f k:Nat) (h:l.length≤f+k):∀d,dotN l s f (k+d)=dotN l s f k:=by
 intro d
 induction d with
 |zero=>rfl
 |succ d ih=>
  have e:l.getD (f+(k+d)) 0=0:=by simp[List.getD,List.getElem?_eq_none (by omega:l.length≤f+(k+d))]
  rw[←Nat.add_assoc]
  simp only[dotN]
  rw[e,ih];simp
theorem Z36 {l s:List Int} {f k m:Nat} (hk:k≤m) (h:k=m∨l.length≤f+k):dotN l s f k=dotN l s f m:=by
 rcases h with rfl|h
 ·rfl
 ·obtain⟨d,rfl⟩:∃d,m=k+d:=⟨m-k,by omega⟩
  exact(Z8x l s f k h d).symm
theorem Zkj {s:ByteArray} {k:Nat} (h:k<s.size):(Zab s).getD k 0=(s[k].toNat:Int):=by
 rw[←Zcj s h];simp[List.getD,Zac,h]
theorem Zc9 {l:List Int} {k:Nat} (h:k<l.length):l.getD k 0=l[k]:=by simp[List.getD,h]
theorem Z41 (x:Int) (w:World):Calls Tryz.prog 106 #[.int .u8 x] w fun e w'=>e= .returned (.int .i64 (Zbk x))∧w=w':=by
 by_cases h:x=48
 ·have hr:=Lib.hid (show Zbk x=1 by unfold Zbk;rw[if_pos h])
  have h':(x==48)=true:=by simp[h]
  clear h
  go_enter Tryz.func106,Tryz.ntmps106
  go_wp2
  go_ret
  exact⟨Zd6 hr.out.symm,rfl⟩
 ·have hr:=Lib.hid (show Zbk x= -1 by unfold Zbk;rw[if_neg h])
  have h':(x==48)=false:=by simp[h]
  clear h
  go_enter Tryz.func106,Tryz.ntmps106
  go_wp2
  go_ret
  exact⟨Zd6 hr.out.symm,rfl⟩
theorem Zr0 {ao:Option Addr} {n c:Nat} {l:List Int} {w:World} (s:ByteArray) (f:Nat) (h:Rd w ao n l) (hl:sigB l=true) (hs:s.size≤1000) (hf:f≤1000000000):
 Calls Tryz.prog 180 #[.slice ao n c,.string s,.int .i64 (f:Nat)] w fun e w'=>e= .returned (.int .i64 (dotN l (Zab s) f s.size))∧Qw w w':=by
 have hn:=h.2.1
 have HN:=Lib.hid h.1
 have HB:=Lib.hid (fun k=>Zvv hl (Zab s) f k)
 have HG:=Lib.hid (fun i=>Zip hl i)
 clear hl
 go_enter Tryz.func180,Tryz.ntmps180
 go_wp2
 go_loopw [7,8] (fun q i wr=>∃k:Nat,k≤s.size∧i= .int .i64 k∧q= .int .i64 (dotN l (Zab s) f k)∧Qw w wr) (fun _ i _=>s.size-(intOf i).toNat)
 case atStart=>exact⟨0,Nat.zero_le _,rfl,rfl,Qw.refl _⟩
 case round=>
  obtain⟨k,hk,rfl,rfl,hq⟩:=hrel
  have hb:=HB.out k
  obtain⟨g,hg⟩:∃g:Nat,(f:Int)+(k:Int)=(g:Int):=⟨f+k,by omega⟩
  have HF:=Lib.hid (show f+k=g by omega)
  by_cases h1:k<s.size
  ·by_cases h2:g<n
   ·obtain⟨bk,off,rfl,hl,hc⟩:=(h.qw hq).at h2
    have HS:=Lib.hid (show dotN l (Zab s) f (k+1)=dotN l (Zab s) f k+Zbk (s[k].toNat:Int)*l[g]by simp only[dotN];rw[Zkj h1,HF.out,Zc9 hl])
    have hg':=HG.out g
    rw[Zc9 hl]at hg'
    have hm:=Zww (s[k].toNat:Int) l[g] hg'
    generalize dotN l (Zab s) f k=D at*
    have HM:=Lib.hid (show ∃m,m=Zbk (s[k].toNat:Int)*l[g]from⟨_,rfl⟩)
    have v1:IntKind.i64.wrap ((f:Int)+(k:Int))=(g:Int):=by rw[hg];exact IntWalk.i64_in _ (by omega)
    have v2:IntKind.i64.wrap (Zbk (s[k].toNat:Int)*l[g])=Zbk (s[k].toNat:Int)*l[g]:=IntWalk.i64_in _ (by omega)
    have v3:IntKind.i64.wrap (D+Zbk (s[k].toNat:Int)*l[g])=D+Zbk (s[k].toNat:Int)*l[g]:=IntWalk.i64_in _ (by omega)
    clear h hg'
    go_wp2
    go_quiet ((first|(go_at_call 106;exact Zd7 (Z41 _ _))))
    clear v1 v2 v3
    go_wp2_with fail
    go_roundw
    case rel=>exact⟨k+1,by omega,by go_num,by rw[HS.out],hq.trans (Qw.drewN _ _)⟩
    case measure=>simp[intOf];omega
   ·have HE:=Lib.hid (Z36 (l:=l) (s:=Zab s) (f:=f) (k:=k) (m:=s.size) hk (.inr (by have:=HN.out;have:=HF.out;omega)))
    go_wp2
    go_ret
    exact⟨Zd6 HE.out,hq⟩
  ·obtain rfl:k=s.size:=by omega
   go_wp2
   go_ret
   exact⟨rfl,hq⟩
theorem Zac5 {x:Int} (h:Za7 x):1-2*(x-48)=Zbk x:=by
 rcases h with rfl|rfl<;>decide
theorem Zajx {ao:Option Addr} {n c:Nat} {l:List Int} {w:World} (s:ByteArray) (f:Nat) (h:Rd w ao n l) (hl:sigB l=true) (hs:s.size≤1000) (hf:f≤1000000000) (hb:∀x∈Zab s,Za7 x):
 Calls Tryz.prog 313 #[.slice ao n c,.int .i64 (f:Nat),.string s] w fun e w'=>e= .returned (.int .i64 (dotN l (Zab s) f s.size))∧Qw w w':=by
 have hn:=h.2.1
 have HN:=Lib.hid h.1
 have HB:=Lib.hid (fun k=>Zvv hl (Zab s) f k)
 have HG:=Lib.hid (fun i=>Zip hl i)
 have HBT:=Lib.hid hb
 clear hl hb
 go_enter Tryz.func313,Tryz.ntmps313
 go_wp2
 go_loopw [7,8] (fun q i wr=>∃k:Nat,k≤s.size∧i= .int .i64 k∧q= .int .i64 (dotN l (Zab s) f k)∧Qw w wr) (fun _ i _=>s.size-(intOf i).toNat)
 case atStart=>exact⟨0,Nat.zero_le _,rfl,rfl,Qw.refl _⟩
 case round=>
  obtain⟨k,hk,rfl,rfl,hq⟩:=hrel
  have hb:=HB.out k
  obtain⟨g,hg⟩:∃g:Nat,(f:Int)+(k:Int)=(g:Int):=⟨f+k,by omega⟩
  have HF:=Lib.hid (show f+k=g by omega)
  by_cases h1:k<s.size
  ·by_cases h2:g<n
   ·obtain⟨bk,off,rfl,hl,hc⟩:=(h.qw hq).at h2
    have HS:=Lib.hid (show dotN l (Zab s) f (k+1)=dotN l (Zab s) f k+Zbk (s[k].toNat:Int)*l[g]by simp only[dotN];rw[Zkj h1,HF.out,Zc9 hl])
    have hg':=HG.out g
    rw[Zc9 hl]at hg'
    have hm:=Zww (s[k].toNat:Int) l[g] hg'
    have hkc:k<(Zab s).length:=by rw[Zac];exact h1
    have hbit:Za7 (s[k].toNat:Int):=by rw[←Zcj s h1];exact HBT.out _ (List.getElem_mem hkc)
    generalize dotN l (Zab s) f k=D at*
    obtain⟨x,hx⟩:∃x:Int,x=(s[k].toNat:Int):=⟨_,rfl⟩
    rw[←hx]at hm hbit
    have hx48:x=48∨x=49:=hbit
    have hxx:=Zac5 hbit
    have hcm:l[g]*Zbk x=Zbk x*l[g]:=Int.mul_comm _ _
    have v1:IntKind.i64.wrap ((f:Int)+(k:Int))=(g:Int):=by rw[hg];exact IntWalk.i64_in _ (by omega)
    have v2:IntKind.i64.wrap ((s[k].toNat:Int)-48)=x-48:=by rw[←hx];exact IntWalk.i64_in _ (by omega)
    have v3:IntKind.i64.wrap (2*(x-48))=2*(x-48):=IntWalk.i64_in _ (by omega)
    have v4:IntKind.i64.wrap (1-2*(x-48))=Zbk x:=by rw[←hxx];exact IntWalk.i64_in _ (by omega)
    have v5:IntKind.i64.wrap (l[g]*Zbk x)=Zbk x*l[g]:=by rw[hcm];exact IntWalk.i64_in _ (by omega)
    have v6:IntKind.i64.wrap (D+Zbk x*l[g])=D+Zbk x*l[g]:=IntWalk.i64_in _ (by omega)
    have v7:IntKind.i64.wrap (s[k].toNat:Int)=(s[k].toNat:Int):=IntWalk.i64_in _ (by omega)
    have HX:=Lib.hid hx
    clear h hg' hx hxx hcm hbit hx48
    go_wp2
    go_quiet (fail)
    clear v1 v2 v3 v4 v5 v6 v7
    go_wp2_with fail
    go_roundw
    case rel=>exact⟨k+1,by omega,by go_num,by rw[HS.out,HX.out],hq.trans (Qw.drewN _ _)⟩
    case measure=>simp[intOf];omega
   ·have HE:=Lib.hid (Z36 (l:=l) (s:=Zab s) (f:=f) (k:=k) (m:=s.size) hk (.inr (by have:=HN.out;have:=HF.out;omega)))
    go_wp2
    go_ret
    exact⟨Zd6 HE.out,hq⟩
  ·obtain rfl:k=s.size:=by omega
   go_wp2
   go_ret
   exact⟨rfl,hq⟩
theorem Zhh {ao:Option Addr} {n c:Nat} {l:List Int} {w:World} (s:ByteArray) (f m:Nat) (h:Rd w ao n l) (hl:sigB l=true) (hs:s.size≤1000) (hf:f≤1000000) (hm:m≤1000):
 Calls Tryz.prog 111 #[.slice ao n c,.string s,.int .i64 (f:Nat),.int .i64 (m:Nat)] w (Zdw w (Zes l (Zab s) f m)):=by
 have HL:=Lib.hid (Zdl l (Zab s) f m)
 have HG:=Lib.hid (fun i (hi:i<m)=>Zxe (l:=l) (s:=Zab s) (f:=f) hi)
 have HC:=Lib.hid (Zac s)
 have HSG:=Lib.hid hl;clear hl
 go_enter Tryz.func111,Tryz.ntmps111
 go_wp2_with (at_make;refine Zf1 w rfl (.tmp 11) (.tmp 11) rfl .i64 .i64 m rfl rfl (by omega) ?_;intro w1 hown hb)
 have hF:=Fill.start hown HL.out (by simp)
 clear hown
 go_wp2
 go_loopw [15] (fun i wr=>∃k:Nat,k≤m∧i= .int .i64 k∧Fill wr w.heap.size w.heap.size m (Zes l (Zab s) f m) (List.replicate m 0) k∧Below w.heap.size w wr) (fun i _=>m-(intOf i).toNat)
 case atStart=>exact⟨0,Nat.zero_le _,rfl,hF,hb⟩
 case round=>
  clear hF hb
  obtain⟨k,hk,rfl,hF,hb⟩:=hrel
  by_cases hlt:k<m
  ·obtain⟨p,hp⟩:∃p:Nat,(k:Int)*(s.size:Int)=(p:Int):=⟨k*s.size,by simp⟩
   obtain⟨g,hg⟩:∃g:Nat,(f:Int)+(p:Int)=(g:Int):=⟨f+p,by omega⟩
   have hks:k*s.size≤1000*1000:=Nat.mul_le_mul (by omega) hs
   have hpn:k*s.size=p:=by have:((k*s.size:Nat):Int)=(p:Int):=by rw[←hp];simp
                           omega
   have HGN:=Lib.hid (show f+k*s.size=g by omega)
   have hpl:p≤1000000:=by omega
   have hgl:g≤1000000000:=by omega
   clear hpn hks
   go_wp2_with fail
   refine(Zr0 s g (h.below hb) HSG.out hs hgl).mono ?_;rintro e w2 ⟨rfl,hq⟩
   have hF2:=hF.alter (hq.below _)
   have hb2:=hb.trans ((hq.below wr.heap.size).mono hb.size)
   have hc:=hF2.cell hlt
   have hf:=hF2.free k
   have hst:=hF2.step hlt (y:=dotN l (Zab s) g s.size) (by rw[Zc9 (by rw[HL.out];exact hlt),HG.out k hlt,HC.out,HGN.out])
   have hb3:=hF2.below hb2 (.int .i64 (dotN l (Zab s) g s.size))
   clear hF hF2 hb hb2 hq hp hg
   go_wp2_with fail
   go_roundw
   case rel=>exact⟨k+1,by omega,by go_num,hst,hb3⟩
   case measure=>simp[intOf];omega
  ·obtain rfl:k=m:=by omega
   obtain⟨a1,n1,c1,e1,ho⟩:=(hF.done (Nat.le_refl _)).own (by rw[HL.out];omega)
   cases e1
   go_wp2_with fail
   go_ret
   exact⟨_,_,_,rfl,ho,hb⟩
theorem Zos {ao:Option Addr} {n c:Nat} {l:List Int} {w:World} (s:ByteArray) (f m:Nat) (h:Rd w ao n l) (hl:sigB l=true) (hs:s.size≤1000) (hf:f≤1000000) (hm:m≤1000) (hbt:∀x∈Zab s,Za7 x):
 Calls Tryz.prog 286 #[.slice ao n c,.string s,.int .i64 (f:Nat),.int .i64 (m:Nat)] w (Zdw w (Zes l (Zab s) f m)):=by
 have HBT:=Lib.hid hbt;clear hbt
 have HC:=Lib.hid (Zac s)
 have HSG:=Lib.hid hl;clear hl
 have ho0:OwnV (w.alloc (.cells #[] 3)) w.heap.size (.slice (some ⟨w.heap.size,0,none⟩) 0 0) []:=OwnV.made0 w (Nat.le_refl _)
 have hb0:Below w.heap.size w (w.alloc (.cells #[] 3)):=(Below.refl _ _).alloc (Nat.le_refl _) _
 go_enter Tryz.func286,Tryz.ntmps286
 go_wp2
 go_loopw [9,10] (fun v i wr=>∃k:Nat,k≤m∧i= .int .i64 k∧OwnV wr w.heap.size v (Zes l (Zab s) f k)∧Below w.heap.size w wr) (fun _ i _=>m-(intOf i).toNat)
 case atStart=>exact⟨0,Nat.zero_le _,rfl,ho0,hb0⟩
 case round=>
  clear ho0 hb0
  obtain⟨k,hk,rfl,ho,hb⟩:=hrel
  by_cases hlt:k<m
  ·obtain⟨p,hp⟩:∃p:Nat,(k:Int)*(s.size:Int)=(p:Int):=⟨k*s.size,by simp⟩
   obtain⟨g,hg⟩:∃g:Nat,(f:Int)+(p:Int)=(g:Int):=⟨f+p,by omega⟩
   have hks:k*s.size≤1000*1000:=Nat.mul_le_mul (by omega) hs
   have hpn:k*s.size=p:=by have:((k*s.size:Nat):Int)=(p:Int):=by rw[←hp];simp
                           omega
   have HGN:=Lib.hid (show f+k*s.size=g by omega)
   have hpl:p≤1000000:=by omega
   have hgl:g≤1000000000:=by omega
   have HS:=Lib.hid (show Zes l (Zab s) f (k+1)=Zes l (Zab s) f k++[dotN l (Zab s) g s.size]by rw[Z6o,HC.out,HGN.out])
   have HLN:=Lib.hid (Zdl l (Zab s) f k)
   clear hpn hks
   go_wp2_with fail
   refine(Zajx s g (h.below hb) HSG.out hs hgl HBT.out).mono ?_;rintro e w2 ⟨rfl,hq⟩
   have ho2:OwnV w2 w.heap.size _ _:=Zam ho (hq.below _) fun j hj=>(ho.lt j hj).2
   have hb2:=hb.trans ((hq.below wr.heap.size).mono hb.size)
   have hz2:=hb2.size
   clear ho hb hq hp hg
   go_wp2_with (at_builtin;refine Zqp w2 rfl (.tmp 17) (.tmp 27) rfl w.heap.size _ (Zes l (Zab s) f k) (dotN l (Zab s) g s.size) rfl ho2 rfl (by rw[HLN.out];omega) hz2 ?_;intro v' w3 ho3 _ hb3)
   have hb4:=hb2.trans hb3
   rw[←HS.out]at ho3
   clear ho2 hb2 hb3
   go_roundw
   case rel=>exact⟨k+1,by omega,by go_num,ho3,hb4⟩
   case measure=>simp[intOf];omega
  ·obtain rfl:k=m:=by omega
   obtain⟨a1,n1,c1,hv,ho1⟩:=ho.own (by rw[Zdl];omega)
   subst hv
   go_wp2_with fail
   go_ret
   exact⟨_,_,_,rfl,ho1,hb⟩
def rcvR (l:List Int) (s:ByteArray) (d m:Int):Option ByteArray:=if(recB l s d&&inB m 0 600)=true then some (text (Zfk (Zes l (Zab s) d.toNat m.toNat)))else none
theorem Zvc {l:List Int} {s:ByteArray} {d m:Int} (h:(recB l s d&&inB m 0 600)=false):rcvR l s d m=none:=by simp[rcvR,h]
theorem Zps {l:List Int} {s:ByteArray} {d m:Nat} (h:(recB l s (d:Int)&&inB (m:Int) 0 600)=true):rcvR l s d m=some (text (Zfk (Zes l (Zab s) d m))):=by unfold rcvR;rw[if_pos h];rfl
theorem Zs5 {l:List Int} {s:ByteArray} {d:Int} (h:recB l s d=true):sigB l=true∧seqB s=true∧(0≤d∧d≤3000):=by
 unfold recB at h;simp only[Bool.and_eq_true]at h;exact⟨h.1.1,h.1.2,inB_iff.1 h.2⟩
theorem Zbg {s:ByteArray} (h:seqB s=true):1≤s.size∧s.size≤255:=by
 unfold seqB at h;rw[Bool.and_eq_true]at h;have:=inB_iff.1 h.2;omega
theorem Zkf {s:ByteArray} (h:Zan s=true):∀x∈Zab s,Za7 x:=by
 unfold Zan allS at h
 rw[Bool.and_eq_true,List.all_eq_true]at h
 intro x hx
 unfold Zab at hx
 obtain⟨c,hc,rfl⟩:=List.mem_map.1 hx
 have:=h.2 c hc
 unfold bitC at this
 simp only[Bool.or_eq_true,beq_iff_eq]at this
 exact this
theorem Zph {s:ByteArray} (h:seqB s=true):∀x∈Zab s,Za7 x:=by
 unfold seqB at h;rw[Bool.and_eq_true]at h;exact Zkf h.1
theorem Zio {ao:Option Addr} {n c:Nat} {l:List Int} {w:World} (s:ByteArray) (d m:Int) (h:Rd w ao n l):
 Calls Tryz.prog 57 #[.slice ao n c,.string s,.int .i64 d,.int .i64 m] w (Zdx w (rcvR l s d m)):=by
 by_cases h1:recB l s d=true
 ·obtain⟨hsg,hsq,hd0,hd1⟩:=Zs5 h1
  obtain⟨hz0,hz1⟩:=Zbg hsq
  obtain⟨D,rfl⟩:=Int.eq_ofNat_of_zero_le hd0
  have HSG:=Lib.hid hsg;clear hsg hsq
  by_cases hm0:0≤m
  ·by_cases hm1:m≤600
   ·obtain⟨M,rfl⟩:=Int.eq_ofNat_of_zero_le hm0
    have hr:=Lib.hid (Zps (l:=l) (s:=s) (d:=D) (m:=M) (by rw[h1,Zax hm0 hm1];rfl))
    go_enter Tryz.func57,Tryz.ntmps57
    go_wp2_with fail
    refine(Zei s (D:Int) h).mono ?_;rintro e w' ⟨rfl,rfl⟩
    rw[h1]
    clear h1
    go_wp2_with fail
    refine(Zhh s D M h HSG.out (by omega) (by omega) (by omega)).mono ?_;rintro e w2 ⟨a2,n2,c2,rfl,ho,hb⟩
    have hz:=hb.size
    have HN2:=Lib.hid ho.1
    have hn2:n2≤1000:=by have:=HN2.out;rw[Zdl]at this;omega
    go_wp2_with fail
    refine(Zwj ho.rd (by omega)).mono ?_;rintro e w3 ⟨rfl,hb3⟩
    go_wp2_with fail
    go_ret2
    exact Zbb hr.out (hb.trans (hb3.mono hz))
   ·have hr:=Lib.hid (Zvc (l:=l) (s:=s) (d:=D) (m:=m) (by rw[Zma (by omega),Bool.and_false]))
    go_enter Tryz.func57,Tryz.ntmps57
    go_wp2_with fail
    refine(Zei s (D:Int) h).mono ?_;rintro e w' ⟨rfl,rfl⟩
    rw[h1]
    clear h1
    go_wp2_with fail
    go_ret2
    exact Zag hr.out (Below.refl _ _)
  ·have hr:=Lib.hid (Zvc (l:=l) (s:=s) (d:=D) (m:=m) (by rw[Zmo (by omega),Bool.and_false]))
   go_enter Tryz.func57,Tryz.ntmps57
   go_wp2_with fail
   refine(Zei s (D:Int) h).mono ?_;rintro e w' ⟨rfl,rfl⟩
   rw[h1]
   clear h1
   go_wp2_with fail
   go_ret2
   exact Zag hr.out (Below.refl _ _)
 ·have h1':recB l s d=false:=by simpa using h1
  have hr:=Lib.hid (Zvc (l:=l) (s:=s) (d:=d) (m:=m) (by rw[h1',Bool.false_and]))
  go_enter Tryz.func57,Tryz.ntmps57
  go_wp2_with fail
  refine(Zei s d h).mono ?_;rintro e w' ⟨rfl,rfl⟩
  rw[h1']
  clear h1 h1'
  go_wp2_with fail
  go_ret2
  exact Zag hr.out (Below.refl _ _)
theorem Zla {ao:Option Addr} {n c:Nat} {l:List Int} {w:World} (s:ByteArray) (d m:Int) (h:Rd w ao n l) (hs:s.size≤1099511627776):
 Calls Tryz.prog 232 #[.slice ao n c,.string s,.int .i64 d,.int .i64 m] w (Zdx w (rcvR l s d m)):=by
 by_cases h1:(recB l s d&&inB m 0 600)=true
 ·have h1p:=h1
  rw[Bool.and_eq_true]at h1p
  obtain⟨hsg,hsq,hd0,hd1⟩:=Zs5 h1p.1
  obtain⟨hm0,hm1⟩:=inB_iff.1 h1p.2
  obtain⟨hz0,hz1⟩:=Zbg hsq
  obtain⟨D,rfl⟩:=Int.eq_ofNat_of_zero_le hd0
  obtain⟨M,rfl⟩:=Int.eq_ofNat_of_zero_le hm0
  have HSG:=Lib.hid hsg;have HSQ:=Lib.hid (Zph hsq);clear hsg hsq h1p
  have hr:=Lib.hid (Zps h1)
  go_enter Tryz.func232,Tryz.ntmps232
  go_wp2_with fail
  refine(Zkl s (D:Int) (M:Int) h hs).mono ?_;rintro e w' ⟨rfl,rfl⟩
  rw[h1]
  clear h1
  go_wp2_with fail
  refine(Zos s D M h HSG.out (by omega) (by omega) (by omega) HSQ.out).mono ?_;rintro e w2 ⟨a2,n2,c2,rfl,ho,hb⟩
  have hz:=hb.size
  have HN2:=Lib.hid ho.1
  have hn2:n2≤1000:=by have:=HN2.out;rw[Zdl]at this;omega
  go_wp2_with fail
  refine(Zabf ho.rd (by omega)).mono ?_;rintro e w3 ⟨rfl,hb3⟩
  go_wp2_with fail
  go_ret2
  exact Zbb hr.out (hb.trans (hb3.mono hz))
 ·have h1':(recB l s d&&inB m 0 600)=false:=by simpa using h1
  have hr:=Lib.hid (Zvc h1')
  go_enter Tryz.func232,Tryz.ntmps232
  go_wp2_with fail
  refine(Zkl s d m h hs).mono ?_;rintro e w' ⟨rfl,rfl⟩
  rw[h1']
  clear h1 h1'
  go_wp2_with fail
  go_ret2
  exact Zag hr.out (Below.refl _ _)
end Go.Proofs.YtcjihfongfefoaaGreatDoor
