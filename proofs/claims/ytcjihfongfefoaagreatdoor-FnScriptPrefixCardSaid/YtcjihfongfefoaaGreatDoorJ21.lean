/- Kf Kw Kx Oa -/
import Derived.Test.YtcjihfongfefoaaGreatDoorJ15
import Derived.Test.YtcjihfongfefoaaGreatDoorJ17
import Derived.Test.YtcjihfongfefoaaGreatDoorJ20
import Derived.Test.YtcjihfongfefoaaGreatDoorShlf
namespace Go.Proofs.YtcjihfongfefoaaGreatDoor
open Go.RowKit
set_option maxHeartbeats 25600000
set_option maxRecDepth 100000
def TextB (w:World) (g p k m:Nat) (e:Ending) (w':World):Prop:=
 ∃v:ByteArray,∃q,e= .returned (.string v)∧v.size≤m∧allS bitC v=true∧p≤q∧q≤p+k∧Rdr w' g q∧w.grownBy w' (some g)
def TextH (w:World) (g p m:Nat) (e:Ending) (w':World):Prop:=
 ∃v:ByteArray,∃q,e= .returned (.string v)∧v.size=m∧allS bitC v=true∧p≤q∧q≤p+7∧Rdr w' g q∧w.grownBy w' (some g)
theorem Zjf {l:List Int} (h:∀x∈l,x=48∨x=49):allS bitC (text l)=true:=by
 unfold allS text
 rw[List.all_eq_true]
 intro c hc
 simp only[List.mem_map]at hc
 obtain⟨x,hx,rfl⟩:=hc
 rcases h x hx with rfl|rfl<;>rfl
theorem Z3u {l:List Int} {y:Int} (h:∀x∈l,x=48∨x=49) (hy:y=48∨y=49):∀x∈l++[y],x=48∨x=49:=by
 intro x hx
 rcases List.mem_append.1 hx with h1|h1
 ·exact h x h1
 ·rw[List.mem_singleton.1 h1];exact hy
def Zfv (s:ByteArray) (k:Nat):ByteArray:=s.extract 0 k++invT (s.extract k (k+1))++s.extract (k+1) s.size
theorem Zjn {s:ByteArray} {k:Nat} (h:k<s.size):(Zfv s k).size=s.size:=by
 unfold Zfv;rw[Zap,Zap,Zut,Zbc (by omega),Zbc (by omega),Zbc (by omega)];omega
theorem Zxc {s:ByteArray} (k:Nat) (h:allS bitC s=true):allS bitC (Zfv s k)=true:=by
 unfold Zfv;rw[Zls,Zls,Zeb _ _ h,Zain (Zeb _ _ h),Zeb _ _ h];rfl
theorem Zie {w:World} {g p:Nat} (most:Nat) (h:Rdr w g p) (hp:p≤1073740000) (hm:most≤40):Calls Tryz.prog 44 #[.pointer (some ⟨g,0,none⟩),.int .i64 most] w (TextB w g p (most+1) most):=by
 have hgl:=h.lt
 go_enter Tryz.func44,Tryz.ntmps44
 go_wp2_with (at_make;refine Zj0 w rfl _ _ rfl .i64 .i64 most _ rfl rfl rfl (by omega) ?_;intro w1 ho0 hb0)
 have hr0:=h.below hb0
 have hg0:=Zad hb0 (some g)
 clear h hb0
 go_wp2_with fail
 refine(Zbm _ hr0 (by omega)).mono ?_;rintro e w3 ⟨m,rfl,m0,m1,hr4,hg4⟩
 have hgD:=hg0.trans hg4
 have ho1:Zg1 w3 w.heap.size _ []:=Zc8 ho0 hg4 hgl
 clear hg4 hr0 ho0 hg0
 go_wp2_with fail
 go_loopw [5,6] (fun v i wr=>∃(k:Nat) (l:List Int),i= .int .i64 (k:Nat)∧l.length+k≤most∧Hid (∀x∈l,x=48∨x=49)∧Zg1 wr w.heap.size v l∧Rdr wr g (p+1+l.length)∧w.grownBy wr (some g)) (fun _ i _=>(intOf i).toNat)
 case atStart=>
  obtain⟨k,hk⟩:=Int.eq_ofNat_of_zero_le m0
  exact⟨k,[],by rw[hk],by simp;omega,Lib.hid (fun x hx=>by cases hx),ho1,hr4,hgD⟩
 case round=>
  clear ho1 hr4 hgD m0 m1
  obtain⟨k,l,rfl,hlk,HX,ho,hr,hg⟩:=hrel
  have hz:=hg.size
  by_cases hk0:0<k
  ·go_wp2_with fail
   refine(Zbm _ hr (by omega)).mono ?_;rintro e w4 ⟨v2,rfl,v20,v21,hr5,hg5⟩
   have ho2:Zg1 w4 w.heap.size _ l:=Zc8 ho hg5 hgl
   have hgE:=hg.trans hg5
   have hzE:=hgE.size
   clear ho hg hg5 hr
   obtain rfl|rfl:v2=0∨v2=1:=by omega
   ·clear v20 v21
    go_wp2_with (at_builtin;refine Zd5 22 5 1 (0:Int) Tryz.underlying22 Zct rfl (by decide) (fun _=>rfl) w4 rfl _ _ rfl w.heap.size _ l 48 rfl (by exact ho2) rfl (by omega) hzE ?_;intro v' w5 ho3 _ hb5)
    have hr6:=hr5.farGt2 hb5 hgl
    have hgF:=Zd0 hgE hb5
    clear ho2 hr5 hgE hb5
    go_roundw
    case rel=>exact⟨k-1,l++[48],by go_num,by simp;omega,Lib.hid (Z3u HX.out (.inl rfl)),ho3,by simpa[Nat.add_assoc]using hr6,hgF⟩
    case measure=>simp[intOf];omega
   ·clear v20 v21
    go_wp2_with (at_builtin;refine Zd5 22 5 1 (0:Int) Tryz.underlying22 Zct rfl (by decide) (fun _=>rfl) w4 rfl _ _ rfl w.heap.size _ l 49 rfl (by exact ho2) rfl (by omega) hzE ?_;intro v' w5 ho3 _ hb5)
    have hr6:=hr5.farGt2 hb5 hgl
    have hgF:=Zd0 hgE hb5
    clear ho2 hr5 hgE hb5
    go_roundw
    case rel=>exact⟨k-1,l++[49],by go_num,by simp;omega,Lib.hid (Z3u HX.out (.inr rfl)),ho3,by simpa[Nat.add_assoc]using hr6,hgF⟩
    case measure=>simp[intOf];omega
  ·obtain rfl:k=0:=by omega
   obtain⟨a2,n2,c2,hv,ho2⟩:=OwnVF.own ho (by omega)
   subst hv
   have hrd:=ho2.rd
   clear ho ho2
   go_wp2_with (with_reducible refine Zca 22 5 9 Tryz.underlying22 Tryz.underlying5 Tryz.underlying9 _ rfl (.tmp 24) rfl rfl hrd ?_)
   go_ret
   exact⟨text l,_,rfl,by rw[Zaq];omega,Zjf HX.out,by omega,by omega,hr,hg⟩
theorem Z18 (s:ByteArray) (k:Nat) (w:World) (hk:k<s.size) (hs:s.size≤1000) (hb:allS bitC s=true):Calls Tryz.prog 238 #[.string s,.int .i64 k] w fun e w'=>e= .returned (.string (Zfv s k))∧Below w.heap.size w w':=by
 have HB:=Lib.hid (Zdc (Zeb k (k+1) hb))
 have HF:=Lib.hid (show Zfv s k=s.extract 0 k++invT (s.extract k (k+1))++s.extract (k+1) s.size from rfl)
 have hx1:(s.extract k (k+1)).size=1:=by rw[Zbc (by omega)];omega
 have hx0:(s.extract 0 k).size=k:=by rw[Zbc (by omega)];omega
 have hx2:(s.extract (k+1) s.size).size=s.size-(k+1):=by rw[Zbc (by omega)]
 have hx3:(invT (s.extract k (k+1))).size=1:=by rw[Zut,hx1]
 have hx4:(s.extract 0 k++invT (s.extract k (k+1))).size=k+1:=by rw[Zap,hx0,hx3]
 have wk:IntKind.i64.wrap ((k:Int)+1)=((k+1:Nat):Int):=by rw[IntWalk.i64_in _ (by omega)];omega
 have hk1:k+1≤s.size:=hk
 have hkk:k≤k+1:=Nat.le_succ k
 have hk0:k≤s.size:=Nat.le_of_lt hk
 obtain⟨X,hX⟩:∃X,X=s.extract k (k+1):=⟨_,rfl⟩
 have hXI:=Zut X
 rw[←hX]at HB HF hx1 hx3 hx4
 have HC:=Lib.hid hX
 clear hb hX
 go_enter Tryz.func238,Tryz.ntmps238
 go_wp2_with fail
 go_region_with (first|(go_at_call 124;rw[←HC.out];refine(Zn9 X _ (by omega) HB.out).mono ?_;rintro e w1 ⟨rfl,hb1⟩))
 all_goals
  have hb3:=(Below.drew (Below.refl w.heap.size w)).trans hb1
  clear hb1 wk
  go_wp2_with fail
  go_ret
  exact⟨by rw[HF.out];rfl,hb3⟩
theorem Zads {w:World} {g p:Nat} (s:ByteArray) (h:Rdr w g p) (hp:p≤1073740000) (hs:s.size≤600) (hb:allS bitC s=true):Calls Tryz.prog 157 #[.pointer (some ⟨g,0,none⟩),.string s] w (TextH w g p s.size):=by
 have hgl:=h.lt
 have HB:=Lib.hid hb
 clear hb
 go_enter Tryz.func157,Tryz.ntmps157
 go_wp2_with fail
 refine(Ze6 [0,1,0,2,3] h (by omega) rfl rfl (by decide) (by decide)).mono ?_;rintro e w1 ⟨x,rfl,hx,hr1,hg1⟩
 have hgA:=(Zad ((Below.refl w.heap.size w).alloc (Nat.le_refl w.heap.size) _) (some g)).trans hg1
 have hx2:0≤x∧x≤3:=by simp at hx;omega
 clear hx hg1 h
 obtain⟨n,rfl⟩:=Int.eq_ofNat_of_zero_le hx2.1
 have hn3:n≤3:=by omega
 clear hx2
 go_wp2_with fail
 go_loopw [1,5] (fun v i wr=>∃(k:Nat) (u:ByteArray) (q:Nat),k≤n∧i= .int .i64 (k:Nat)∧v= .string u∧Hid (u.size=s.size∧allS bitC u=true)∧p+1≤q∧q+2*k≤p+7∧Rdr wr g q∧w.grownBy wr (some g)) (fun _ i _=>(intOf i).toNat)
 case atStart=>exact⟨n,s,p+1,Nat.le_refl _,rfl,rfl,Lib.hid ⟨rfl,HB.out⟩,Nat.le_refl _,by omega,hr1,hgA⟩
 case round=>
  clear hr1 hgA
  obtain⟨k,u,q,hk,rfl,rfl,HU,hq0,hq1,hr,hg⟩:=hrel
  have hus:u.size≤600:=by rw[HU.out.1];exact hs
  by_cases hk0:0<k
  ·by_cases hu0:0<u.size
   ·go_wp2_with fail
    refine(Zbm _ hr (by omega)).mono ?_;rintro e w4 ⟨a,rfl,a0,a1,hr4,hg4⟩
    have hgB:=hg.trans hg4
    clear hr hg hg4
    go_wp2_with fail
    refine(Zbm _ hr4 (by omega)).mono ?_;rintro e w5 ⟨b,rfl,b0,b1,hr5,hg5⟩
    have hgC:=hgB.trans hg5
    clear hr4 hgB hg5
    obtain⟨A,rfl⟩:=Int.eq_ofNat_of_zero_le a0
    obtain⟨B,rfl⟩:=Int.eq_ofNat_of_zero_le b0
    obtain⟨r,hr⟩:∃r,r=(A+B)%u.size:=⟨_,rfl⟩
    have hru:r<u.size:=by rw[hr];exact Nat.mod_lt _ hu0
    have e1:((A:Int)+(B:Int)).tmod (u.size:Int)=(r:Int):=by rw[hr];rfl
    have e2:((A:Int)+(B:Int))%(u.size:Int)=(r:Int):=by rw[hr];rfl
    have hne:((u.size:Int)==0)=false:=by rw[beq_eq_false_iff_ne];omega
    have hA:A<256:=by rcases a1 with h|h<;>omega
    have hB:B<256:=by rcases b1 with h|h<;>omega
    clear hr a0 b0 a1 b1
    have HFZ:=Lib.hid (Zjn hru)
    have HFB:=Lib.hid (Zxc r HU.out.2)
    have hz:=hgC.size
    go_wp2_with fail
    refine(Z18 u r _ hru (by omega) HU.out.2).mono ?_;rintro e w6 ⟨rfl,hb6⟩
    have hr6:=hr5.below hb6
    have hgD:=Zaj hgC hb6
    clear e1 e2 hr5 hgC hb6
    go_wp2_with fail
    go_roundw
    case rel=>exact⟨k-1,Zfv u r,q+1+1,by omega,by go_num,rfl,Lib.hid ⟨HFZ.out.trans HU.out.1,HFB.out⟩,by omega,by omega,hr6,hgD⟩
    case measure=>simp[intOf];omega
   ·have hu0':¬(0:Int)<(u.size:Int):=by omega
    go_wp2_with fail
    go_ret
    exact⟨u,q,rfl,HU.out.1,HU.out.2,by omega,by omega,hr,hg⟩
  ·have hk0':¬(0:Int)<(k:Int):=by omega
   go_wp2_with fail
   go_ret
   exact⟨u,q,rfl,HU.out.1,HU.out.2,by omega,by omega,hr,hg⟩
def synK (s:ByteArray):Nat→Nat
 |0=>0
 |k+1=>if(Zab s).getD k 0=49 then synK s k ^^^ (k+1)else synK s k
theorem Znj (s:ByteArray):∀k,k≤7→synK s k<8
 |0,_=>by unfold synK;omega
 |k+1,h=>by
  have ih:=Znj s k (by omega)
  unfold synK
  split
  ·exact Nat.xor_lt_two_pow (n:=3) ih (by omega)
  ·exact ih
theorem Z2b {s:ByteArray} {k:Nat} (h:k<s.size) (h1:s[k].toNat=49):synK s (k+1)=synK s k ^^^ (k+1):=by
 rw[synK,Zgt h,if_pos (by omega)]
theorem Zac1 {s:ByteArray} {k:Nat} (h:k<s.size) (h1:¬s[k].toNat=49):synK s (k+1)=synK s k:=by
 rw[synK,Zgt h,if_neg (by omega)]
def fixB (X:ByteArray):ByteArray:=if 0<synK X 7 then Zfv X (synK X 7-1)else X
def decB (X:ByteArray):ByteArray:=(fixB X).extract 2 3++(fixB X).extract 4 7
def hdcT (s:ByteArray):Nat→ByteArray
 |0=>⟨#[]⟩
 |k+1=>hdcT s k++decB (s.extract (k*7) (k*7+7))
def decN (s:ByteArray):Nat→Nat
 |0=>0
 |k+1=>if 0<synK (s.extract (k*7) (k*7+7)) 7 then decN s k+1 else decN s k
def hamR (s:ByteArray):Option (ByteArray×Nat):=if(Zan s&&(s.size%7==0))=true then some (hdcT s (s.size/7),decN s (s.size/7))else none
theorem Z4w {s:ByteArray} (h:Zan s=false):hamR s=none:=by unfold hamR;rw[h];rfl
theorem Z2c {s:ByteArray} (h:¬s.size%7=0):hamR s=none:=by
 unfold hamR;rw[show(s.size%7==0)=false by rw[beq_eq_false_iff_ne];exact h,Bool.and_false];rfl
theorem Zvl {s:ByteArray} (h1:Zan s=true) (h2:s.size%7=0):hamR s=some (hdcT s (s.size/7),decN s (s.size/7)):=by
 unfold hamR;rw[h1,show(s.size%7==0)=true by rw[beq_iff_eq];exact h2];rfl
theorem Zlz {X:ByteArray} (h:X.size=7):(fixB X).size=7:=by
 unfold fixB
 have:=Znj X 7 (Nat.le_refl _)
 split
 ·rw[Zjn (by omega),h]
 ·exact h
theorem Zadc {X:ByteArray} (h:X.size=7):(decB X).size=4:=by
 unfold decB;rw[Zap,Zbc (by rw[Zlz h];omega),Zbc (by rw[Zlz h];omega)]
theorem Z0p (s:ByteArray):∀k,decN s k≤k
 |0=>Nat.le_refl _
 |k+1=>by
  have:=Z0p s k
  unfold decN;split<;>omega
theorem Zjh {s:ByteArray}:∀k,k*7≤s.size→(hdcT s k).size=4*k
 |0,_=>rfl
 |k+1,h=>by
  have ih:=Zjh (s:=s) k (by omega)
  rw[hdcT,Zap,ih,Zadc (by rw[Zbc (by omega)];omega)];omega
theorem Zxk (s:ByteArray) (w:World) (hz:s.size≤7):Calls Tryz.prog 306 #[.string s] w fun e w'=>e= .returned (.int .i64 (synK s s.size:Nat))∧w=w':=by
 go_enter Tryz.func306,Tryz.ntmps306
 go_wp2_with fail
 go_loop [3,7] (fun n i=>∃k:Nat,k≤s.size∧i= .int .i64 k∧n= .int .i64 (synK s k:Nat)) (fun _ i=>s.size-(intOf i).toNat)
 case atStart=>exact⟨0,Nat.zero_le _,rfl,rfl⟩
 case round=>
  obtain⟨k,hk,rfl,rfl⟩:=hrel
  have hlt8:=Znj s k (by omega)
  by_cases hlt:k<s.size
  ·by_cases h1:s[k].toNat=49
   ·have HS:=Lib.hid (Z2b hlt h1)
    have hv:((s[k].toNat:Int)==49)=true:=by rw[beq_iff_eq];omega
    generalize synK s k=n at*
    have HX:=Lib.hid (show bits .xor .i64 (n:Int) ((k:Int)+1)=((n ^^^ (k+1):Nat):Int)from Zlc n (k+1) (by omega) (by omega))
    clear h1
    go_wp2_with fail
    go_round
    case rel=>exact⟨k+1,by omega,by go_num,by rw[HX.out,HS.out]⟩
    case measure=>simp[intOf];omega
   ·have HS:=Lib.hid (Zac1 hlt h1)
    have hv:((s[k].toNat:Int)==49)=false:=by rw[beq_eq_false_iff_ne];omega
    generalize synK s k=n at*
    clear h1
    go_wp2_with fail
    go_round
    case rel=>exact⟨k+1,by omega,by go_num,by rw[HS.out]⟩
    case measure=>simp[intOf];omega
  ·obtain rfl:k=s.size:=by omega
   go_wp2_with fail
   go_ret
   exact⟨rfl,rfl⟩
theorem Zot (s:ByteArray) (w:World) (hz:s.size≤7):Calls Tryz.prog 312 #[.string s] w fun e w'=>e= .returned (.int .i64 (synK s s.size:Nat))∧w=w':=by
 go_enter Tryz.func312,Tryz.ntmps312
 go_wp2_with fail
 go_loop [3,4] (fun n i=>∃k:Nat,k≤s.size∧i= .int .i64 k∧n= .int .i64 (synK s k:Nat)) (fun _ i=>s.size-(intOf i).toNat)
 case atStart=>exact⟨0,Nat.zero_le _,rfl,rfl⟩
 case round=>
  obtain⟨k,hk,rfl,rfl⟩:=hrel
  have hlt8:=Znj s k (by omega)
  by_cases hlt:k<s.size
  ·by_cases h1:s[k].toNat=49
   ·have HS:=Lib.hid (Z2b hlt h1)
    have hv:((s[k].toNat:Int)==49)=true:=by rw[beq_iff_eq];omega
    generalize synK s k=n at*
    have HX:=Lib.hid (show bits .xor .i64 (n:Int) ((k:Int)+1)=((n ^^^ (k+1):Nat):Int)from Zlc n (k+1) (by omega) (by omega))
    clear h1
    go_wp2_with fail
    go_round
    case rel=>exact⟨k+1,by omega,by go_num,by rw[HX.out,HS.out]⟩
    case measure=>simp[intOf];omega
   ·have HS:=Lib.hid (Zac1 hlt h1)
    have hv:((s[k].toNat:Int)==49)=false:=by rw[beq_eq_false_iff_ne];omega
    generalize synK s k=n at*
    clear h1
    go_wp2_with fail
    go_round
    case rel=>exact⟨k+1,by omega,by go_num,by rw[HS.out]⟩
    case measure=>simp[intOf];omega
  ·obtain rfl:k=s.size:=by omega
   go_wp2_with fail
   go_ret
   exact⟨rfl,rfl⟩
theorem Z2n (s:ByteArray) (k:Nat) {Y:ByteArray} (hY:Y=fixB (s.extract (k*7) (k*7+7))) (hz:Y.size=7):hdcT s k++Y.extract 2 3++Y.extract 4 Y.size=hdcT s (k+1):=by
 rw[hz,hdcT]
 unfold decB
 rw[←hY]
 apply Zsj
 simp only[Zhs,List.append_assoc]
theorem Zov (s:ByteArray) (w:World) (hs:s.size≤1099511627776):Calls Tryz.prog 284 #[.string s] w (Z5q w (hamR s)):=by
 by_cases h1:Zan s=true
 ·have h6:=Zcm h1
  obtain⟨m,hm⟩:∃m,m=s.size%7:=⟨_,rfl⟩
  have e1:(s.size:Int).tmod 7=(m:Int):=by rw[hm];rfl
  have e2:(s.size:Int)%7=(m:Int):=by rw[hm];rfl
  by_cases h2:m=0
  ·have hr:=Lib.hid (Zvl h1 (by omega))
   obtain⟨M,hM⟩:∃M,M=s.size/7:=⟨_,rfl⟩
   rw[←hM]at hr
   have hM7:M*7=s.size:=by omega
   have HM:=Lib.hid hM7
   have HA:=Lib.hid (Zb5 h1)
   have e3:(s.size:Int).tmod 7=0:=by rw[e1,h2];rfl
   have e4:(s.size:Int)%7=0:=by rw[e2,h2];rfl
   clear hm hM hM7 e1 e2 h2
   go_enter Tryz.func284,Tryz.ntmps284
   go_wp2_with fail
   refine(Za0 _ _ hs).mono ?_;rintro e w' ⟨rfl,rfl⟩
   rw[h1]
   clear h1
   go_wp2_with fail
   clear e3 e4
   go_loopw [5,6,7] (fun o n i wr=>∃k P:Nat,k≤M∧Hid (P=k*7)∧i= .int .i64 P∧o= .string (hdcT s k)∧n= .int .i64 (decN s k:Nat)∧Below w.heap.size w wr) (fun _ _ i _=>s.size-(intOf i).toNat)
   case atStart=>exact⟨0,0,Nat.zero_le _,Lib.hid rfl,rfl,rfl,rfl,Below.refl _ _⟩
   case round=>
    obtain⟨k,P,hk,HP,rfl,rfl,rfl,hb⟩:=hrel
    have hdn:=Z0p s k
    have hP:=HP.out
    have hMM:=HM.out
    by_cases hlt:k<M
    ·have hPs:P+7≤s.size:=by omega
     have hdz:=Zjh (s:=s) k (by omega)
     obtain⟨Q,hQ⟩:∃Q,Q=P+7:=⟨_,rfl⟩
     have hQI:(P:Int)+7=(Q:Int):=by rw[hQ];rfl
     have HPQ:=Lib.hid (show Q=(k+1)*7 by omega)
     obtain⟨X,hX⟩:∃X,X=s.extract P Q:=⟨_,rfl⟩
     have hXz:X.size=7:=by rw[hX,Zbc (by omega)];omega
     have hXB:allS bitC X=true:=by rw[hX];exact Zeb P Q HA.out
     have hX2:X=s.extract (k*7) (k*7+7):=by rw[hX,hQ,hP]
     have HX:=Lib.hid hX
     have HXB:=Lib.hid hXB
     have hsy:=Znj X 7 (Nat.le_refl _)
     have hPQ:P≤Q:=by omega
     have hQs:Q≤s.size:=by omega
     have hzb:=hb.size
     have hk6:k≤600:=by omega
     by_cases hy:0<synK X 7
     ·have HN:=Lib.hid (show decN s (k+1)=decN s k+1 by rw[decN,←hX2,if_pos hy])
      have HY:=Lib.hid (show fixB X=Zfv X (synK X 7-1)by unfold fixB;rw[if_pos hy])
      have hYz:=Zlz hXz
      have HT:=Lib.hid (Z2n s k (Y:=fixB X) (by rw[hX2]) hYz)
      rw[HY.out]at hYz HT
      obtain⟨p,hp⟩:∃p,p=synK X 7:=⟨_,rfl⟩
      rw[←hp]at hy hsy hYz HT
      have Hp:=Lib.hid hp
      clear hP hMM hQ hX hXB hX2 hp HY
      go_wp2_with fail
      rw[←HX.out]
      refine(Zot X _ (by omega)).mono ?_;rintro e w' ⟨rfl,rfl⟩
      rw[hXz,←Hp.out]
      obtain⟨q,rfl⟩:∃q,p=q+1:=⟨p-1,by omega⟩
      rw[Nat.add_sub_cancel]at hYz HT
      have hqI:((q+1:Nat):Int)-1=(q:Int):=by omega
      go_wp2_with fail
      refine(Z18 X q _ (by omega) (by omega) HXB.out).mono ?_;rintro e w2 ⟨rfl,hb2⟩
      have hb3:=hb.trans (hb2.mono hzb)
      generalize Zfv X q=Y at*
      have hc1:(hdcT s k++Y.extract 2 3).size=4*k+1:=by rw[Zap,hdz,Zbc (by omega)]
      have hc2:(Y.extract 2 3).size=1:=by rw[Zbc (by omega)]
      have hc3:(Y.extract 4 7).size=3:=by rw[Zbc (by omega)]
      have hd1:¬(hdcT s k).size+(Y.extract 2 3).size>9223372036854775807:=by omega
      have hd2:¬(hdcT s k++Y.extract 2 3).size+(Y.extract 4 7).size>9223372036854775807:=by omega
      have hi3:(3:Int)≤(Y.size:Int):=by omega
      have hi4:(4:Int)≤(Y.size:Int):=by omega
      have hHT:=HT.out
      rw[hYz]at hHT
      have HT2:=Lib.hid hHT
      clear hHT
      clear hb hb2
      go_wp2_with fail
      go_quiet (fail)
      go_wp2_with fail
      go_roundw
      case rel=>exact⟨k+1,Q,by omega,HPQ,rfl,by rw[HT2.out],by rw[HN.out];go_num,hb3.trans ((Qw.drewN _ _).below _)⟩
      case measure=>simp[intOf];omega
     ·have HN:=Lib.hid (show decN s (k+1)=decN s k by rw[decN,←hX2,if_neg hy])
      have HY:=Lib.hid (show fixB X=X by unfold fixB;rw[if_neg hy])
      have hYz:=Zlz hXz
      have HT:=Lib.hid (Z2n s k (Y:=fixB X) (by rw[hX2]) hYz)
      rw[HY.out]at HT
      have hsy0:synK X 7=0:=by omega
      have Hp:=Lib.hid hsy0
      have hHT:=HT.out
      rw[hXz]at hHT
      have HT2:=Lib.hid hHT
      clear hP hMM hQ hXB hX2 HY hsy0 hHT hYz hy hsy
      go_wp2_with fail
      rw[←HX.out]
      clear hX
      refine(Zot X _ (by omega)).mono ?_;rintro e w' ⟨rfl,rfl⟩
      rw[hXz,Hp.out]
      have hc1:(hdcT s k++X.extract 2 3).size=4*k+1:=by rw[Zap,hdz,Zbc (by omega)]
      have hc2:(X.extract 2 3).size=1:=by rw[Zbc (by omega)]
      have hc3:(X.extract 4 7).size=3:=by rw[Zbc (by omega)]
      have hd1:¬(hdcT s k).size+(X.extract 2 3).size>9223372036854775807:=by omega
      have hd2:¬(hdcT s k++X.extract 2 3).size+(X.extract 4 7).size>9223372036854775807:=by omega
      have hi3:(3:Int)≤(X.size:Int):=by omega
      have hi4:(4:Int)≤(X.size:Int):=by omega
      go_wp2_with fail
      go_quiet (fail)
      go_wp2_with fail
      go_roundw
      case rel=>exact⟨k+1,Q,by omega,HPQ,rfl,by rw[HT2.out],by rw[HN.out],hb.trans ((Qw.drewN _ _).below _)⟩
      case measure=>simp[intOf];omega
    ·obtain rfl:k=M:=by omega
     have hnl:¬(P:Int)<(s.size:Int):=by omega
     clear hP hMM
     go_wp2_with fail
     go_ret3
     exact Zkw hr.out rfl hb
  ·have hr:=Lib.hid (Z2c (s:=s) (by omega))
   have hm0:((m:Int)==0)=false:=by rw[beq_eq_false_iff_ne];omega
   clear hm h2
   go_enter Tryz.func284,Tryz.ntmps284
   go_wp2_with fail
   refine(Za0 _ _ hs).mono ?_;rintro e w' ⟨rfl,rfl⟩
   rw[h1]
   go_wp2_with fail
   go_ret3
   exact Zbr hr.out (Below.refl _ _)
 ·have h1':Zan s=false:=by simpa using h1
  have hr:=Lib.hid (Z4w h1')
  clear h1
  go_enter Tryz.func284,Tryz.ntmps284
  go_wp2_with fail
  refine(Za0 _ _ hs).mono ?_;rintro e w' ⟨rfl,rfl⟩
  rw[h1']
  go_wp2_with fail
  go_ret3
  exact Zbr hr.out (Below.refl _ _)
theorem Zhc (a b:ByteArray):Zab (a++b)=Zab a++Zab b:=by unfold Zab;rw[Zhs,List.map_append]
theorem Ze4 (s:ByteArray) (a b:Nat):Zab (s.extract a b)=((Zab s).drop a).take (b-a):=by unfold Zab;rw[Zea,List.map_take,List.map_drop]
theorem Zn2 {X:ByteArray} {q:Nat} (hq:q<X.size) (hb:allS bitC X=true):Zab (Zfv X q)=(Zab X).set q (97-(Zab X)[q]'(by rw[Zac];exact hq)):=by
 have hl:q<(Zab X).length:=by rw[Zac];exact hq
 unfold Zfv
 rw[Zhc,Zhc,Zw6 (Zeb q (q+1) hb),Ze4,Ze4,Ze4,List.set_eq_take_append_cons_drop,if_pos hl]
 rw[List.drop_zero,Nat.sub_zero,Nat.add_sub_cancel_left,List.drop_eq_getElem_cons hl]
 rw[List.take_of_length_le (l:=(Zab X).drop (q+1)) (by rw[List.length_drop,Zac];exact Nat.le_refl _)]
 simp[invL]
 have hl2:q<((Zab X).map fun x=>97-x).length:=by rw[List.length_map];exact hl
 rw[List.drop_eq_getElem_cons hl2,List.getElem_map];rfl
theorem Zxi {Y:ByteArray} (hz:Y.size=7) (h2:2<(Zab Y).length) (h4:4<(Zab Y).length) (h5:5<(Zab Y).length) (h6:6<(Zab Y).length):
 Zab (Y.extract 2 3++Y.extract 4 7)=[(Zab Y)[2],(Zab Y)[4],(Zab Y)[5],(Zab Y)[6]]:=by
 have hl:(Zab Y).length=7:=by rw[Zac];exact hz
 rw[Zhc,Ze4,Ze4]
 generalize Zab Y=L at*
 match L,hl with
 |[a,b,c,d,e,f,g],_=>rfl
def opR (b:ByteArray) (n s t x:Int):Option ByteArray:=(scrR b s t x).bind fun m=>(deiR m n).bind fun k=>(hamR k).bind fun d=>(Zbn d.1 0).map Prod.fst
theorem scr_sz (b:ByteArray) (s t x:Int):((scrR b s t x).getD ByteArray.empty).size≤b.size:=by
 unfold scrR
 split
 ·show(scrT b _ _ _).size≤_;rw[Ziy];exact Nat.le_refl _
 ·exact Nat.zero_le _
theorem dei_sz (m:ByteArray) (n:Int):((deiR m n).getD ByteArray.empty).size≤m.size:=by
 unfold deiR
 split
 ·show(deiT m _).size≤_;unfold deiT;rw[Zaq,Zkv];exact Nat.le_refl _
 ·exact Nat.zero_le _
theorem ham_sz (k:ByteArray):(((hamR k).map Prod.fst).getD ByteArray.empty).size≤4*k.size:=by
 unfold hamR
 split
 ·show(hdcT k (k.size/7)).size≤_
  rw[Zjh _ (by omega)];omega
 ·exact Nat.zero_le _
theorem Zsr (b:ByteArray) (n s t x:Int) (w:World) (hs:b.size≤1073741824):Calls Tryz.prog 230 #[.string b,.int .i64 n,.agg #[.int .i64 s,.int .i64 t,.int .i64 x]] w (Zdx w (opR b n s t x)):=by
 have hR0:=Za4 w s t x
 have hB0:Below w.heap.size w (w.alloc (.cells #[.int .i64 s,.int .i64 t,.int .i64 x] 46)):=(Below.refl _ _).alloc (Nat.le_refl _) _
 have HZ:=Lib.hid (show(w.alloc (.cells #[.int .i64 s,.int .i64 t,.int .i64 x] 46)).heap.size=w.heap.size+1 by simp)
 have c0:=hR0.c0
 have c1:=hR0.c1
 have c2:=hR0.c2
 have hz1:=scr_sz b s t x
 go_enter Tryz.func230,Tryz.ntmps230
 go_wp2_with fail
 refine(Zjw b s t x _ (by omega)).mono ?_;rintro e w1 ⟨rfl,hb1⟩
 have hB1:=hB0.trans (hb1.mono (by rw[HZ.out];omega))
 clear hR0 hB0 hb1 c0 c1 c2
 obtain⟨A,hA⟩:∃A,A=scrR b s t x:=⟨_,rfl⟩
 rw[←hA]at hz1
 rw[←hA]
 have HA:=Lib.hid hA
 clear hA
 obtain⟨m,hm⟩:∃m,m=A.getD ByteArray.empty:=⟨_,rfl⟩
 obtain⟨o1,ho1⟩:∃o,o=A.isSome:=⟨_,rfl⟩
 rw[←hm]at hz1
 rw[←hm,←ho1]
 have HM:=Lib.hid (And.intro hm ho1)
 clear hm ho1
 have hz2:=dei_sz m n
 go_wp2_with fail
 refine(Zlx m n _ (by omega)).mono ?_;rintro e w2 ⟨rfl,hb2⟩
 have hB2:=hB1.trans (hb2.mono hB1.size)
 clear hB1 hb2
 obtain⟨B,hB⟩:∃B,B=deiR m n:=⟨_,rfl⟩
 rw[←hB]at hz2
 rw[←hB]
 have HB:=Lib.hid hB
 clear hB
 obtain⟨k,hk⟩:∃k,k=B.getD ByteArray.empty:=⟨_,rfl⟩
 obtain⟨o2,ho2⟩:∃o,o=B.isSome:=⟨_,rfl⟩
 rw[←hk]at hz2
 rw[←hk,←ho2]
 have HK:=Lib.hid (And.intro hk ho2)
 clear hk ho2
 have hz3:=ham_sz k
 go_wp2_with fail
 refine(Zov k _ (by omega)).mono ?_;rintro e w3 ⟨rfl,hb3⟩
 have hB3:=hB2.trans (hb3.mono hB2.size)
 clear hB2 hb3
 obtain⟨C,hC⟩:∃C,C=hamR k:=⟨_,rfl⟩
 rw[←hC]at hz3
 rw[←hC]
 have HC:=Lib.hid hC
 clear hC
 obtain⟨d,hd⟩:∃d,d=(C.map Prod.fst).getD ByteArray.empty:=⟨_,rfl⟩
 obtain⟨z,hz⟩:∃z,z=(C.map Prod.snd).getD 0:=⟨_,rfl⟩
 obtain⟨o3,ho3⟩:∃o,o=C.isSome:=⟨_,rfl⟩
 rw[←hd]at hz3
 rw[←hd,←hz,←ho3]
 have HD:=Lib.hid (And.intro hd ho3)
 clear hd hz ho3
 cases o1 with
 |false=>
  have hr:Hid (opR b n s t x=none):=Lib.hid (by
   unfold opR;rw[←HA.out]
   cases A with
   |none=>rfl
   |some a=>exact absurd HM.out.2 (by simp))
  go_wp2_with fail
  go_ret2
  exact Zag hr.out hB3
 |true=>
  cases o2 with
  |false=>
   have hr:Hid (opR b n s t x=none):=Lib.hid (by
    unfold opR;rw[←HA.out]
    cases A with
    |none=>rfl
    |some a=>
     have hma:m=a:=HM.out.1
     rw[Option.bind_some,←hma,←HB.out]
     cases B with
     |none=>rfl
     |some q=>exact absurd HK.out.2 (by simp))
   go_wp2_with fail
   go_ret2
   exact Zag hr.out hB3
  |true=>
   cases o3 with
   |false=>
    have hr:Hid (opR b n s t x=none):=Lib.hid (by
     unfold opR;rw[←HA.out]
     cases A with
     |none=>rfl
     |some a=>
      have hma:m=a:=HM.out.1
      rw[Option.bind_some,←hma,←HB.out]
      cases B with
      |none=>rfl
      |some q=>
       have hkq:k=q:=HK.out.1
       rw[Option.bind_some,←hkq,←HC.out]
       cases C with
       |none=>rfl
       |some v=>exact absurd HD.out.2 (by simp))
    go_wp2_with fail
    go_ret2
    exact Zag hr.out hB3
   |true=>
    have hr:Hid (opR b n s t x=(Zbn d 0).map Prod.fst):=Lib.hid (by
     unfold opR;rw[←HA.out]
     cases A with
     |none=>exact absurd HM.out.2 (by simp)
     |some a=>
      have hma:m=a:=HM.out.1
      rw[Option.bind_some,←hma,←HB.out]
      cases B with
      |none=>exact absurd HK.out.2 (by simp)
      |some q=>
       have hkq:k=q:=HK.out.1
       rw[Option.bind_some,←hkq,←HC.out]
       cases C with
       |none=>exact absurd HD.out.2 (by simp)
       |some v=>
        have hdv:d=v.1:=HD.out.1
        rw[Option.bind_some,←hdv])
    go_wp2_with fail
    refine(Zik d 0 _ (by omega)).mono ?_;rintro e w4 ⟨rfl,hb4⟩
    have hB4:=hB3.trans (hb4.mono hB3.size)
    cases hp:Zbn d 0 with
    |none=>
     have HP:=Lib.hid hp
     clear hp
     simp only[Option.map_none,Option.getD_none,Option.isSome_none]
     go_wp2_with fail
     go_ret2
     exact Zag (by rw[hr.out,HP.out];rfl) hB4
    |some pn=>
     obtain⟨p,j⟩:=pn
     have HP:=Lib.hid hp
     clear hp
     simp only[Option.map_some,Option.getD_some,Option.isSome_some]
     go_wp2_with fail
     go_ret2
     exact Zbb (by rw[hr.out,HP.out];rfl) hB4
def parN (a b c:Int):Nat:=((a+b+c)%2).toNat
def parB (a b c:Int):Int:=((48+parN a b c:Nat):Int)
def encL (a b c d:Int):List Int:=[parB a b d,parB a c d,a,parB b c d,b,c,d]
def encK (L:List Int):Nat→List Int
 |0=>[]
 |k+1=>encK L k++encL (L.getD (k*4) 0) (L.getD (k*4+1) 0) (L.getD (k*4+2) 0) (L.getD (k*4+3) 0)
def encT (s:ByteArray):ByteArray:=text (encK (Zab s) (s.size/4))
def encR (s:ByteArray):Option ByteArray:=if(Zan s&&(s.size%4==0)&&decide (s.size/4*7≤600))=true then some (encT s)else none
theorem Zqr (a b c:Int):parN a b c≤1:=by unfold parN;omega
theorem Zvt (a b c:Int):Za7 (parB a b c):=by
 have:=Zqr a b c
 unfold parB Za7;omega
theorem Zkc (L:List Int):∀k,(encK L k).length=7*k
 |0=>rfl
 |k+1=>by rw[encK,List.length_append,Zkc L k];simp[encL];omega
theorem Zih {L:List Int} (h:∀x∈L,Za7 x) {i:Nat} (hi:i<L.length):Za7 (L.getD i 0):=by
 rw[List.getD_eq_getElem?_getD,List.getElem?_eq_getElem hi,Option.getD_some]
 exact h _ (List.getElem_mem hi)
theorem Zac8 {a b c d:Int} (ha:Za7 a) (hb:Za7 b) (hc:Za7 c) (hd:Za7 d):∀x∈encL a b c d,Za7 x:=by
 intro x hx
 simp only[encL,List.mem_cons,List.not_mem_nil,or_false]at hx
 rcases hx with rfl|rfl|rfl|rfl|rfl|rfl|rfl
 ·exact Zvt _ _ _
 ·exact Zvt _ _ _
 ·exact ha
 ·exact Zvt _ _ _
 ·exact hb
 ·exact hc
 ·exact hd
theorem Zuo {L:List Int} (h:∀x∈L,Za7 x):∀k,k*4≤L.length→∀x∈encK L k,Za7 x
 |0,_=>by intro x hx;cases hx
 |k+1,hk=>by
  intro x hx
  rw[encK]at hx
  rcases List.mem_append.1 hx with h2|h2
  ·exact Zuo h k (by omega) x h2
  ·exact Zac8 (Zih h (by omega)) (Zih h (by omega)) (Zih h (by omega)) (Zih h (by omega)) x h2
theorem Zms (s:ByteArray):(encT s).size=7*(s.size/4):=by unfold encT;rw[Zaq,Zkc]
theorem Z1j {s:ByteArray} (h:allS bitC s=true):allS bitC (encT s)=true:=by
 unfold encT
 exact Zjf fun x hx=>Zuo (Zdc h) _ (by rw[Zac];omega) x hx
theorem Z4n {s:ByteArray} (h:Zan s=false):encR s=none:=by unfold encR;rw[h];rfl
theorem Z3x {s:ByteArray} (h:¬s.size%4=0):encR s=none:=by
 unfold encR;rw[show(s.size%4==0)=false by rw[beq_eq_false_iff_ne];exact h,Bool.and_false];rfl
theorem Z48 {s:ByteArray} (h:¬s.size/4*7≤600):encR s=none:=by
 unfold encR;rw[decide_eq_false h,Bool.and_false];rfl
theorem Zvx {s:ByteArray} (h1:Zan s=true) (h2:s.size%4=0) (h3:s.size/4*7≤600):encR s=some (encT s):=by
 unfold encR;rw[h1,show(s.size%4==0)=true by rw[beq_iff_eq];exact h2,decide_eq_true h3];rfl
theorem Zac9 {s:ByteArray} (h1:Zan s=true) (h2:s.size%4=0):Zadq (encT s)=encR s:=by
 by_cases h3:s.size/4*7≤600
 ·rw[Zvx h1 h2 h3]
  exact if_pos (Zd9 (by rw[Zms];omega) (Z1j (Zb5 h1)))
 ·rw[Z48 h3]
  refine if_neg fun h=>h3 ?_
  have:=Zcm h
  rw[Zms]at this;omega
theorem Zaj5 {a b c:Int} (ha:Za7 a) (hb:Za7 b) (hc:Za7 c):bits .and .i64 (bits .xor .u8 (bits .xor .u8 a b) c) 1=((parN a b c:Nat):Int):=by
 rcases ha with rfl|rfl<;>rcases hb with rfl|rfl<;>rcases hc with rfl|rfl<;>rfl
theorem Zaip {a b c:Int} (ha:Za7 a) (hb:Za7 b) (hc:Za7 c):0≤bits .xor .u8 (bits .xor .u8 a b) c∧bits .xor .u8 (bits .xor .u8 a b) c<256:=by
 rcases ha with rfl|rfl<;>rcases hb with rfl|rfl<;>rcases hc with rfl|rfl<;>decide
def xorK (B:List Int) (l:List Nat):Nat→Nat
 |0=>0
 |k+1=>xorK B l k ^^^ (B.getD (l.getD k 0-1) 0-48).toNat
theorem Zabp {B:List Int} (h:∀x∈B,Za7 x) {l:List Nat} (hl:∀x∈l,1≤x∧x≤B.length):∀k,k≤l.length→xorK B l k≤1
 |0,_=>Nat.zero_le _
 |k+1,hk=>by
  have ih:=Zabp h hl k (by omega)
  have hm:=hl (l.getD k 0) (by rw[List.getD_eq_getElem?_getD,List.getElem?_eq_getElem (by omega),Option.getD_some];exact List.getElem_mem _)
  have hb:=Zih h (i:=l.getD k 0-1) (by omega)
  rw[xorK]
  have h1:(B.getD (l.getD k 0-1) 0-48).toNat<2:=by rcases hb with h|h<;>rw[h]<;>decide
  have:=Nat.xor_lt_two_pow (n:=1) (show xorK B l k<2^1 by omega) (show _<2^1 from h1)
  omega
theorem chk_1 {a b c d:Int} (ha:Za7 a) (hb:Za7 b) (hc:Za7 c) (hd:Za7 d):xorK [48,48,a,48,b,c,d] [3,5,7] 3=parN a b d:=by
 rcases ha with rfl|rfl<;>rcases hb with rfl|rfl<;>rcases hc with rfl|rfl<;>rcases hd with rfl|rfl<;>rfl
theorem chk_2 {a b c d:Int} (ha:Za7 a) (hb:Za7 b) (hc:Za7 c) (hd:Za7 d):xorK [48,48,a,48,b,c,d] [3,6,7] 3=parN a c d:=by
 rcases ha with rfl|rfl<;>rcases hb with rfl|rfl<;>rcases hc with rfl|rfl<;>rcases hd with rfl|rfl<;>rfl
theorem chk_3 {a b c d:Int} (ha:Za7 a) (hb:Za7 b) (hc:Za7 c) (hd:Za7 d):xorK [48,48,a,48,b,c,d] [5,6,7] 3=parN b c d:=by
 rcases ha with rfl|rfl<;>rcases hb with rfl|rfl<;>rcases hc with rfl|rfl<;>rcases hd with rfl|rfl<;>rfl
theorem Zad7 {X:ByteArray} {a b c d:Int} (h:Zab X=[a,b,c,d]):(⟨#[48,48]⟩:ByteArray)++X.extract 0 1++⟨#[48]⟩++X.extract 1 X.size=text [48,48,a,48,b,c,d]:=by
 have hz:X.size=4:=by rw[←Zac,h];rfl
 rw[←Zc6 (_++_++_++_),Zhc,Zhc,Zhc,Ze4,Ze4,h,hz];rfl
theorem Zaic {X:ByteArray} {a b c d:Int} (h:Zab X=[a,b,c,d]):text [parB a b d]++text [parB a c d]++X.extract 0 1++text [parB b c d]++X.extract 1 X.size=text (encL a b c d):=by
 have hz:X.size=4:=by rw[←Zac,h];rfl
 rw[←Zc6 (X.extract 0 1),←Zc6 (X.extract 1 X.size),Ze3,Ze3,Ze3,Ze3,Ze4,Ze4,h,hz];rfl
theorem Z67 {s:ByteArray} {P Q:Nat} (hQ:Q=P+4) (h:Q≤s.size):Zab (s.extract P Q)=[(Zab s).getD P 0,(Zab s).getD (P+1) 0,(Zab s).getD (P+2) 0,(Zab s).getD (P+3) 0]:=by
 subst hQ
 have hl:(Zab s).length=s.size:=Zac s
 rw[Ze4,Nat.add_sub_cancel_left]
 apply List.ext_getElem
 ·rw[List.length_take,List.length_drop,hl];simp only[List.length_cons,List.length_nil];omega
 ·intro i h1 h2
  have h4:i<4:=h2
  rw[List.getElem_take,List.getElem_drop]
  have e:∀j,(h:P+j<s.size)→(Zab s).getD (P+j) 0=(Zab s)[P+j]'(by rw[hl];exact h):=fun j h=>by
   rw[List.getD_eq_getElem?_getD,List.getElem?_eq_getElem (by rw[hl];exact h),Option.getD_some]
  match i,h4 with
  |0,_=>exact(e 0 (by omega)).symm
  |1,_=>exact(e 1 (by omega)).symm
  |2,_=>exact(e 2 (by omega)).symm
  |3,_=>exact(e 3 (by omega)).symm
def wvL (s:ByteArray) (R C:Nat):List Int:=(List.range s.size).map fun i=>(Zab s).getD (deiI R C i) 0
theorem Zld (s:ByteArray) (R C:Nat):(wvL s R C).length=s.size:=by simp[wvL]
theorem Zzp {s:ByteArray} {R C i:Nat} (h:i<(wvL s R C).length):(wvL s R C)[i]=(Zab s).getD (deiI R C i) 0:=by simp[wvL]
def wvT (s:ByteArray) (R:Nat):ByteArray:=text (wvL s R (s.size/R))
theorem Zhu (s:ByteArray) (R:Nat):(wvT s R).size=s.size:=by unfold wvT;rw[Zaq,Zld]
theorem Zair (s:ByteArray) (R C:Nat):∀x∈wvL s R C,0≤x∧x<256:=by
 intro x hx
 obtain⟨i,_,rfl⟩:=List.mem_map.1 hx
 rw[List.getD_eq_getElem?_getD]
 cases h:(Zab s)[deiI R C i]? with
 |none=>simp
 |some v=>
  have hm:=List.mem_of_getElem? h
  unfold Zab at hm
  obtain⟨b,_,rfl⟩:=List.mem_map.1 hm
  have:=b.toNat_lt
  exact⟨by simp,by simp;omega⟩
def padN (L n:Nat):Nat:=(n-L%n)%n
def padT (s:ByteArray) (n:Nat):ByteArray:=s++Zg6 48 (padN s.size n)
theorem Zve {L n:Nat} (h:0<n):padN L n<n:=Nat.mod_lt _ h
theorem Zai9 {L n:Nat} (h:0<n):(L+padN L n)%n=0:=by
 unfold padN
 have h1:=Nat.mod_lt L h
 rw[Nat.add_mod,Nat.mod_mod,←Nat.add_mod]
 conv=>lhs;rw[←Nat.mod_add_div L n]
 rw[show L%n+n*(L/n)+(n-(L%n+n*(L/n))%n)=n*(L/n)+(L%n+(n-(L%n+n*(L/n))%n))by omega,Nat.add_mul_mod_self_left,Nat.mod_mod,Nat.add_sub_cancel' (Nat.le_of_lt h1),Nat.mul_add_mod,Nat.mod_self]
theorem Z20 (s:ByteArray) (n:Nat):(padT s n).size=s.size+padN s.size n:=by unfold padT;rw[Zap,Zh6]
def prR (p:ByteArray) (n s t x:Int):Option ByteArray:=if(payB p&&inB n 1 40&&regB s t x)=true then(encR (padT (Zas p) (4*n.toNat))).bind fun b=>scrR (wvT b n.toNat) s t x else none
theorem Zud {p:ByteArray} {n s t x:Int} (h:payB p=false):prR p n s t x=none:=by unfold prR;rw[h];rfl
theorem Zv9 {p:ByteArray} {n s t x:Int} (h:inB n 1 40=false):prR p n s t x=none:=by unfold prR;rw[h,Bool.and_false];rfl
theorem Zv5 {p:ByteArray} {n s t x:Int} (h:regB s t x=false):prR p n s t x=none:=by unfold prR;rw[h,Bool.and_false];rfl
theorem Zaj0 {p:ByteArray} {n s t x:Int} (h1:payB p=true) (h2:inB n 1 40=true) (h3:regB s t x=true):prR p n s t x=(encR (padT (Zas p) (4*n.toNat))).bind fun b=>scrR (wvT b n.toNat) s t x:=by
 unfold prR;rw[h1,h2,h3];rfl
theorem Zvr {L n:Nat} (h:0<n):(-(L:Int))%(n:Int)=((padN L n:Nat):Int):=by
 have h1:=Nat.mod_lt L h
 have h2:=Nat.mod_add_div L n
 have e: -(L:Int)=((n-L%n:Nat):Int)+(n:Int)*(-((L/n:Nat):Int)-1):=by
  have h3:(L:Int)=((L%n:Nat):Int)+(n:Int)*((L/n:Nat):Int):=by
   rw[←Int.natCast_mul,←Int.natCast_add,h2]
  rw[Int.mul_sub,Int.mul_neg,Int.mul_one]
  omega
 rw[e,Int.add_mul_emod_self_left];rfl
theorem Z8c (n:Nat):allS bitC (Zg6 48 n)=true:=Zjf fun _ hx=>Or.inl (List.eq_of_mem_replicate hx)
theorem Ztw:∀c,Lib.repeatL [48] c=List.replicate c (48:UInt8)
 |0=>rfl
 |c+1=>by rw[Lib.repeatL,Ztw c];rfl
theorem Zaff (c:Nat):(⟨(Lib.repeatL (⟨#[48]⟩:ByteArray).data.toList c).toArray⟩:ByteArray)=Zg6 48 c:=by
 apply Zsj
 show(Lib.repeatL [48] c).toArray.toList=_
 rw[Ztw,Zg6,text]
 simp
structure Prot (p:ByteArray) (N:Nat):Prop where
 bits:Zan (padT (Zas p) (4*N))=true
 le:(padT (Zas p) (4*N)).size≤283
 enc:encR (padT (Zas p) (4*N))=some (encT (padT (Zas p) (4*N)))
 out:Zan (encT (padT (Zas p) (4*N)))=true
 rows:(encT (padT (Zas p) (4*N))).size%(7*N)=0
 pos:0<(encT (padT (Zas p) (4*N))).size
 top:(encT (padT (Zas p) (4*N))).size≤600
 mod:(padT (Zas p) (4*N)).size%4=0
theorem Zo6 {p:ByteArray} {N:Nat} (h1:payB p=true) (hN1:1≤N) (hN4:N≤40):Prot p N:=by
 have hz:=Zcp p
 have hp:=(Zn1 h1).1
 have h0:0<4*N:=by omega
 have hpz:=Z20 (Zas p) (4*N)
 have hlt:=Zve (L:=(Zas p).size) h0
 have hdv:(padT (Zas p) (4*N)).size%(4*N)=0:=by rw[hpz];exact Zai9 h0
 have hA:allS bitC (padT (Zas p) (4*N))=true:=by unfold padT;rw[Zls,Zsx h1,Z8c];rfl
 generalize hZ:padT (Zas p) (4*N)=Z at*
 obtain⟨q,hq⟩:=Nat.dvd_of_mod_eq_zero hdv
 have hle:Z.size≤283:=by omega
 have hB:=Zd9 (show Z.size≤600 by omega) hA
 have hq4:Z.size=4*(N*q):=by rw[hq,Nat.mul_assoc]
 have hs:=Zms Z
 have hd:Z.size/4=N*q:=by omega
 have h4:Z.size%4=0:=by omega
 have h3:Z.size/4*7≤600:=by omega
 refine⟨by rw[hZ];exact hB,by rw[hZ];exact hle,by rw[hZ];exact Zvx hB h4 h3,by rw[hZ];exact Zd9 (by omega) (Z1j hA),?_,by rw[hZ];omega,by rw[hZ];omega,by rw[hZ];exact h4⟩
 rw[hZ,hs,hd,←Nat.mul_assoc,Nat.mul_mod_right]
theorem Z3c {a b c:Nat} (h:a%(b*c)=0):a%c=0:=by
 obtain⟨q,rfl⟩:=Nat.dvd_of_mod_eq_zero h
 rw[Nat.mul_assoc,Nat.mul_left_comm,Nat.mul_mod_right]
theorem Zo3 {p:ByteArray} {N:Nat} {s t x:Int} (h1:payB p=true) (h2:inB N 1 40=true) (h3:regB s t x=true) (h:Prot p N):scrR (wvT (encT (padT (Zas p) (4*N))) N) s t x=prR p N s t x:=by
 rw[Zaj0 h1 h2 h3,show(N:Int).toNat=N from rfl,h.enc];rfl
end Go.Proofs.YtcjihfongfefoaaGreatDoor
