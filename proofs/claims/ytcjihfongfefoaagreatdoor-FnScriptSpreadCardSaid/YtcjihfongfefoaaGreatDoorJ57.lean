/- Zm -/
import Derived.Test.YtcjihfongfefoaaGreatDoorJ21
import Derived.Test.YtcjihfongfefoaaGreatDoorJ28
import Derived.Test.YtcjihfongfefoaaGreatDoorJ50
import Derived.Test.YtcjihfongfefoaaGreatDoorShlf
namespace Go.Proofs.YtcjihfongfefoaaGreatDoor
open Go.RowKit
set_option maxHeartbeats 25600000
set_option maxRecDepth 100000
theorem Zq2 (s:ByteArray) (n:Nat) (w:World) (hn:n≤1000) (hs:s.size≤1000) (hz:s.size*n≤1000):Calls Tryz.prog 88 #[.string s,.int .i64 n] w fun e w'=>(∃r:ByteArray,e= .returned (.string r)∧r.size≤s.size*n)∧w=w':=by
 obtain⟨B,hB⟩:∃B,s.size*n=B:=⟨_,rfl⟩
 rw[hB]at hz ⊢
 go_enter Tryz.func88,Tryz.ntmps88
 go_wp2_with fail
 go_loop [0,1,5] (fun s i o=>∃(k:Nat) (S O:ByteArray),i= .int .i64 k∧s= .string S∧o= .string O∧k≤1000∧O.size+S.size*k≤B∧S.size≤2000) (fun _ i _=>(intOf i).toNat)
 case atStart=>exact⟨n,s,⟨#[]⟩,rfl,rfl,rfl,hn,by show 0+s.size*n≤B;omega,by omega⟩
 case round=>
  clear hs hn hB
  obtain⟨k,S,O,rfl,rfl,rfl,hk,hsz,hS⟩:=hrel
  have hO:O.size≤B:=by omega
  by_cases hk0:0<k
  ·have hS2:S.size≤1000:=by
    have:=Nat.le_mul_of_pos_right S.size hk0;omega
   obtain⟨j,rfl|rfl⟩:∃j,k=2*j∨k=2*j+1:=⟨k/2,by omega⟩
   ·have e1:((2*j:Nat):Int).tmod 2=0:=(show((2*j:Nat):Int).tmod 2=(((2*j)%2:Nat):Int)from rfl).trans (by omega)
    have e2:((2*j:Nat):Int).tdiv 2=(j:Nat):=(show((2*j:Nat):Int).tdiv 2=(((2*j)/2:Nat):Int)from rfl).trans (by omega)
    have e3:S.size*(2*j)=2*(S.size*j):=by rw[Nat.mul_left_comm]
    go_wp2
    go_round
    case rel=>exact⟨j,S++S,O,by go_num,rfl,rfl,by omega,by rw[ByteArray.size_append,Nat.add_mul];omega,by rw[ByteArray.size_append];omega⟩
    case measure=>simp[intOf];omega
   ·have e1:((2*j+1:Nat):Int).tmod 2=1:=(show((2*j+1:Nat):Int).tmod 2=(((2*j+1)%2:Nat):Int)from rfl).trans (by omega)
    have e2:((2*j+1:Nat):Int).tdiv 2=(j:Nat):=(show((2*j+1:Nat):Int).tdiv 2=(((2*j+1)/2:Nat):Int)from rfl).trans (by omega)
    have e3:S.size*(2*j+1)=2*(S.size*j)+S.size:=by rw[Nat.mul_add,Nat.mul_left_comm,Nat.mul_one]
    go_wp2
    go_round
    case rel=>exact⟨j,S++S,O++S,by go_num,rfl,rfl,by omega,by rw[ByteArray.size_append,ByteArray.size_append,Nat.add_mul];omega,by rw[ByteArray.size_append];omega⟩
    case measure=>simp[intOf];omega
  ·obtain rfl:k=0:=by omega
   go_wp2
   go_ret
   exact⟨⟨O,rfl,hO⟩,rfl⟩
theorem Zt5 {w:World} {g p:Nat} (s:ByteArray) (h:Rdr w g p) (hp:p≤1073740000) (hs:s.size≤1000):Calls Tryz.prog 104 #[.pointer (some ⟨g,0,none⟩),.string s] w (Zaa4 w g p 3 1001):=by
 have hgl:=h.lt
 go_enter Tryz.func104,Tryz.ntmps104
 go_wp2_with fail
 refine(Zbm _ h (by omega)).mono ?_;rintro e w1 ⟨u,rfl,u0,u1,hr1,hg1⟩
 clear h u1
 by_cases hu0:(u==0)=true
 ·go_wp2_with fail
  refine(Zg7 [⟨#[50]⟩,⟨#[120]⟩,⟨#[32]⟩] hr1 (by omega) rfl rfl (by decide) (by decide)).mono ?_;rintro e w2 ⟨x,rfl,hx,hr2,hg2⟩
  have hgA:=(Zaj hg1 ((Below.refl _ _).alloc (Nat.le_refl w1.heap.size) _)).trans hg2
  have hx1:x.size=1:=by
   simp only[List.mem_cons,List.not_mem_nil,or_false]at hx
   rcases hx with rfl|rfl|rfl<;>rfl
  have hsx:(s++x).size=s.size+x.size:=Zap _ _
  clear hx hr1 hg1 hg2
  go_wp2_with fail
  go_ret
  exact⟨s++x,_,rfl,by omega,by omega,by omega,hr2,hgA⟩
 ·have hu0':(u==0)=false:=by simpa using hu0
  clear hu0
  by_cases hu1:(u==1)=true
  ·go_wp2_with fail
   go_ret
   exact⟨⟨#[]⟩,_,rfl,Nat.zero_le _,by omega,by omega,hr1,hg1⟩
  ·have hu1':(u==1)=false:=by simpa using hu1
   clear hu1
   by_cases hu2:(u==2)=true
   ·go_wp2_with fail
    refine(Ze6 [255,256] hr1 (by omega) rfl rfl (by decide) (by decide)).mono ?_;rintro e w2 ⟨x,rfl,hx,hr2,hg2⟩
    have hgA:=(Zaj hg1 ((Below.refl _ _).alloc (Nat.le_refl w1.heap.size) _)).trans hg2
    have hxb:255≤x∧x≤256:=by
     simp only[List.mem_cons,List.not_mem_nil,or_false]at hx
     omega
    obtain⟨X,rfl⟩:=Int.eq_ofNat_of_zero_le (show 0≤x by omega)
    clear hx hr1 hg1 hg2
    go_wp2_with fail
    refine(Zq2 ⟨#[49]⟩ X _ (by omega) (by decide) (by show 1*X≤1000;omega)).mono ?_;rintro e w3 ⟨⟨r,rfl,hr0⟩,rfl⟩
    have hr:r.size≤1*X:=hr0
    clear hr0
    go_wp2_with fail
    go_ret
    exact⟨r,_,rfl,by omega,by omega,by omega,hr2,hgA⟩
   ·have hu2':(u==2)=false:=by simpa using hu2
    clear hu2
    go_wp2_with fail
    go_ret
    exact⟨s,_,rfl,by omega,by omega,by omega,hr1,hg1⟩
theorem Zakd {s:Int} {t:Int} (h:t∈mxtR s):1≤t∧t<2^s.toNat:=by
 unfold mxtR at h
 split at h
 ·unfold mxtL at h
  obtain⟨_,h2⟩:=List.mem_filter.1 h
  have hi:inB s 2 8=true:=by assumption
  have hs0:=inB_iff.1 hi
  obtain⟨S,rfl⟩:=Int.eq_ofNat_of_zero_le (show 0≤s by omega)
  unfold maxB at h2
  rw[Bool.and_eq_true]at h2
  obtain⟨S',hS',_,h3⟩:=Zt0 h2.1
  obtain rfl:S=S':=by have:((S:Int).toNat:Int)=(S':Int):=hS';omega
  have e:((2^S:Nat):Int)=(2:Int)^S:=by rw[Int.natCast_pow];rfl
  simp only[Int.toNat_natCast]
  omega
 ·cases h
theorem Zafs {s:Int} (h:s=3∨s=4∨s=5∨s=2):0<(mxtR s).length:=by
 have h3:∀s t:Int,inB s 2 8=true→maxB s t=true→1≤t→t≤((2^s.toNat-1:Nat):Int)→0<(mxtR s).length:=by
  intro s t hs hm h1 h2
  have hs0:=inB_iff.1 hs
  have es:((s.toNat:Nat):Int)=s:=by omega
  refine List.length_pos_of_mem (a:=t) ?_
  unfold mxtR mxtL
  rw[if_pos hs]
  refine List.mem_filter.2 ⟨List.mem_map.2 ⟨(t-1).toNat,List.mem_range.2 (by omega),by omega⟩,by rw[es];exact hm⟩
 rcases h with rfl|rfl|rfl|rfl
 ·exact h3 3 3 (by decide) (by decide) (by decide) (by decide)
 ·exact h3 4 3 (by decide) (by decide) (by decide) (by decide)
 ·exact h3 5 5 (by decide) (by decide) (by decide) (by decide)
 ·exact h3 2 3 (by decide) (by decide) (by decide) (by decide)
theorem Zaee {w w':World} {lo g b off n c S0 K:Nat} {l:List Int} (ho:Own w lo (some ⟨b,off,none⟩) n c l) (hg:w.grownBy w' (some g)) (hgl:g<lo)
 (hm:∀t∈l,1≤t∧t<2^((S0:Int)).toNat) (hK:K<n):∃T:Nat,T<2^S0∧w'.cell? ⟨b,off+K,none⟩=some (.int .i64 (T:Int)):=by
 have ho2:Own w' lo (some ⟨b,off,none⟩) n c l:=⟨ho.1,ho.2.1,Zc8 ho.2.2 hg hgl⟩
 obtain⟨b',off',e,hc⟩:=ho2.rd.2.2 K hK
 cases e
 have hl:K<l.length:=by have:=ho.1;omega
 have hmem:l.getD K 0∈l:=by
  have:l.getD K 0=l[K]:=by simp[List.getD,hl]
  rw[this];exact List.getElem_mem hl
 obtain⟨h1,h2⟩:=hm _ hmem
 obtain⟨T,hT⟩:=Int.eq_ofNat_of_zero_le (show 0≤l.getD K 0 by omega)
 rw[hT]at hc h2
 refine⟨T,?_,hc⟩
 have e:((2^S0:Nat):Int)=(2:Int)^S0:=by rw[Int.natCast_pow];rfl
 simp only[Int.toNat_natCast]at h2
 omega
theorem Zago {w:World} {g p:Nat} (h:Rdr w g p) (hp:p≤1073730000):Calls Tryz.prog 177 #[.pointer (some ⟨g,0,none⟩)] w (Zaa4 w g p 60 60):=by
 have hgl:=h.lt
 go_enter Tryz.func177,Tryz.ntmps177
 go_wp2_with fail
 refine(Zbm _ h (by omega)).mono ?_;rintro e w1 ⟨u,rfl,u0,u1,hr1,hg1⟩
 have hz1:=hg1.size
 clear h u1
 by_cases hu0:(u==0)=true
 ·go_wp2_with fail
  refine(Zpp hr1 (by omega)).mono ?_;rintro e w2 ⟨s,t,x,q2,rfl,hv,hq2,hq3,hr2,hg2⟩
  obtain⟨S0,T0,X0,rfl,rfl,rfl,hs8,ht8,hx8⟩:=Zbx hv
  have hbl:Below w2.heap.size w2 (w2.alloc (.cells #[.int .i64 (S0:Int),.int .i64 (T0:Int),.int .i64 (X0:Int)] 46)).drew:=((Below.refl _ _).alloc (Nat.le_refl _) _).drew
  have hBr:=(Box.new w2 #[.int .i64 (S0:Int),.int .i64 (T0:Int),.int .i64 (X0:Int)] 46).below ((Below.refl _ _).drew) (Box.new w2 #[.int .i64 (S0:Int),.int .i64 (T0:Int),.int .i64 (X0:Int)] 46).lt
  have hrD:=hr2.below hbl
  have hgD:=Zaj (hg1.trans hg2) hbl
  have hne:w2.heap.size≠g:=by have:=hr2.lt;omega
  have HT:=Lib.hid ht8;have HX:=Lib.hid hx8
  have c0:=hBr.cell (i:=0) rfl
  have c1:=hBr.cell (i:=1) rfl
  have c2:=hBr.cell (i:=2) rfl
  clear hv hr1 hg1 hr2 hg2 hbl ht8 hx8
  go_wp2_with fail
  go_region_with (first|(go_at_call 45;refine(Zbm _ hrD (by omega)).mono ?_;rintro e w4 ⟨v,rfl,v0,v1,hr4,hg4⟩;obtain⟨M,rfl⟩:=Int.eq_ofNat_of_zero_le v0;have hM:M≤39:=(by omega);obtain⟨M1,kw,hM1⟩:∃M1:Nat,IntKind.i64.wrap (1+(M:Int))=(M1:Int)∧M1≤40:=⟨M+1,(by rw[IntWalk.i64_in _ (by omega)];omega),(by omega)⟩;have hB4:=hBr.gr hg4 hne;have e0:=hB4.cell (i:=0) rfl;have e1:=hB4.cell (i:=1) rfl;have e2:=hB4.cell (i:=2) rfl)|(go_at_call 155;refine(Zlg S0 T0 X0 M1 _ hs8 HT.out.2 HX.out (by omega)).mono ?_;rintro e w5 ⟨rfl,hb5⟩))
  all_goals (go_wp2_with fail;go_ret;exact⟨_,_,rfl,by rw[Zaq,Zdf];omega,by omega,by omega,hr4.below hb5,Zaj (hgD.trans hg4) hb5⟩)
 ·have hu0':(u==0)=false:=by simpa using hu0
  clear hu0
  by_cases hu1:(u==1)=true
  ·go_wp2_with fail
   refine(Ze6 [3,4,5,2] hr1 (by omega) rfl rfl (by decide) (by decide)).mono ?_;rintro e w2 ⟨x,rfl,hx,hr2,hg2⟩
   have hgA:=(Zaj hg1 ((Below.refl _ _).alloc (Nat.le_refl w1.heap.size) _)).trans hg2
   have hxs:x=3∨x=4∨x=5∨x=2:=by simpa using hx
   have hlen:=Zafs hxs
   have HMT:=Lib.hid (fun t=>@Zakd x t)
   obtain⟨S0,rfl⟩:=Int.eq_ofNat_of_zero_le (show 0≤x by omega)
   have hS0:2≤S0∧S0≤5:=by omega
   clear hx hr1 hg1 hg2 hxs
   go_wp2_with fail
   refine(Zk4 (S0:Int) _).mono ?_;rintro e w3 ⟨a3,n3,c3,rfl,ho3,hb3⟩
   have hn3:=ho3.1
   have hr3:=hr2.below hb3
   have hgB:=Zaj hgA hb3
   obtain⟨b3,o3,rfl,_⟩:=ho3.rd.at (i:=0) (by omega)
   have hz2:=hr2.lt
   have hrD:=hr3.below ((Below.refl _ _).drew)
   have hoD:=ho3.below ((Below.refl w3.heap.size w3).drew)
   have hgD:=Zaj hgB ((Below.refl _ _).drew)
   obtain⟨P,hP,hP1⟩:∃P:Nat,(2:Int)^((S0:Int)).toNat=(P:Int)∧(1≤P∧P≤32):=by
    obtain rfl|rfl|rfl|rfl:S0=2∨S0=3∨S0=4∨S0=5:=by omega
    ·exact⟨4,by decide,by decide,by decide⟩
    ·exact⟨8,by decide,by decide,by decide⟩
    ·exact⟨16,by decide,by decide,by decide⟩
    ·exact⟨32,by decide,by decide,by decide⟩
   have HTW:=Lib.hid (show ∀c,Calls Tryz.prog 162 #[.int .i64 (S0:Int)] c fun e w'=>e= .returned (.int .i64 (P:Int))∧c=w' from fun c=>by rw[←hP];exact Zdd (S0:Int) c (by omega))
   have HLR:=Lib.hid (show ∀(T M:Nat) c,T<2^S0→M≤40→Calls Tryz.prog 155 #[.agg #[.int .i64 S0,.int .i64 T,.int .i64 1],.int .i64 M] c fun e w'=>e= .returned (.string (text (runL S0 T 1 M)))∧Below c.heap.size c w' from fun T M c h1 h2=>Zlg S0 T 1 M c (by omega) h1 (Nat.one_lt_two_pow (by omega)) (by omega))
   obtain⟨M1,kw,hM1⟩:∃M1:Nat,IntKind.i64.wrap ((P:Int)-1)=(M1:Int)∧M1≤31:=⟨P-1,(by rw[IntWalk.i64_in _ (by omega)];omega),(by omega)⟩
   have HPK:=Lib.hid (fun(w4:World) (K:Nat) (hg:w3.drew.grownBy w4 (some g)) (hK:K<n3)=>Zaee hoD hg hz2 (fun t ht=>HMT.out t ht) hK)
   clear hP hP1 hr2 hgA hb3 ho3 hr3 hgB hoD
   go_wp2_with fail
   go_region_with (first|(go_at_call 45;refine(Zbm _ hrD (by omega)).mono ?_;rintro e w4 ⟨v,rfl,v0,v1,hr4,hg4⟩;obtain⟨K,rfl⟩:=Int.eq_ofNat_of_zero_le v0;have hK:K<n3:=(by omega);have hK':(K:Int)<(n3:Int):=(by omega);obtain⟨T,hT,hTc⟩:=HPK.out w4 K hg4 hK;have HT:=Lib.hid hT;clear hT)|(go_at_call 162;refine(HTW.out _).mono ?_;rintro e w5 ⟨rfl,rfl⟩)|(go_at_call 155;refine(HLR.out T M1 _ HT.out (by omega)).mono ?_;rintro e w5 ⟨rfl,hb5⟩))
   all_goals (go_wp2_with fail;go_ret;exact⟨_,_,rfl,by rw[Zaq,Zdf];omega,by omega,by omega,hr4.below hb5,Zaj (hgD.trans hg4) hb5⟩)
  ·have hu1':(u==1)=false:=by simpa using hu1
   clear hu1
   by_cases hu2:(u==2)=true
   ·go_wp2_with fail
    refine(Zns 5 hr1 (by omega) (by omega)).mono ?_;rintro e w2 ⟨v,q2,rfl,hv,hq2,hq3,hr2,hg2⟩
    have hgA:=hg1.trans hg2
    have hsx:(v++⟨#[49]⟩:ByteArray).size=v.size+1:=Zap _ _
    clear hr1 hg1 hg2
    go_wp2_with fail
    refine(Zbm _ hr2 (by omega)).mono ?_;rintro e w3 ⟨y,rfl,y0,y1,hr3,hg3⟩
    have hgB:=hgA.trans hg3
    obtain⟨M,rfl⟩:=Int.eq_ofNat_of_zero_le y0
    have hM:M≤3:=by omega
    obtain⟨M1,kw,hM1⟩:∃M1:Nat,IntKind.i64.wrap (1+(M:Int))=(M1:Int)∧M1≤4:=⟨M+1,(by rw[IntWalk.i64_in _ (by omega)];omega),(by omega)⟩
    have hmul:(v++⟨#[49]⟩:ByteArray).size*M1≤24:=by
     have:(v++⟨#[49]⟩:ByteArray).size*M1≤6*4:=Nat.mul_le_mul (by omega) (by omega)
     omega
    clear hr2 hgA hg3
    go_wp2_with fail
    refine(Zq2 _ M1 _ (by omega) (by omega) (by omega)).mono ?_;rintro e w4 ⟨⟨r,rfl,hr⟩,rfl⟩
    go_wp2_with fail
    go_ret
    exact⟨r,_,rfl,by omega,by omega,by omega,hr3,hgB⟩
   ·have hu2':(u==2)=false:=by simpa using hu2
    clear hu2
    go_wp2_with fail
    refine(Zie 24 hr1 (by omega) (by omega)).mono ?_;rintro e w2 ⟨v,q2,rfl,hv,_,hq2,hq3,hr2,hg2⟩
    have hgA:=hg1.trans hg2
    have hsx:(v++⟨#[48]⟩:ByteArray).size=v.size+1:=Zap _ _
    clear hr1 hg1 hg2
    go_wp2_with fail
    go_ret
    exact⟨_,_,rfl,by omega,by omega,by omega,hr2,hgA⟩
theorem Zagd {w:World} {g p:Nat} (h:Rdr w g p) (hp:p≤1073720000):Calls Tryz.prog 103 #[.pointer (some ⟨g,0,none⟩)] w (Zaa4 w g p 70 300):=by
 have hgl:=h.lt
 go_enter Tryz.func103,Tryz.ntmps103
 go_wp2_with fail
 refine(Zbm _ h (by omega)).mono ?_;rintro e w1 ⟨u,rfl,u0,u1,hr1,hg1⟩
 have hz1:=hg1.size
 clear h u1
 by_cases hu0:(u==0)=true
 ·go_wp2_with fail
  refine(Zbm _ hr1 (by omega)).mono ?_;rintro e w2 ⟨v,rfl,v0,v1,hr2,hg2⟩
  have hgA:=hg1.trans hg2
  obtain⟨K,rfl⟩:=Int.eq_ofNat_of_zero_le v0
  have hK:K≤3:=by omega
  have HW:=Lib.hid (show ∀c,Calls Tryz.prog 175 #[.int .i64 K,.int .i64 0] c fun e w'=>e= .returned (.string (text (walL 0 (2^K))))∧Below c.heap.size c w' from fun c=>Zry K 0 c (by omega) (Nat.pow_pos (by omega)))
  have hz:(text (walL 0 (2^K))).size≤300:=by
   rw[Zaq]
   obtain rfl|rfl|rfl|rfl:K=0∨K=1∨K=2∨K=3:=by omega
   all_goals decide
  clear hr1 hg1 hg2
  go_wp2_with fail
  refine(HW.out _).mono ?_;rintro e w3 ⟨rfl,hb3⟩
  go_wp2_with fail
  go_ret
  exact⟨_,_,rfl,hz,by omega,by omega,hr2.below hb3,Zaj hgA hb3⟩
 ·have hu0':(u==0)=false:=by simpa using hu0
  clear hu0
  by_cases hu1:(u==1)=true
  ·go_wp2_with fail
   refine(Zbm _ hr1 (by omega)).mono ?_;rintro e w2 ⟨v,rfl,v0,v1,hr2,hg2⟩
   have hgA:=hg1.trans hg2
   obtain⟨K,rfl⟩:=Int.eq_ofNat_of_zero_le v0
   have hK:K≤7:=by omega
   have HW:=Lib.hid (show ∀c,Calls Tryz.prog 175 #[.int .i64 3,.int .i64 K] c fun e w'=>e= .returned (.string (text (walL K (2^3))))∧Below c.heap.size c w' from fun c=>Zry 3 K c (by omega) (by show K<8;omega))
   have hz:(text (walL K (2^3))).size≤300:=by
    rw[Zaq]
    obtain rfl|rfl|rfl|rfl|rfl|rfl|rfl|rfl:K=0∨K=1∨K=2∨K=3∨K=4∨K=5∨K=6∨K=7:=by omega
    all_goals decide
   clear hr1 hg1 hg2
   go_wp2_with fail
   refine(HW.out _).mono ?_;rintro e w3 ⟨rfl,hb3⟩
   go_wp2_with fail
   go_ret
   exact⟨_,_,rfl,hz,by omega,by omega,hr2.below hb3,Zaj hgA hb3⟩
  ·have hu1':(u==1)=false:=by simpa using hu1
   clear hu1
   by_cases hu2:(u==2)=true
   ·go_wp2_with fail
    refine(Zbm _ hr1 (by omega)).mono ?_;rintro e w2 ⟨v,rfl,v0,v1,hr2,hg2⟩
    have hgA:=hg1.trans hg2
    obtain⟨k,kw,hk⟩:∃k:Int,IntKind.i64.wrap (v-2)=k∧(-2≤k∧k≤6):=⟨v-2,IntWalk.i64_in _ (by omega),by omega⟩
    have HG:=Lib.hid (show ∀c,Calls Tryz.prog 176 #[.int .i64 3,.int .i64 3,.int .i64 5,.int .i64 k] c fun e w'=>e= .returned (.string (gldT 3 3 5 k))∧Below c.heap.size c w' from fun c=>Z3e 3 3 5 k c (by omega) (by decide) (by decide) (by show -2≤k∧k≤8-2;omega))
    have hz:(gldT 3 3 5 k).size≤300:=by
     obtain rfl|rfl|rfl|rfl|rfl|rfl|rfl|rfl|rfl:k= -2∨k= -1∨k=0∨k=1∨k=2∨k=3∨k=4∨k=5∨k=6:=by omega
     all_goals decide+kernel
    clear hr1 hg1 hg2 v0 v1
    go_wp2_with fail
    refine(HG.out _).mono ?_;rintro e w3 ⟨rfl,hb3⟩
    go_wp2_with fail
    go_ret
    exact⟨_,_,rfl,hz,by omega,by omega,hr2.below hb3,Zaj hgA hb3⟩
   ·have hu2':(u==2)=false:=by simpa using hu2
    clear hu2
    go_wp2_with fail
    refine(Zago hr1 (by omega)).mono ?_;rintro e w2 ⟨v,q2,rfl,hv,hq2,hq3,hr2,hg2⟩
    go_wp2_with fail
    go_ret
    exact⟨v,_,rfl,by omega,by omega,by omega,hr2,hg1.trans hg2⟩
theorem Z7a {w:World} {ao:Option Addr} {n c:Nat} (h:Zzb w ao n c):Calls Tryz.prog 37 #[.slice ao n c] w (fun e w'=>∃d k:ByteArray,e= .returned (.tuple #[.string d,.string k])∧d.size≤1001∧k.size≤1001∧Below w.heap.size w w'):=by
 obtain⟨lb,hR,hcap,hby⟩:=h
 go_enter Tryz.func37,Tryz.ntmps37
 go_wp2_with fail
 refine(Zkd hR hcap hby).mono ?_;rintro e w1 ⟨rfl,hr1,hb1⟩
 have hz1:=hb1.size
 have hgl:=hr1.lt
 clear hR hby
 go_wp2_with fail
 refine(Zns 10 hr1 (by omega) (by omega)).mono ?_;rintro e w2 ⟨d,q2,rfl,hd,hq2,hq3,hr2,hg2⟩
 have hb2:=hb1.trans (Zah hg2 (Nat.le_refl _) hz1)
 clear hr1 hb1 hg2
 go_wp2_with fail
 refine(Zagd hr2 (by omega)).mono ?_;rintro e w3 ⟨k,q3,rfl,hk,hq4,hq5,hr3,hg3⟩
 have hb3:=hb2.trans (Zah hg3 (Nat.le_refl _) hb2.size)
 clear hr2 hb2 hg3
 go_wp2_with fail
 refine(Zbm _ hr3 (by omega)).mono ?_;rintro e w4 ⟨u,rfl,u0,u1,hr4,hg4⟩
 have hb4:=hb3.trans (Zah hg4 (Nat.le_refl _) hb3.size)
 clear hr3 hb3 hg4 u1
 by_cases hu:(u==0)=true
 ·go_wp2_with fail
  refine(Ze6 [300,301,50] hr4 (by omega) rfl rfl (by decide) (by decide)).mono ?_;rintro e w5 ⟨x,rfl,hx,hr5,hg5⟩
  have hb5:=(hb4.alloc hb4.size (.cells #[.int .i64 300,.int .i64 301,.int .i64 50] 3)).trans (Zah hg5 (Nat.le_refl _) (hb4.alloc hb4.size _).size)
  have hxs:50≤x∧x≤301:=by simp only[List.mem_cons,List.not_mem_nil,or_false]at hx;omega
  obtain⟨X,rfl⟩:=Int.eq_ofNat_of_zero_le (show 0≤x by omega)
  clear hx hr4 hb4 hg5
  go_wp2_with fail
  refine(Zq2 ⟨#[48,49]⟩ X _ (by omega) (by decide) (by show 2*X≤1000;omega)).mono ?_;rintro e w6 ⟨⟨r,rfl,hr0⟩,rfl⟩
  have hrz:r.size≤2*X:=hr0
  clear hr0
  go_wp2_with fail
  refine(Zt5 r hr5 (by omega) (by omega)).mono ?_;rintro e w6 ⟨a,q6,rfl,ha,hq6,hq7,hr6,hg6⟩
  have hb6:=hb5.trans (Zah hg6 (Nat.le_refl _) hb5.size)
  clear hr5 hb5 hg6
  go_wp2_with fail
  refine(Zt5 k hr6 (by omega) (by omega)).mono ?_;rintro e w7 ⟨b,q7,rfl,hb,hq8,hq9,hr7,hg7⟩
  have hb7:=hb6.trans (Zah hg7 (Nat.le_refl _) hb6.size)
  go_wp2_with fail
  go_ret2
  exact⟨a,b,rfl,ha,hb,hb7⟩
 ·have hu':(u==0)=false:=by simpa using hu
  clear hu
  go_wp2_with fail
  refine(Zt5 d hr4 (by omega) (by omega)).mono ?_;rintro e w6 ⟨a,q6,rfl,ha,hq6,hq7,hr6,hg6⟩
  have hb6:=hb4.trans (Zah hg6 (Nat.le_refl _) hb4.size)
  clear hr4 hb4 hg6
  go_wp2_with fail
  refine(Zt5 k hr6 (by omega) (by omega)).mono ?_;rintro e w7 ⟨b,q7,rfl,hb,hq8,hq9,hr7,hg7⟩
  have hb7:=hb6.trans (Zah hg7 (Nat.le_refl _) hb6.size)
  go_wp2_with fail
  go_ret2
  exact⟨a,b,rfl,ha,hb,hb7⟩
end Go.Proofs.YtcjihfongfefoaaGreatDoor
