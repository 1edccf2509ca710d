/- Ym -/
import Derived.Test.YtcjihfongfefoaaGreatDoorJ35
import Derived.Test.YtcjihfongfefoaaGreatDoorJ36
import Derived.Test.YtcjihfongfefoaaGreatDoorShlf
namespace Go.Proofs.YtcjihfongfefoaaGreatDoor
open Go.RowKit
set_option maxHeartbeats 25600000
set_option maxRecDepth 100000
def Bld (w:World) (B bb:Nat) (s:ByteArray):Prop:=Lib.IsBuilderF 85 5 B bb (Lib.strCells s) w
theorem Z23 {w w':World} {B bb:Nat} {p:Value} {bs:List Value} {row:Option Nat} (h:Lib.BuilderAtF 85 5 B bb p bs w) (hg:w.grownBy w' row) (h1:some bb≠row) (h2:∀v,w.ownsRowF B 5 1 v bs.length bs→v.ownBlock=none∨v.ownBlock≠row):Lib.BuilderAtF 85 5 B bb p bs w':=by
 obtain⟨hB,v,hb,hown,hne⟩:=h
 exact⟨hB,v,by rw[hg.block bb (lt_of_block hb) h1];exact hb,hown.kept hg (h2 v hown),hne⟩
theorem Bld.below {w w':World} {B bb:Nat} {s:ByteArray} (h:Bld w B bb s) (hb:Below w.heap.size w w'):Bld w' B bb s:=by
 have hg:=Zad hb none
 have h2:∀v,w.ownsRowF B 5 1 v (Lib.strCells s).length (Lib.strCells s)→v.ownBlock=none∨v.ownBlock≠none:=fun v _=>by
  cases v.ownBlock with
  |none=>exact .inl rfl
  |some k=>exact .inr (by simp)
 rcases h with h|h
 ·exact .inl (Z23 h hg (by simp) h2)
 ·exact .inr (Z23 h hg (by simp) h2)
theorem Bld.gr {w w':World} {B bb b:Nat} {s:ByteArray} {cs:Array Value} (h:Bld w B bb s) (hg:w.grownBy w' (some b)) (hx:Box w b cs 87) (hne:bb≠b):Bld w' B bb s:=by
 have h1:some bb≠some b:=by simpa using hne
 have h2:∀v,w.ownsRowF B 5 1 v (Lib.strCells s).length (Lib.strCells s)→v.ownBlock=none∨v.ownBlock≠some b:=fun v hv=>.inr (Lib.ownBlock_neF hv hx (by decide))
 rcases h with h|h
 ·exact .inl (Z23 h hg h1 h2)
 ·exact .inr (Z23 h hg h1 h2)
theorem Zais (w:World):Bld (w.alloc (.cells #[.pointer none,.slice none 0 0] 85)) w.heap.size w.heap.size ⟨#[]⟩:=
 .inl ⟨Nat.le_refl _,.slice none 0 0,heap_alloc_new w _,World.ownsRowF_nil _ _ _ _,by simp[Value.ownBlock]⟩
theorem Bld.box {w:World} {B bb:Nat} {s:ByteArray} (h:Bld w B bb s):∃cs,Box w bb cs 85:=by
 rcases h with ⟨_,v,hb,_⟩|⟨_,v,hb,_⟩
 ·exact⟨_,hb⟩
 ·exact⟨_,hb⟩
theorem Z4k {w w':World} {bb b:Nat} {cs:Array Value} {t:TypeId} (h:Box w b cs t) (hk:Lib.OthersKept 5 (some bb) w w') (hne:b≠bb) (ht:t≠5):Box w' b cs t:=
 hk b _ h (by simpa using hne) (fun c fz e=>ht (by cases e;rfl))
theorem Zaav {w w':World} {bb:Nat} {ao:Option Addr} {t:TypeId} {cs0:Array Value} {t0:TypeId} (h:Tg w ao t) (hk:Lib.OthersKept 5 (some bb) w w') (hx:Box w bb cs0 t0) (hne:t≠t0) (ht:t≠5):∀a,ao=some a→w'.heap[a.block]?=w.heap[a.block]?:=fun a e=>by
 obtain⟨cs,fr,hb⟩:=h a e
 rw[hb]
 exact hk a.block _ hb (by simpa using h.ne hx hne a e) (fun c fz e=>ht (by cases e;rfl))
theorem Zabb {w w':World} {ao:Option Addr} {t:TypeId} (h:Tg w ao t) (hs:∀a,ao=some a→w'.heap[a.block]?=w.heap[a.block]?):Tg w' ao t:=fun a e=>by
 obtain⟨cs,fr,hb⟩:=h a e
 exact⟨cs,fr,by rw[hs a e];exact hb⟩
theorem Zzj {w w':World} {b:Nat} (h:w'.heap[b]?=w.heap[b]?) (j:Nat):w'.cell? ⟨b,j,none⟩=w.cell? ⟨b,j,none⟩:=by
 unfold World.cell?
 rw[h]
theorem Zaea {w w':World} {ao:Option Addr} {n:Nat} {l:List Stn} (h:RdS w ao n l) (hs:∀a,ao=some a→w'.heap[a.block]?=w.heap[a.block]?):RdS w' ao n l:=by
 refine⟨h.1,h.2.1,fun i hi=>?_⟩
 obtain⟨b,off,h1,c0,c1,c2,c3⟩:=h.2.2 i hi
 have hb:w'.heap[b]?=w.heap[b]?:=hs _ h1
 have hc:∀j,w'.cell? ⟨b,j,none⟩=w.cell? ⟨b,j,none⟩:=fun j=>Zzj hb j
 exact⟨b,off,h1,(hc _).trans c0,(hc _).trans c1,(hc _).trans c2,(hc _).trans c3⟩
theorem Zaii {w w':World} {ao:Option Addr} {n:Nat} {l:List Int} (h:Rd w ao n l) (hs:∀a,ao=some a→w'.heap[a.block]?=w.heap[a.block]?):Rd w' ao n l:=by
 refine⟨h.1,h.2.1,fun i hi=>?_⟩
 obtain⟨b,off,h1,c0⟩:=h.2.2 i hi
 have hb:w'.heap[b]?=w.heap[b]?:=hs _ h1
 exact⟨b,off,h1,(Zzj hb _).trans c0⟩
theorem RadW.kept {w w':World} {b bb:Nat} {m:Mch} {cs0:Array Value} (h:RadW w b m) (hk:Lib.OthersKept 5 (some bb) w w') (hx:Box w bb cs0 85) (hne:b≠bb):RadW w' b m:=by
 obtain⟨ao,n,c,bo,k,d,h1,h2,h3,h4,h5,h6⟩:=h
 have s5:=Zaav h5 hk hx (by decide) (by decide)
 have s6:=Zaav h6 hk hx (by decide) (by decide)
 exact⟨ao,n,c,bo,k,d,Z4k h1 hk hne (by decide),Zaea h2 s5,h3,Zaii h4 s6,Zabb h5 s5,Zabb h6 s6⟩
theorem RadW.box {w:World} {b:Nat} {m:Mch} (h:RadW w b m):∃cs,Box w b cs 87:=by obtain⟨ao,n,c,bo,k,d,h1,_⟩:=h;exact⟨_,h1⟩
theorem Zafl {w:World}:RadW (w.alloc (.cells #[.int .i64 3,.int .i64 3,.int .i64 1,.slice none 0 0,.slice none 0 0] 87)) w.heap.size mch0:=
 ⟨none,0,0,none,0,0,Box.new w _ _,RdS.nil _,Nat.le_refl _,Rd.nil _,Tg.none _ _,Tg.none _ _⟩
theorem tab_lt {w:World} (h:TabW w):1<w.heap.size:=by
 have hgn:Tryz.prog.globalNamed "internal/strconv.uint64pow10" =some 1:=by kernel_rfl
 unfold TabW Lib.TabIs World.var? at h
 rw[hgn]at h
 simp only[Option.bind_some]at h
 rcases Nat.lt_or_ge 1 w.heap.size with h'|h'
 ·exact h'
 ·rw[Array.getElem?_eq_none h']at h;cases h
theorem Zz6 (a b:ByteArray):Lib.strCells a++Lib.strCells b=Lib.strCells (a++b):=by
 unfold Lib.strCells
 rw[←List.map_append,show a.data.toList++b.data.toList=(a++b).data.toList from(Zbw a b).symm]
theorem Len_c {w:World} {B bb:Nat} {s:ByteArray} (h:Bld w B bb s):Calls Tryz.prog 62 #[.pointer (some ⟨bb,0,none⟩)] w fun e w'=>e= .returned (.int .i64 s.size)∧w'=w:=by
 refine(Tryz.Builder_Len_f B bb _ w h).mono ?_
 rintro e w' ⟨rfl,rfl⟩
 rw[Lib.strCells_length]
 exact⟨rfl,rfl⟩
theorem Z1c {w:World} {B bb:Nat} {s x:ByteArray} (h:Bld w B bb s) (hz:s.size+x.size≤140737488355328) (hB:B≤w.heap.size):Calls Tryz.prog 63 #[.pointer (some ⟨bb,0,none⟩),.string x] w fun e w'=>e= .returned (.tuple #[.int .i64 x.size,.nilIface])∧Bld w' B bb (s++x)∧Below B w w'∧Lib.OthersKept 5 (some bb) w w':=by
 refine(Zwo B bb _ x w h (by rw[Lib.strCells_length];exact hz) hB).mono ?_
 rintro e w' ⟨rfl,h1,h2,h3⟩
 rw[Zz6]at h1
 exact⟨rfl,.inr h1,h2,h3⟩
theorem Zai1 {w:World} {B bb:Nat} {s:ByteArray} (h:Bld w B bb s) (hB:B≤w.heap.size):Calls Tryz.prog 65 #[.pointer (some ⟨bb,0,none⟩)] w fun e w'=>e= .returned (.string s)∧Below B w w':=by
 refine(Tryz.Builder_String_any_k B bb (bts s) w h hB).mono ?_
 rintro e w' ⟨rfl,_,h2,_⟩
 exact⟨rfl,h2⟩
theorem Z89 {P:List ByteArray} {k:Nat} (h:k<P.length) (m:Mch) (out:ByteArray):runS (P.drop k) k m out=
 if P[k].size=0 then runS (P.drop (k+1)) (k+1) m out else if 100≤k∨40000<out.size then out++Z95 else runS (P.drop (k+1)) (k+1) (exec m P[k]).1 (out++((exec m P[k]).2++nlT)):=by
 rw[List.drop_eq_getElem_cons h,runS]
theorem Zxd {P:List ByteArray} {k:Nat} (h:P.length≤k) (m:Mch) (out:ByteArray):runS (P.drop k) k m out=out:=by
 rw[List.drop_of_length_le h,runS]
theorem Zln (text:ByteArray) (w:World) (htab:TabW w) (hmax:MaxW w) (hfo:FormsW w) (hs:text.size≤1099511627776):Calls Tryz.prog 20 #[.string text] w fun e w'=>e= .returned (.string (Zb4 text))∧Below w.heap.size w w':=by
 by_cases hlong:20000<text.size
 ·have hR:=Lib.hid (show Zb4 text=Zaiz from if_pos hlong)
  have hl':(20000:Int)<(text.size:Int):=by omega
  rw[hR.out]
  go_enter Tryz.func20,Tryz.ntmps20
  go_wp2_with fail
  go_ret
  exact⟨rfl,Below.refl _ _⟩
 ·have hl':¬(20000:Int)<(text.size:Int):=by omega
  have hR:Zb4 text=runS (cutT 10 text) 0 mch0 ⟨#[]⟩:=if_neg hlong
  have HSP:=Lib.hid (fun w (hm:MaxW w)=>Zlp text 10 w hm (by omega))
  have hsz:∀p∈cutT 10 text,p.size≤20000:=fun p hp=>Nat.le_trans (Zdk hp) (by omega)
  have hln:(cutT 10 text).length≤20001:=by
   have h1:=Zf5 10 text
   have h2:=List.count_le_length (a:=(10:UInt8)) (l:=bts text)
   rw[Zbz]at h2
   omega
  rw[hR]
  obtain⟨P,hP⟩:∃P,cutT 10 text=P:=⟨_,rfl⟩
  obtain⟨X,hX⟩:∃X,runS (cutT 10 text) 0 mch0 ⟨#[]⟩=X:=⟨_,rfl⟩
  rw[hX]
  rw[hP]at hX hsz hln HSP
  obtain⟨n,hn⟩:∃n,P.length=n:=⟨_,rfl⟩
  rw[hn]at hln HSP
  have HN:=Lib.hid hn
  have HSZ:=Lib.hid hsz
  have HX0:=Lib.hid (show runS (P.drop 0) 0 mch0 ⟨#[]⟩=X by rw[List.drop_zero];exact hX)
  have hgb:=tab_lt htab
  clear hR hP hX hn hsz hlong
  have hA1:Below w.heap.size w (w.alloc (.cells #[.pointer none,.slice none 0 0] 85)):=(Below.refl _ _).alloc (Nat.le_refl _) _
  have hBl:=Zais w
  have hz1:(w.alloc (.cells #[.pointer none,.slice none 0 0] 85)).heap.size=w.heap.size+1:=by simp
  go_enter Tryz.func20,Tryz.ntmps20
  go_wp2_with fail
  refine(Zs4 _).mono ?_;rintro e w1 ⟨rfl,hb1⟩
  have hA2:=hA1.trans (hb1.mono hA1.size)
  have hz2:=hb1.size
  have hA3:=hA2.alloc hA2.size (.cells #[.int .i64 3,.int .i64 3,.int .i64 1,.slice none 0 0,.slice none 0 0] 87)
  have hB3:=(hBl.below hb1).below ((Below.refl w1.heap.size w1).alloc (Nat.le_refl _) (.cells #[.int .i64 3,.int .i64 3,.int .i64 1,.slice none 0 0,.slice none 0 0] 87))
  have hR3:=Zafl (w:=w1)
  have hM3:=hmax.below hA3
  clear hA1 hA2 hBl hb1
  go_wp2_with fail
  refine(HSP.out _ hM3).mono ?_;rintro e w2 ⟨rfl,rfl⟩
  have hb4:=(Below.refl (w1.alloc (.cells #[.int .i64 3,.int .i64 3,.int .i64 1,.slice none 0 0,.slice none 0 0] 87)).heap.size _).alloc (Nat.le_refl _) (.cells (P.map Value.string).toArray 9)
  have hA4:=hA3.trans (hb4.mono hA3.size)
  have hB4:=hB3.below hb4
  have hR4:=hR3.below hb4
  have hL4:=Box.new (w1.alloc (.cells #[.int .i64 3,.int .i64 3,.int .i64 1,.slice none 0 0,.slice none 0 0] 87)) (P.map Value.string).toArray 9
  have hlb:(w1.alloc (.cells #[.int .i64 3,.int .i64 3,.int .i64 1,.slice none 0 0,.slice none 0 0] 87)).heap.size=w1.heap.size+1:=by simp
  obtain⟨b,hb⟩:∃b,w1.heap.size=b:=⟨_,rfl⟩
  obtain⟨lg,hlg⟩:∃lg,(w1.alloc (.cells #[.int .i64 3,.int .i64 3,.int .i64 1,.slice none 0 0,.slice none 0 0] 87)).heap.size=lg:=⟨_,rfl⟩
  rw[hlg]at hL4 hlb
  rw[hb]at hR4 hlb hz2
  rw[hz1]at hz2
  have hlgb:lg≠b:=by omega
  have hbb:b≠w.heap.size:=by omega
  have hble:w.heap.size≤b:=by omega
  have hgb2:1≠b:=by omega
  have hlbb:lg≠w.heap.size:=by omega
  obtain⟨bb,hbbe⟩:∃bb,w.heap.size=bb:=⟨_,rfl⟩
  have HBB:=Lib.hid hbbe
  rw[hlg,hb]
  rw[hbbe]at hB4 hbb hble hlbb ⊢
  clear hA3 hB3 hR3 hM3 hb4 hz1 hz2 hlb hgb hb hlg hbbe
  go_wp2_with fail
  go_loopw [14] (fun i wr=>∃(k:Nat) (m:Mch) (out:ByteArray),k≤n∧i= .int .i64 k∧Hid (runS (P.drop k) k m out=X)∧Hid (out.size≤k*2100001)∧Hid (OkM m)∧Bld wr bb bb out∧RadW wr b m∧Box wr lg (P.map Value.string).toArray 9∧Below bb w wr) (fun i _=>n-(intOf i).toNat)
  case atStart=>exact⟨0,mch0,⟨#[]⟩,Nat.zero_le _,rfl,HX0,Lib.hid (Nat.zero_le _),Lib.hid Zac7,hB4,hR4,hL4,by rw[←HBB.out];exact hA4⟩
  case round=>
   clear hB4 hR4 hL4 hA4
   obtain⟨k,m,out,hk,rfl,HRS,HOZ,HOK,hB,hR,hL,hbw⟩:=hrel
   obtain⟨wo,hwo⟩:∃wo:World,wo=wr:=⟨_,rfl⟩
   subst hwo
   have hbG:Below w.heap.size w wo:=by rw[HBB.out];exact hbw
   have hbs:bb≤wo.heap.size:=by rw[←HBB.out];exact hbw.size
   by_cases hlt:k<n
   ·have hkP:k<P.length:=by rw[HN.out];exact hlt
    have s0:wo.cell? ⟨lg,k,none⟩=some (.string P[k]):=hL.cell (by simp[hkP])
    have hst:=Z89 hkP m out
    rw[HRS.out]at hst
    have HST:=Lib.hid hst
    have HPZ:=Lib.hid (HSZ.out _ (List.getElem_mem hkP))
    have hklt:k<lg.succ+n:=by omega
    clear hst hklt
    generalize P[k]=line at*
    have hoz2:out.size≤42002120001:=Nat.le_trans HOZ.out (Nat.le_trans (Nat.mul_le_mul_right _ (show k≤20001 by omega)) (by decide))
    by_cases h0:line.size=0
    ·have he0:(line.toList==[])=true:=Zu6 (Zkb h0)
     have HNX:=Lib.hid (show runS (P.drop (k+1)) (k+1) m out=X by have:=HST.out;rw[if_pos h0]at this;exact this.symm)
     have HOZ2:=Lib.hid (show out.size≤(k+1)*2100001 from Nat.le_trans HOZ.out (Nat.mul_le_mul_right _ (Nat.le_succ k)))
     clear h0 hbG
     go_wp2_with fail
     go_roundw
     case rel=>exact⟨k+1,m,out,by omega,by go_num,HNX,HOZ2,HOK,hB,hR,hL,hbw⟩
     case measure=>simp[intOf];omega
    ·have he0:(line.toList==[])=false:=Zou (Zfh h0)
     have HS2:=Lib.hid (show X=if 100≤k∨40000<out.size then out++Z95 else runS (P.drop (k+1)) (k+1) (exec m line).1 (out++((exec m line).2++nlT))by have:=HST.out;rw[if_neg h0]at this;exact this)
     clear h0
     by_cases hfull:100≤k∨40000<out.size
     ·have HF:=Lib.hid (show X=out++Z95 by rw[HS2.out,if_pos hfull])
      by_cases h100:100≤k
      ·have hi100:(100:Int)≤(k:Int):=by omega
       clear hfull
       go_wp2_with fail
       refine(Z1c (x:=⟨#[102,117,108,108,10]⟩) hB (by show out.size+5≤_;omega) hbs).mono ?_;rintro e w5 ⟨rfl,hB5,hb5,_⟩
       have hb15:=hbw.trans hb5
       go_wp2_with fail
       refine(Zai1 hB5 (HBB.out▸hb15.size)).mono ?_;rintro e w6 ⟨rfl,hb6⟩
       have hb16:=hb15.trans hb6
       go_wp2_with fail
       go_ret
       exact⟨by rw[HF.out];rfl,by rw[HBB.out];exact hb16⟩
      ·have h40:40000<out.size:=by omega
       have hi40:(40000:Int)<(out.size:Int):=by omega
       have hi100:¬(100:Int)≤(k:Int):=by omega
       clear hfull
       go_wp2_with fail
       refine(Len_c hB).mono ?_;rintro e w5 ⟨rfl,rfl⟩
       go_wp2_with fail
       refine(Z1c (x:=⟨#[102,117,108,108,10]⟩) hB (by show out.size+5≤_;omega) hbs).mono ?_;rintro e w5 ⟨rfl,hB5,hb5,_⟩
       have hb15:=hbw.trans hb5
       go_wp2_with fail
       refine(Zai1 hB5 (HBB.out▸hb15.size)).mono ?_;rintro e w6 ⟨rfl,hb6⟩
       have hb16:=hb15.trans hb6
       go_wp2_with fail
       go_ret
       exact⟨by rw[HF.out];rfl,by rw[HBB.out];exact hb16⟩
     ·have hi40:¬(40000:Int)<(out.size:Int):=by omega
      have hi100:¬(100:Int)≤(k:Int):=by omega
      have HEX:=Lib.hid (Z8f HOK.out HPZ.out)
      have HF:=Lib.hid (show runS (P.drop (k+1)) (k+1) (exec m line).1 (out++((exec m line).2++nlT))=X by rw[HS2.out,if_neg hfull])
      have hEnv:EnvW wo b m:=⟨hR,htab.below hbG,hgb2,hmax.below hbG,HOK.out⟩
      have hFo:=hfo.below hbG
      clear hfull
      go_wp2_with fail
      refine(Len_c hB).mono ?_;rintro e w5 ⟨rfl,rfl⟩
      go_wp2_with fail
      refine(Zab8 hEnv hFo HPZ.out).mono ?_;rintro e w5 ⟨rfl,hr5,hg5⟩
      obtain⟨csb,hxb⟩:=hR.box
      have hB5:=hB.gr hg5 hxb (Ne.symm hbb)
      have hL5:=hL.gr hg5 hlgb
      have hbw5:Below bb w w5:=hbw.trans (Zah hg5 hble hbs)
      generalize exec m line=EX at*
      obtain⟨m',o⟩:=EX
      have hoz:o.size≤2100000:=HEX.out.2
      have n1:¬o.size+1>9223372036854775807:=by omega
      have n1':¬9223372036854775807<o.size+1:=by omega
      have n1'':¬9223372036854775807≤o.size:=by omega
      clear hB hL hEnv hFo hbG hg5
      go_wp2_with fail
      have hbs5:bb≤w5.heap.size:=by rw[←HBB.out];exact hbw5.size
      refine(Z1c hB5 (by rw[ByteArray.size_append];show out.size+(o.size+1)≤_;omega) hbs5).mono ?_;rintro e w6 ⟨rfl,hB6,hb6,hk6⟩
      obtain⟨cs6,hx6⟩:=hB5.box
      have hr6:=hr5.kept hk6 hx6 hbb
      have hL6:=Z4k hL5 hk6 hlbb (by decide)
      have hbw6:=hbw5.trans hb6
      have HOZ2:=Lib.hid (show(out++(o++⟨#[10]⟩)).size≤(k+1)*2100001 by
       have:=HOZ.out
       rw[ByteArray.size_append,ByteArray.size_append,Nat.succ_mul]
       show out.size+(o.size+1)≤_
       omega)
      have HOK2:=Lib.hid HEX.out.1
      clear hB5 hL5 hr5 hk6 hb6 hbw5
      go_wp2_with fail
      go_roundw
      case rel=>exact⟨k+1,m',out++(o++⟨#[10]⟩),by omega,by go_num,HF,HOZ2,HOK2,hB6,hr6,hL6,hbw6⟩
      case measure=>simp[intOf];omega
   ·obtain rfl:k=n:=by omega
    have HF:=Lib.hid (show X=out by rw[←HRS.out];exact Zxd (by rw[HN.out];exact Nat.le_refl _) m out)
    go_wp2_with fail
    refine(Zai1 hB hbs).mono ?_;rintro e w6 ⟨rfl,hb6⟩
    have hb16:=hbw.trans hb6
    go_wp2_with fail
    go_ret
    exact⟨by rw[HF.out];rfl,by rw[HBB.out];exact hb16⟩
end Go.Proofs.YtcjihfongfefoaaGreatDoor
