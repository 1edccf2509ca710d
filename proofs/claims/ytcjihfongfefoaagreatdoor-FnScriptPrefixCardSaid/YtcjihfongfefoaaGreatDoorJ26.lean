/- Zb -/
import Derived.Test.YtcjihfongfefoaaGreatDoorJ01
import Derived.StillTail
namespace Go.Proofs.YtcjihfongfefoaaGreatDoor
open Go.RowKit
section
variable {P:Program} {ops:Array Oper} {md:Region.Mode} {w:World}
def Zw9 (md:Region.Mode) (ops:Array Oper) (k n:Nat):Bool:=
 (List.range n).all fun i=>decide (i<k)||(List.range (n+1)).any fun j=>decide (i<j)&&Region.waitsFor md ops j i
def Zahc (md:Region.Mode) (ops:Array Oper) (n:Nat):Bool:=
 (List.range ops.size).all fun t=>decide (t≤n)||(List.range t).any fun j=>decide (n≤j)&&Region.waitsFor md ops t j
theorem Z6d {k n:Nat} {listed:Array Bool} (hs:Zw9 md ops k n=true) (hc:Zahc md ops n=true) (hn:n<ops.size) (inv:HeadInv md ops n listed):
 ∀(d i:Nat),n-i=d→k≤i→i<n→listed.getD i true=false→∀t,n≤t→t ∉ Region.ready md ops listed:=by
 intro d
 induction d using Nat.strongRecOn with
 |_ d ih=>
  intro i hd hik hi hun t ht hr
  obtain⟨_,ot,hot,hall⟩:=mem_ready.1 hr
  have htlt:t<ops.size:=(Array.getElem?_eq_some_iff.1 hot).1
  by_cases htn:t=n
  ·subst htn
   have h0:=List.all_eq_true.1 hs i (List.mem_range.2 hi)
   simp only[Bool.or_eq_true,decide_eq_true_eq]at h0
   obtain⟨j,hj,hj2⟩:=List.any_eq_true.1 (h0.resolve_left (by omega))
   simp only[Bool.and_eq_true,decide_eq_true_eq]at hj2
   obtain⟨oj,hoj,e,he,hb,hon⟩:=Region.waitsFor_spec hj2.2
   have hjle:j≤t:=by have:=List.mem_range.1 hj;omega
   by_cases hjt:j=t
   ·subst hjt
    obtain rfl:oj=ot:=Option.some.inj (hoj.symm.trans hot)
    have h2:=hall e he hb
    rw[hon,getD_both hun]at h2
    cases h2
   ·cases hl:listed.getD j false with
    |true=>
     have h2:=inv.closed j oj hoj hl e he hb
     rw[hon,getD_both hun]at h2
     cases h2
    |false=>
     exact ih (t-j) (by omega) j rfl (by omega) (by omega) (getD_in (by rw[inv.size];omega) hl) t (Nat.le_refl _) hr
  ·have h1:=List.all_eq_true.1 hc t (List.mem_range.2 htlt)
   simp only[Bool.or_eq_true,decide_eq_true_eq]at h1
   rcases h1 with h1|h1
   ·omega
   ·obtain⟨j,hj,hj2⟩:=List.any_eq_true.1 h1
    simp only[Bool.and_eq_true,decide_eq_true_eq]at hj2
    have hjt:=List.mem_range.1 hj
    obtain⟨o',ho',e,he,hb,hon⟩:=Region.waitsFor_spec hj2.2
    obtain rfl:o'=ot:=Option.some.inj (ho'.symm.trans hot)
    have h2:=hall e he hb
    rw[hon,getD_both (inv.tail j hj2.1 (by omega))]at h2
    cases h2
def Zb7 (n m:Nat):Array Bool:=(List.replicate n true++List.replicate (m-n) false).toArray
def Zgb (md:Region.Mode) (ops:Array Oper) (fin:Array Bool):Nat→Nat→Array Bool→Bool
 |0,_,listed=>decide (listed.toList=fin.toList)
 |f+1,k,listed=>(Region.ready md ops listed).contains k&&Region.free md ops listed k&&Zgb md ops fin f (k+1) (listed.setIfInBounds k true)
def headB (md:Region.Mode) (ops:Array Oper) (k n F:Nat) (listed:Array Bool):Bool:=
 Region.noSelect ops&&decide (n<ops.size)&&decide (k≤n)&&decide (F=ops.size-k)&&decide (listed.toList=(Zb7 k ops.size).toList)&&
 ((List.range k).all fun j=>match ops[j]? with|some oj=>oj.after.all fun e=>!Region.binds md e||(Zb7 k ops.size).getD e.on false|none=>true)&&
 Zw9 md ops k n&&Zahc md ops n&&(Region.ready md ops (Zb7 n ops.size)).all (fun j=>decide (n≤j))&&Zgb md ops (Zb7 n ops.size) (n-k) k (Zb7 k ops.size)
theorem Zdg {n m:Nat} (h:n≤m):(Zb7 n m).size=m:=by simp[Zb7];omega
theorem Zcw {n m j:Nat} (d:Bool) (h:n≤m) (hj:j<m):(Zb7 n m).getD j d=decide (j<n):=by
 have hs:j<(Zb7 n m).size:=by rw[Zdg h];exact hj
 rw[Array.getD,dif_pos hs]
 simp only[Zb7,Array.getInternal_eq_getElem,List.getElem_toArray]
 by_cases hn:j<n
 ·rw[List.getElem_append_left (by simpa using hn),List.getElem_replicate,decide_eq_true hn]
 ·rw[List.getElem_append_right (by simpa using hn),List.getElem_replicate,decide_eq_false hn]
end
end Go.Proofs.YtcjihfongfefoaaGreatDoor
