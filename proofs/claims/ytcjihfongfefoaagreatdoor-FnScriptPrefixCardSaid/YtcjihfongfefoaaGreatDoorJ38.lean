/- Yn -/
import Derived.Test.YtcjihfongfefoaaGreatDoorJ25
import Derived.Deep.Slices
import Derived.Deep.Strs
import Derived.Deep.Fields
import Derived.Lib.LaidTab
import Derived.Lib.SmallJoins
import Derived.Test.YtcjihfongfefoaaGreatDoorShlf
namespace Go.Proofs.YtcjihfongfefoaaGreatDoor
open Go.RowKit
section
open Go.RowKit Go.ChangeShapes Go.WideShapes Go.Deep Go.Joins
def rowD {H:Type} (k:Nat):DataW H:=.agg [.lit (.string (lits.getD k [])),.lit (.int .i64 (leastL.getD k 0:Nat)),.lit (.int .i64 (mostL.getD k 0:Nat))]
def Zqg {H:Type}:DataW H:=.slice ((List.range 28).map rowD) []
theorem Z6p {P:Program} {w:World} {t e:TypeId} {f0 f1 f2:Field} {fuel:Nat} {cs:List Value} {p:List MemPlace}
 (ht:P.underlying t=some (.slice e)) (he:P.underlying e=some (.struct #[f0,f1,f2])) (hone:oneCellFields P #[f0,f1,f2]=true) (hC:P.cellsOf e=3)
 (u0:P.underlying f0.type=some .string) (u1:P.underlying f1.type=some (.int .i64)) (u2:P.underlying f2.type=some (.int .i64))
 (h:DataW.trod (fun _:TypeId×Value=>()) P w 0 (fun _=>true) false fuel t cs=some (Zqg,p)):
 ∃b off c,cs=[.slice (some ⟨b,off,none⟩) 28 c]∧
  ∀k,k<28→w.cell? ⟨b,off+k*3,none⟩=some (.string (txt (lits.getD k [])))∧w.cell? ⟨b,off+k*3+1,none⟩=some (.int .i64 (leastL.getD k 0:Nat))∧w.cell? ⟨b,off+k*3+2,none⟩=some (.int .i64 (mostL.getD k 0:Nat)):=by
 rcases open_slice ht h with ⟨_,h0⟩|⟨ad,len,cp,m,n,D,Pl,rfl,hb,hl,hm,hmm,hxe,hx⟩
 ·have:=congrArg Prod.fst h0
  unfold Zqg at this
  cases this
 ·have he1:=congrArg Prod.fst hxe
  unfold Zqg at he1
  simp only[DataW.slice.injEq]at he1
  have hlen:len=28:=by
   have:=congrArg List.length he1.1
   simpa using this.symm
  subst hlen
  have hD:∀k,k<28→D k=rowD k:=fun k hk=>by
   have:=congrArg (·[k]?) he1.1
   simpa[hk]using this.symm
  simp at hmm
  subst hmm
  have each:∀i,i<28→w.cell? (ad.add (i*3))=some (.string (txt (lits.getD i [])))∧w.cell? (ad.add (i*3+1))=some (.int .i64 (leastL.getD i 0:Nat))∧w.cell? (ad.add (i*3+2))=some (.int .i64 (mostL.getD i 0:Nat)):=by
   intro i hi
   obtain⟨cs',h1,h2⟩:=hx i (by omega)
   rw[hC]at h1
   obtain⟨_,hlen,hcell⟩:=World.cells?_some h1
   obtain⟨y0,y1,y2,k,hy,_,g0,g1,g2⟩:=trod_struct3 he h2
   obtain⟨o0,k0⟩:=hone_of hone 0 f0 rfl
   obtain⟨o1,k1⟩:=hone_of hone 1 f1 rfl
   obtain⟨o2,k2⟩:=hone_of hone 2 f2 rfl
   have hy1:=congrArg Prod.fst hy
   simp only[]at hy1
   rw[hD i hi]at hy1
   unfold rowD at hy1
   simp only[DataW.agg.injEq,List.cons.injEq,and_true]at hy1
   match cs',hlen with
   |[v0,v1,v2],_=>
    simp[o0,o1,o2,k0,k1,k2]at g0 g1 g2
    obtain⟨s0,e0,q0,_⟩:=DataW.trod_string u0 g0
    obtain⟨s1,e1,q1,_⟩:=DataW.trod_int u1 g1
    obtain⟨s2,e2,q2,_⟩:=DataW.trod_int u2 g2
    simp only[List.cons.injEq,and_true]at e0 e1 e2
    subst e0 e1 e2 q0 q1 q2
    obtain⟨r0,r1,r2⟩:=hy1
    simp only[DataW.lit.injEq,Lit.string.injEq,Lit.int.injEq,true_and]at r0 r1 r2
    have c0:=hcell 0 (by omega)
    have c1:=hcell 1 (by omega)
    have c2:=hcell 2 (by omega)
    rw[Go.Deep.add_add]at c0 c1 c2
    rw[r0,r1,r2]
    exact⟨by simpa[txt]using c0,by simpa using c1,by simpa using c2⟩
  obtain⟨b,off,spot⟩:=ad
  have hsp:spot=none:=by simpa[Addr.add]using World.cell?_spot (each 0 (by omega)).1
  subst hsp
  refine⟨b,off,_,rfl,fun k hk=>?_⟩
  obtain⟨c0,c1,c2⟩:=each k hk
  rw[Addr.add_lit]at c0 c1 c2
  exact⟨c0,by rw[Nat.add_assoc];exact c1,by rw[Nat.add_assoc];exact c2⟩
theorem forms_g:Tryz.prog.globalNamed "loop.example/spreadspectrum/impl.forms" =some 0:=by kernel_rfl
theorem forms_t:(Tryz.prog.globals[0]?).map (·.type)=some 170:=by kernel_rfl
theorem Zll {W:World} {rest:List (String×DataW Unit)} (h:laidMet Tryz.prog (("loop.example/spreadspectrum/impl.forms",Zqg)::rest) W):FormsW W∧∃b off c,W.var? Tryz.prog "loop.example/spreadspectrum/impl.forms" =some #[.slice (some ⟨b,off,none⟩) 28 c]:=by
 obtain⟨ps,⟨g,t,cs,fuel,p,q,hg,ht,hvar,hd,_,_⟩,_⟩:=h
 obtain rfl:=Option.some.inj (forms_g.symm.trans hg)
 obtain rfl:=Option.some.inj (forms_t.symm.trans ht)
 obtain⟨b,off,c,hcs,hrow⟩:=Z6p Tryz.underlying170 Tryz.underlying172 (by kernel_rfl) (by kernel_rfl) Tryz.underlying9 Tryz.underlying3 Tryz.underlying3 hd
 have hcs':cs= #[.slice (some ⟨b,off,none⟩) 28 c]:=by
  cases cs
  simp_all
 subst hcs'
 exact⟨⟨b,off,c,by simpa using World.var?_cell hg hvar 0,hrow⟩,b,off,c,hvar⟩
end
end Go.Proofs.YtcjihfongfefoaaGreatDoor
