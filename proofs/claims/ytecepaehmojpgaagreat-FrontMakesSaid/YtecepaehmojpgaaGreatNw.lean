/-
Texts of this proof,one behind the other. No conditions.
-/
import Derived.Test.YtecepaehmojpgaaGreatNv
import Derived.Test.YtecepaehmojpgaaGreatNd
import Derived.Test.YtecepaehmojpgaaGreatNh
import Derived.Test.YtecepaehmojpgaaGreatNj
open List renaming filter_cons→Ka,mem_map→Kb
set_option linter.unusedSimpArgs false
set_option linter.unusedVariables false
set_option linter.unusedSectionVars false
set_option maxHeartbeats 8000000
namespace Go.Proofs.YtecepaehmojpgaaGreat
open Go.RowKit Go.Sort
def qs(l:List DN)(i j:Int):List Nt:=(l.filter fun x=>x.at' i j).map DN.n
theorem DH(x:DN)(i j:Int):x.at' i j=true↔x.f=i∧x.t=j:=by simp[DN.at']
theorem j2{α:Type}{p:α→Bool}:∀{l:List α} {k:Nat},l.findIdx? p=some k→∃y,l[k]?=some y∧p y=true∧l.filter p=y::(l.eraseIdx k).filter p∧∀q:α→Bool,q y=false→(l.eraseIdx k).filter q=l.filter q
 | [],_,h=>by cases h
 |x::l,k,h=>by
  rw[List.findIdx?_cons] at h;by_cases hp:p x=true
  ·rw[if_pos hp] at h;cases h;refine⟨x,rfl,hp,?_,fun q hq=>?_⟩
   ·rw[Ka,if_pos hp];rfl
   rw[Ka,if_neg (by rw[hq];decide)];rfl
  rw[if_neg hp] at h;cases e:l.findIdx? p with
  |none=>rw[e] at h;cases h
  |some m=>
   rw[e] at h;cases h;obtain⟨y,h1,h2,h3,h4⟩:=j2 e;refine⟨y,h1,h2,?_,fun q hq=>?_⟩
   ·show(x::l).filter p=y::(x::l.eraseIdx m).filter p;rw[Ka,if_neg hp,Ka,if_neg hp,h3]
   show(x::l.eraseIdx m).filter q=(x::l).filter q;rw[Ka,Ka,h4 q hq]
structure Scr(P:Int)(ws:List Wy)(N k:Nat)(S:Nat→CS)(Q:Int→Int→List Nt)(x:DW):Prop where
 p:x.P=P
 w:x.ws=ws
 t:x.T=uY (S 0).1
 v:x.Vs=(List.range N).map fun j=>uY (S (j+1)).1
 q:∀i j,qs x.Ns i j=Q i j
 n:x.Ns.length≤N*k
section
variable{l:List We}{P:Int}{ws:List Wy}{N k:Nat}{S:Nat→CS}{Q:Int→Int→List Nt}{x:DW}
theorem Scr.vl(H:Scr P ws N k S Q x):x.Vs.length=N:=by rw[H.v];simp
theorem Scr.ok(H:Scr P ws N k S Q x)(L:LI l P N k S Q)(hk:k≤300)(hN:N≤30)(hw:ws.length≤1000):x.Ok:=by
 refine⟨by rw[H.w];exact hw,by rw[H.vl];omega,fun C hC=>?_,?_,?_,fun y hy=>?_⟩
 ·rw[H.v] at hC;obtain⟨j,_,rfl⟩:=Kb.1 hC;have:=(L.st (j+1)).len;rw[wZ];omega
 ·have:=(L.st 0).len;rw[H.t,wZ];omega
 ·have h1:=H.n;have h2:N*k≤30*300:=Nat.mul_le_mul hN hk;omega
 have h1:y.n∈Q y.f y.t:=by
  rw[←H.q];exact Kb.2 ⟨y,List.mem_filter.2 ⟨hy,(DH _ _ _).2 ⟨rfl,rfl⟩⟩,rfl⟩
 have:=(L.fit _ _ _ h1).1;omega
theorem Scr.start(P:Int)(ws:List Wy)(N:Nat)(bg:List Sp)(hb:bg.length≤1000):(dD P [] (cJ bg 1)).2=(bQ P [] 0 (cJ bg 1)).1∧Scr P ws N 0 (fun _=>(bQ P [] 0 (cJ bg 1)).2) (fun _ _=>[]) (oF P ws N bg):=by
 have h:=zz P (Ct P 0).ok (fun x hx=>by cases hx) ZM (cJ bg 1);have e:uY []=[]:=List.eq_nil_of_length_eq_zero (by rw[wZ];rfl);rw[e] at h;rw[h];refine⟨rfl,⟨rfl,rfl,?_,?_,fun _ _=>rfl,Nat.zero_le _⟩⟩
 ·show(dD P [] (cJ bg 1)).1=_;rw[h]
 show List.replicate N (dD P [] (cJ bg 1)).1=_;rw[h];exact List.ext_getElem Zm fun t h1 h2=>Zm
theorem Scr.none(H:Scr P ws N k S Q x){i j:Int}(hr:0≤i∧i<N∧0≤j∧j<N∧i≠j)(h:Q i j=[]):Da x i j=(x,13):=by
 unfold Da;rw[H.vl,if_neg or];cases e:x.Ns.findIdx? fun y=>y.at' i j with
 |none=>rfl
 |some m=>
  obtain⟨y,_,_,h3,_⟩:=j2 e;have:=H.q i j;unfold qs at this;rw[h3,h] at this;cases this
end
section
variable{n0:Nat}{h':Hp}{nx wb nb tb:Nat}{vo:Own}{vs:List Nat}{P:Int}{wv lc:V}{ot:Own}{n:Nat}{l:List We}{ws:List Wy}{S:Nat→CS}{Q:Int→Int→List Nt}{k:Nat}{x:DW}
end
section
variable{h h2:Hp}{n0 nx nx2 wb nb tb B:Nat}{vo:Own}{vs:List Nat}{P:Int}{wv lc:V}{ot:Own}{rows es:List V}{S:Nat→CS}{Q:Int→Int→List Nt}
end
theorem CG(P:Int)(ws:List Wy):tV P ws=mps (cO ws) P ws:=by
 unfold tV mps wys;rw[wg]
theorem DE{α:Type}(l:List α):cO l= .nil∨cO l= .free:=by unfold cO;split<;>simp
theorem zj(o:Own)(P:Int)(ws:List Wy)(hl:ws.length≤1000)(h:Hp):aX Tryz.prog 14 [mps o P ws] h (mps (cO ws) P ws):=by
 have e:=ar o P ws or h;rwa [CG] at e
attribute [local irreducible] IntKind.wrap
end Go.Proofs.YtecepaehmojpgaaGreat
