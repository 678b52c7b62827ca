/-
Texts of this proof,one behind the other. No conditions.
-/
import Derived.Test.YtecepaehmojpgaaGreatNd
import Derived.Test.YtecepaehmojpgaaGreatNu
import Derived.Test.YtecepaehmojpgaaGreatNTe
set_option linter.unusedSimpArgs false
set_option linter.unusedVariables false
set_option linter.unusedSectionVars false
set_option maxHeartbeats 8000000
namespace Go.Proofs.YtecepaehmojpgaaGreat
open Go.RowKit Go.Sort
attribute [local irreducible] IntKind.wrap
def DN.at'(x:DN)(i j:Int):Bool:=decide (x.f=i)&&decide (x.t=j)
def Da(x:DW)(i j:Int):DW×Int:=if¬(0≤i∧i<x.Vs.length∧0≤j∧j<x.Vs.length∧i≠j) then (x,1) else match x.Ns.findIdx? fun y=>y.at' i j with
 |none=>(x,13)
 |some k=>(⟨x.P,x.ws,x.T,x.Vs.set j.toNat (dD x.P (x.Vs.getD j.toNat []) ((x.Ns.map DN.n).getD k ⟨⟨0,⟨0,0⟩⟩,[]⟩).ds).1,x.Ns.eraseIdx k⟩,0)
structure DW.Ok(x:DW):Prop where
 ws:x.ws.length≤1000
 vl:x.Vs.length≤100
 vs:∀C∈x.Vs,C.length≤10000
 tl:x.T.length≤10000
 nl:x.Ns.length≤10000
 ns:∀y∈x.Ns,y.n.made.length≤9000
end Go.Proofs.YtecepaehmojpgaaGreat
