/-
Texts of this proof,one behind the other. No conditions.
-/
import Derived.Test.YtemjhgboialjpaaGreatKLow
import Derived.Test.YtemjhgboialjpaaGreatKe
import Derived.Test.YtemjhgboialjpaaGreatKd
open Nat renaming reduceAdd→jA,reduceSub→jB,reduceLT→jC,reduceLeDiff→jD,reduceEqDiff→jE
open Int renaming reduceToNat→jF,toNat_natCast→jG,natCast_add→jH,natCast_one→jI,natCast_zero→jJ
open List renaming length_map→jK,length_cons→jL,length_nil→jM,replicate_succ→jN,replicate_zero→jO,cons_append→jP,nil_append→jQ
set_option linter.unusedSimpArgs false
set_option linter.unusedVariables false
set_option linter.unusedSectionVars false
namespace Go.Proofs.YtemjhgboialjpaaGreat
open Go.RowKit
attribute [local go_sem] mA fM aA.ok aA.next LOp.ok LOp.next aS.ok aS.out aG.ev bC aAN lF iS tM V.fits V.leafy V.cells V.cell V.undef bV bK bF Sh.size Hp.set Hp.del kX gO rU fG aA.dok aA.dres LOp.dok LOp.dout aAg aAK kW cX sJ Hp.turn veq eQ fF List.take_succ_cons List.take_zero List.take_nil List.drop_succ_cons List.drop_zero List.drop_nil List.set_cons_succ List.set_cons_zero List.getD_cons_succ List.getD_cons_zero jL jM List.map_cons List.map_nil List.all_cons List.all_nil List.mem_cons List.not_mem_nil jN jO jP jQ List.append_nil List.isEmpty_cons List.isEmpty_nil dP eN pS Option.getD_some Option.isSome_some Option.isSome_none Nat.add_eq Nat.zero_add Nat.add_zero true_and and_true and_self true_implies implies_true false_implies forall_const forall_eq forall_eq_or_imp ne_eq not_false_eq_true not_true_eq_false Bool.not_true Bool.not_false decide_true decide_false Bool.and_true Bool.true_and Bool.and_false Bool.false_and true_or or_true false_or or_false eq_self Bool.false_eq_true aEa aDz kD aC cG cT eV rX pA rW iG kV dW jG Int.toNat_zero List.take_length
structure Tm where
 e:Int
 r:Int
 deriving DecidableEq,Inhabited
def Tm.v(t:Tm):V:= .agg [.int .i64 t.e, .int .i64 t.r]
def Tm.le(a b:Tm):Bool:=decide (a.e≤b.e)&&decide (a.r≤b.r)
def Tm.ok(t:Tm):Bool:=decide (0≤t.e)&&decide (t.e≤1048576)&&(decide (0≤t.r)&&decide (t.r≤1048576))
end Go.Proofs.YtemjhgboialjpaaGreat
namespace Go.Proofs.YtemjhgboialjpaaGreat
open Go.RowKit
theorem zP:aH Tryz.prog 165=some (LB.CmpInt 203):=by kernel_rfl
theorem aDj:aH Tryz.prog 203=some LB.NaNInt:=by kernel_rfl
theorem aBo:aH Tryz.prog 163=some LB.OrInt:=by kernel_rfl
end Go.Proofs.YtemjhgboialjpaaGreat
namespace Go.Proofs.YtemjhgboialjpaaGreat
open Go.Proofs.YtemjhgboialjpaaGreat renaming pX→uA,nQ→uB,gZ→uC,hN→uD,fN→uE,pZ→uF,nZ→uG,hT→uH,hZ→uI,fO→uJ,gN→uK,lN→uL,nY→uM,qA→uN,lH→uO,cM→uP,aDr→uQ,wE→uR,qU→uS
open Go.RowKit
attribute [local irreducible] IntKind.wrap
def Pa.v(p:Pa):V:= .agg [.bool p.n, .int .i64 p.a]
def pU(n:Int):V:=if n=0 then .nilIface else .iface 48 (.int .i64 n)
theorem aCI:pU 0= .nilIface:=rfl
theorem aDc(n:Int):veq (.iface true) (pU n) .nilIface=some (decide (n=0)):=by
 unfold pU
 split<;>simp_all [veq]
end Go.Proofs.YtemjhgboialjpaaGreat
