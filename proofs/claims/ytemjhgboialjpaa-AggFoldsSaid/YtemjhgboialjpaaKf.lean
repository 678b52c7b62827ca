/-
Texts of this proof,one behind the other. No conditions.
-/
import Derived.Test.YtemjhgboialjpaaKLow
import Derived.Test.YtemjhgboialjpaaKe
import Derived.Test.YtemjhgboialjpaaKd
set_option linter.unusedSimpArgs false
set_option linter.unusedVariables false
set_option linter.unusedSectionVars false
namespace Go.Proofs.Ytemjhgboialjpaa
open Go.RowKit
attribute [local go_sem] lH fE aA.ok aA.next LOp.ok LOp.next aR.ok aR.out aF.ev aZ zQ kM iD sL V.fits V.leafy V.cells V.cell V.undef bL bF bB Sh.size Hp.set Hp.del kH gE qV eW aA.dok aA.dres LOp.dok LOp.dout yJ zN nD dJ rM Hp.turn veq eK eV List.take_succ_cons List.take_zero List.take_nil List.drop_succ_cons List.drop_zero List.drop_nil List.set_cons_succ List.set_cons_zero List.getD_cons_succ List.getD_cons_zero List.length_cons List.length_nil List.map_cons List.map_nil List.all_cons List.all_nil List.mem_cons List.not_mem_nil List.replicate_succ List.replicate_zero List.cons_append List.nil_append List.append_nil List.isEmpty_cons List.isEmpty_nil dI eG oV Option.getD_some Option.isSome_some Option.isSome_none Nat.add_eq Nat.zero_add Nat.add_zero true_and and_true and_self true_implies implies_true false_implies forall_const forall_eq forall_eq_or_imp ne_eq not_false_eq_true not_true_eq_false Bool.not_true Bool.not_false decide_true decide_false Bool.and_true Bool.true_and Bool.and_false Bool.false_and true_or or_true false_or or_false eq_self Bool.false_eq_true aCT aCv lA aI cB cM eP qY oD qX gV kG dO Int.toNat_natCast Int.toNat_zero List.take_length
structure Tm where
 e:Int
 r:Int
 deriving DecidableEq,Inhabited
def Tm.v(t:Tm):V:= .agg [.int .i64 t.e, .int .i64 t.r]
def Tm.le(a b:Tm):Bool:=decide (a.e≤b.e)&&decide (a.r≤b.r)
def Tm.ok(t:Tm):Bool:=decide (0≤t.e)&&decide (t.e≤1048576)&&(decide (0≤t.r)&&decide (t.r≤1048576))
end Go.Proofs.Ytemjhgboialjpaa
namespace Go.Proofs.Ytemjhgboialjpaa
open Go.RowKit
theorem xU:aG Try.prog 42=some (LB.CmpInt 60):=by kernel_rfl
theorem aCh:aG Try.prog 60=some LB.NaNInt:=by kernel_rfl
theorem aAq:aG Try.prog 40=some LB.OrInt:=by kernel_rfl
end Go.Proofs.Ytemjhgboialjpaa
namespace Go.Proofs.Ytemjhgboialjpaa
open Go.RowKit
attribute [local irreducible] IntKind.wrap
def Pa.v(p:Pa):V:= .agg [.bool p.n, .int .i64 p.a]
def oY(n:Int):V:=if n=0 then .nilIface else .iface 46 (.int .i64 n)
theorem aBH:oY 0= .nilIface:=rfl
theorem aCb(n:Int):veq (.iface true) (oY n) .nilIface=some (decide (n=0)):=by
 unfold oY
 split<;>simp_all [veq]
end Go.Proofs.Ytemjhgboialjpaa
