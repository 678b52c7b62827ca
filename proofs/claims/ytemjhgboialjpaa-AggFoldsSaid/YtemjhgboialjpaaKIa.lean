/-
corollarylaw16.AggFolds returns true for every input,and leaves its arguments as they were. Conditions:none.
-/
import Derived.Test.YtemjhgboialjpaaKp
set_option linter.unusedSimpArgs false
set_option linter.unusedVariables false
set_option linter.unusedSectionVars false
namespace Go.Proofs.Ytemjhgboialjpaa
open Go.ChangeShapes Go.WideShapes Go.ChangeAt Go.RowKit Go.Sort
set_option maxRecDepth 100000 in
theorem pA(os:Os)(started:os.Started)(H:Type)(enc:TypeId×Value→H):
 ReturnsInHanded {} Try.checked os 3 .any (Rows.aggFoldsSpec.pre6 enc Try.prog Try.f3 Rows.aggFoldsRow.domain false) (Rows.aggFoldsSpec.post enc Try.prog Try.f3 false true false false):=by
 refine yC (C:=Try.checked) (tb:=4) own started (by kernel_rfl) Try.func3
  (ChangeSpec.witness6 (enc:=enc) (C:=Try.checked) false ⟨#[],#[.int .i64 0, .slice none 0 0],[]⟩ 8 (by kernel_rfl) (by kernel_rfl) (by kernel_rfl) (by kernel_rfl))
  rfl (fun ds hds=>by match ds,hds with| [_,_],_=>rfl) rfl Try.underlying4 aCi (fun t ht=>?_) ?_
 ·simp only[Try.params3,List.mem_cons,List.not_mem_nil,or_false] at ht
  rcases ht with rfl|rfl<;>exact⟨by kernel_rfl,of_decide_eq_true (by kernel_rfl)⟩
 intro W base args ds p hval hA _ _
 refine uE (P:=Try.prog) (congrArg Array.toList Try.params3) (by kernel_rfl) (fun xs hxs=>?_) W base args ds p hval hA
 match xs,hxs with
 | [x0,x1],⟨h0,h1,_⟩=>
  obtain⟨g,rfl⟩:=aBT (k:= .i64) (by kernel_rfl) (by kernel_rfl) h0
  obtain⟨p,⟨hok,hs⟩,rfl⟩:=aCr (by kernel_rfl) (by kernel_rfl) h1
  exact uS g p hok hs
theorem aggFolds_holds:Rows.AggFoldsSaid:=
 OpenClaim.holds_of_wide 3 Try.f3 rfl rfl rfl rfl rfl rfl rfl ⟨rfl,rfl,rfl,rfl,rfl⟩ rfl rfl rfl rfl rfl (by kernel_rfl) Try.func3 (by kernel_rfl)
  (of_decide_eq_true (by kernel_rfl)) (by unfold Func.isWrapper;first|(rw[if_pos (by decide+kernel)];kernel_rfl)|(rw[if_neg (by decide+kernel)];exact⟨rfl,rfl⟩))
  (fun os started H enc _=>pA os started H enc)
end Go.Proofs.Ytemjhgboialjpaa
