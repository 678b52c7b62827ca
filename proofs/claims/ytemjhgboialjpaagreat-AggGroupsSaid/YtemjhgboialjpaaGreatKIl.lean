/-
corollarylaw16.AggGroups returns true for every input,and leaves its arguments as they were. Conditions:none.
-/
import Derived.Test.YtemjhgboialjpaaGreatKIk
set_option linter.unusedSimpArgs false
set_option linter.unusedVariables false
set_option linter.unusedSectionVars false
namespace Go.Proofs.YtemjhgboialjpaaGreat
open Go.ChangeShapes Go.WideShapes Go.ChangeAt Go.RowKit Go.Sort
set_option maxRecDepth 100000 in
theorem pF(os:Os)(started:os.Started)(H:Type)(enc:TypeId×Value→H):
 ReturnsInHanded {} Tryz.checked os 3 .any (Rows.aggGroupsSpec.pre6 enc Tryz.prog Tryz.f3 Rows.aggGroupsRow.domain false) (Rows.aggGroupsSpec.post enc Tryz.prog Tryz.f3 false true false false):=by
 refine zY (C:=Tryz.checked) (tb:=4) own started (by kernel_rfl) Tryz.func3
  (ChangeSpec.witness6 (enc:=enc) (C:=Tryz.checked) false ⟨#[],#[.int .i64 0, .int .i64 0, .slice none 0 0],[]⟩ 8 (by kernel_rfl) (by kernel_rfl) (by kernel_rfl) (by kernel_rfl))
  rfl (fun ds hds=>by match ds,hds with| [_,_,_],_=>rfl) rfl Tryz.underlying4 aDk (fun t ht=>?_) ?_
 ·simp only[Tryz.params3,List.mem_cons,List.not_mem_nil,or_false] at ht
  rcases ht with rfl|rfl|rfl<;>exact⟨by kernel_rfl,of_decide_eq_true (by kernel_rfl)⟩
 intro W base args ds p hval hA _ _
 refine vX (P:=Tryz.prog) (congrArg Array.toList Tryz.params3) (by kernel_rfl) (fun xs hxs=>?_) W base args ds p hval hA
 match xs,hxs with
 | [x0,x1,x2],⟨h0,h1,h2,_⟩=>
  obtain⟨g,rfl⟩:=yN (k:= .i64) (by kernel_rfl) (by kernel_rfl) h0
  obtain⟨c,rfl⟩:=yN (k:= .i64) (by kernel_rfl) (by kernel_rfl) h1
  obtain⟨o,l,_,hl,rfl⟩:=aDv (by kernel_rfl) (by kernel_rfl) h2
  exact sY g c o l hl
theorem aggGroups_holds:Rows.AggGroupsSaid:=
 OpenClaim.holds_of_wide 3 Tryz.f3 rfl rfl rfl rfl rfl rfl rfl ⟨rfl,rfl,rfl,rfl,rfl⟩ rfl rfl rfl rfl rfl (by kernel_rfl) Tryz.func3 (by kernel_rfl)
  (of_decide_eq_true (by kernel_rfl)) (by unfold Func.isWrapper;first|(rw[if_pos (by decide+kernel)];kernel_rfl)|(rw[if_neg (by decide+kernel)];exact⟨rfl,rfl⟩))
  (fun os started H enc _=>pF os started H enc)
end Go.Proofs.YtemjhgboialjpaaGreat
