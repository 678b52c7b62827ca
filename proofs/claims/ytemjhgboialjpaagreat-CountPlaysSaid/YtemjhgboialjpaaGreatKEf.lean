/-
corollarylaw23.CountPlays returns true for every input,and leaves its arguments as they were. Conditions:none.
-/
import Derived.Test.YtemjhgboialjpaaGreatKEb
set_option linter.unusedSimpArgs false
set_option linter.unusedVariables false
set_option linter.unusedSectionVars false
namespace Go.Proofs.YtemjhgboialjpaaGreat
open Go.ChangeShapes Go.WideShapes Go.ChangeAt Go.RowKit Go.Sort
set_option maxRecDepth 100000 in
theorem vQ(os:Os)(started:os.Started)(H:Type)(enc:TypeId×Value→H):
 ReturnsInHanded {} Tryz.checked os 4 .any (Rows.countPlaysSpec.pre6 enc Tryz.prog Tryz.f4 Rows.countPlaysRow.domain false) (Rows.countPlaysSpec.post enc Tryz.prog Tryz.f4 false true false false):=by
 refine aGn (C:=Tryz.checked) (tb:=4) own started (by kernel_rfl) Tryz.func4
  (ChangeSpec.witness6 (enc:=enc) (C:=Tryz.checked) false ⟨#[],#[.agg #[.int .i64 0, .slice none 0 0], .slice none 0 0],[]⟩ 8 (by kernel_rfl) (by kernel_rfl) (by kernel_rfl) (by kernel_rfl))
  rfl (fun ds hds=>by match ds,hds with| [_,_],_=>rfl) rfl Tryz.underlying4 aKh (fun t ht=>?_) ?_
 ·simp only[Tryz.params4,List.mem_cons,List.not_mem_nil,or_false] at ht
  rcases ht with rfl|rfl<;>exact⟨by kernel_rfl,of_decide_eq_true (by kernel_rfl)⟩
 intro W base args ds p hval hA _ _
 refine aDo (P:=Tryz.prog) (congrArg Array.toList Tryz.params4) (by kernel_rfl) (fun xs hxs=>?_) W base args ds p hval hA
 match xs,hxs with
 | [x0,x1],⟨h0,h1,_⟩=>
  obtain⟨o,P,ws,rfl,hn⟩:=aJE (by kernel_rfl) (by kernel_rfl) h0
  obtain⟨os,sc,rfl⟩:=aJG (by kernel_rfl) (by kernel_rfl) h1
  exact aAT o os P ws hn sc
theorem countPlays_holds:Rows.CountPlaysSaid:=
 OpenClaim.holds_of_wide 4 Tryz.f4 rfl rfl rfl rfl rfl rfl rfl ⟨rfl,rfl,rfl,rfl,rfl⟩ rfl rfl rfl rfl rfl (by kernel_rfl) Tryz.func4 (by kernel_rfl)
  (of_decide_eq_true (by kernel_rfl)) (by unfold Func.isWrapper;first|(rw[if_pos (by decide+kernel)];kernel_rfl)|(rw[if_neg (by decide+kernel)];exact⟨rfl,rfl⟩))
  (fun os started H enc _=>vQ os started H enc)
end Go.Proofs.YtemjhgboialjpaaGreat
