/-
corollarylaw24.FrontMakes returns true for every input,and leaves its arguments as they were. Conditions:none.
-/
import Derived.Test.YtecepaehmojpgaaGreatNx
import Derived.Test.YtecepaehmojpgaaGreatNt
set_option linter.unusedSimpArgs false
set_option linter.unusedVariables false
set_option linter.unusedSectionVars false
set_option maxHeartbeats 8000000
namespace Go.Proofs.YtecepaehmojpgaaGreat
open Go.ChangeShapes Go.WideShapes Go.ChangeAt Go.RowKit Go.Sort
set_option maxRecDepth 100000 in
theorem wR(os:Os)(started:os.Started)(H:Type)(enc:TypeId×Value→H):
 ReturnsInHanded {} Tryz.checked os 4 .any (Rows.frontMakesSpec.pre6 enc Tryz.prog Tryz.f4 Rows.frontMakesRow.domain false) (Rows.frontMakesSpec.post enc Tryz.prog Tryz.f4 false true false false):=by
 refine wq (C:=Tryz.checked) (tb:=4) own started Zz Tryz.func4
  (ChangeSpec.witness6 (enc:=enc) (C:=Tryz.checked) false ⟨#[],#[.agg #[.int .i64 0, .slice none 0 0], .agg #[.int .i64 0, .int .i64 0, .int .i64 0, .int .i64 0, .int .i64 0, .int .i64 0], .int .i64 0],[]⟩ 8 Zz Zz Zz Zz)
  rfl (fun ds hds=>by match ds,hds with| [_,_,_],_=>rfl) rfl Tryz.underlying4 CJ (fun t ht=>?_) ?_
 ·simp only[Tryz.params4,List.mem_cons,List.not_mem_nil,or_false] at ht;rcases ht with rfl|rfl|rfl<;>exact⟨Zz,of_decide_eq_true Zz⟩
 intro W base args ds p aC3 hA _ _;refine m8 (P:=Tryz.prog) (congrArg Array.toList Tryz.params4) Zz (fun xs hxs=>?_) W base args ds p aC3 hA;match xs,hxs with
 | [x0,x1,x2],⟨h0,h1,h2,_⟩=>
  obtain⟨o,P,ws,rfl,hn⟩:=Ca Zz Zz h0;obtain⟨a,b,rfl⟩:=CY Zz Zz h1;obtain⟨m,rfl⟩:=CZ (k:= .i64) Zz Zz h2;exact dv o P ws hn a b m
theorem frontMakes_holds:Rows.FrontMakesSaid:=
 OpenClaim.holds_of_wide 4 Tryz.f4 rfl rfl rfl rfl rfl rfl rfl ⟨rfl,rfl,rfl,rfl,rfl⟩ rfl rfl rfl rfl rfl Zz Tryz.func4 Zz
  (of_decide_eq_true Zz) (by unfold Func.isWrapper;first|(rw[if_pos (by decide+kernel)];kernel_rfl)|(rw[if_neg (by decide+kernel)];exact⟨rfl,rfl⟩))
  (fun os started H enc _=>wR os started H enc)
end Go.Proofs.YtecepaehmojpgaaGreat
