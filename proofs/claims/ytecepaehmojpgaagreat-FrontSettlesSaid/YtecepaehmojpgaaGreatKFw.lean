/-
corollarylaw24.FrontSettles returns true for every input,and leaves its arguments as they were. Conditions:none.
-/
import Derived.Test.YtecepaehmojpgaaGreatKFv
set_option linter.unusedSimpArgs false
set_option linter.unusedVariables false
set_option linter.unusedSectionVars false
namespace Go.Proofs.YtecepaehmojpgaaGreat
open Go.ChangeShapes Go.WideShapes Go.ChangeAt Go.RowKit Go.Sort
set_option maxRecDepth 100000 in
theorem qE(os:Os)(started:os.Started)(H:Type)(enc:TypeId×Value→H):
 ReturnsInHanded {} Tryz.checked os 5 .any (Rows.frontSettlesSpec.pre6 enc Tryz.prog Tryz.f5 Rows.frontSettlesRow.domain false) (Rows.frontSettlesSpec.post enc Tryz.prog Tryz.f5 false true false false):=by
 refine yT (C:=Tryz.checked) (tb:=4) own started (by kernel_rfl) Tryz.func5
  (ChangeSpec.witness6 (enc:=enc) (C:=Tryz.checked) false ⟨#[],#[.agg #[.int .i64 0, .slice none 0 0], .slice none 0 0, .slice none 0 0],[]⟩ 8 (by kernel_rfl) (by kernel_rfl) (by kernel_rfl) (by kernel_rfl))
  rfl (fun ds hds=>by match ds,hds with| [_,_,_],_=>rfl) rfl Tryz.underlying4 aFO (fun t ht=>?_) ?_
 ·simp only[Tryz.params5,List.mem_cons,List.not_mem_nil,or_false] at ht
  rcases ht with rfl|rfl|rfl<;>exact⟨by kernel_rfl,of_decide_eq_true (by kernel_rfl)⟩
 intro W base args ds p hval hA _ _
 refine sS (P:=Tryz.prog) (congrArg Array.toList Tryz.params5) (by kernel_rfl) (fun xs hxs=>?_) W base args ds p hval hA
 match xs,hxs with
 | [x0,x1,x2],⟨h0,h1,h2,_⟩=>
  obtain⟨o,P,ws,rfl,hn⟩:=aDX (by kernel_rfl) (by kernel_rfl) h0
  obtain⟨ob,bg,rfl⟩:=aFV (by kernel_rfl) (by kernel_rfl) h1
  obtain⟨os,sc,rfl⟩:=aDZ (by kernel_rfl) (by kernel_rfl) h2
  exact vC o ob os P ws hn bg sc
theorem frontSettles_holds:Rows.FrontSettlesSaid:=
 OpenClaim.holds_of_wide 5 Tryz.f5 rfl rfl rfl rfl rfl rfl rfl ⟨rfl,rfl,rfl,rfl,rfl⟩ rfl rfl rfl rfl rfl (by kernel_rfl) Tryz.func5 (by kernel_rfl)
  (of_decide_eq_true (by kernel_rfl)) (by unfold Func.isWrapper;first|(rw[if_pos (by decide+kernel)];kernel_rfl)|(rw[if_neg (by decide+kernel)];exact⟨rfl,rfl⟩))
  (fun os started H enc _=>qE os started H enc)
end Go.Proofs.YtecepaehmojpgaaGreat
