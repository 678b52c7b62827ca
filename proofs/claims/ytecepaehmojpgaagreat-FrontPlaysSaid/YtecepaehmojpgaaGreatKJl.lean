/-
corollarylaw24.FrontPlays returns true for every input,and leaves its arguments as they were. Conditions:none.
-/
import Derived.Test.YtecepaehmojpgaaGreatKJj
import Derived.Test.YtecepaehmojpgaaGreatKt
set_option linter.unusedSimpArgs false
set_option linter.unusedVariables false
set_option linter.unusedSectionVars false
set_option maxHeartbeats 8000000
namespace Go.Proofs.YtecepaehmojpgaaGreat
open Go.ChangeShapes Go.WideShapes Go.ChangeAt Go.RowKit Go.Sort
set_option maxRecDepth 100000 in
theorem xY(os:Os)(started:os.Started)(H:Type)(enc:TypeId×Value→H):
 ReturnsInHanded {} Tryz.checked os 6 .any (Rows.frontPlaysSpec.pre6 enc Tryz.prog Tryz.f6 Rows.frontPlaysRow.domain false) (Rows.frontPlaysSpec.post enc Tryz.prog Tryz.f6 false true false false):=by
 refine Am (C:=Tryz.checked) (tb:=4) own started Zz Tryz.func6
  (ChangeSpec.witness6 (enc:=enc) (C:=Tryz.checked) false ⟨#[],#[.agg #[.int .i64 0, .slice none 0 0], .slice none 0 0, .slice none 0 0],[]⟩ 8 Zz Zz Zz Zz)
  rfl (fun ds hds=>by match ds,hds with| [_,_,_],_=>rfl) rfl Tryz.underlying4 EF (fun t ht=>?_) ?_
 ·simp only[Tryz.params6,List.mem_cons,List.not_mem_nil,or_false] at ht;rcases ht with rfl|rfl|rfl<;>exact⟨Zz,of_decide_eq_true Zz⟩
 intro W base args ds p aDC hA _ _;refine ro (P:=Tryz.prog) (congrArg Array.toList Tryz.params6) Zz (fun xs hxs=>?_) W base args ds p aDC hA;match xs,hxs with
 | [x0,x1,x2],⟨h0,h1,h2,_⟩=>
  obtain⟨o,P,ws,rfl,hn⟩:=Ea Zz Zz h0;obtain⟨ob,bg,rfl⟩:=EV Zz Zz h1;obtain⟨os,sc,rfl⟩:=Eb Zz Zz h2;exact iu o ob os P ws hn bg sc
theorem frontPlays_holds:Rows.FrontPlaysSaid:=
 OpenClaim.holds_of_wide 6 Tryz.f6 rfl rfl rfl rfl rfl rfl rfl ⟨rfl,rfl,rfl,rfl,rfl⟩ rfl rfl rfl rfl rfl Zz Tryz.func6 Zz
  (of_decide_eq_true Zz) (by unfold Func.isWrapper;first|(rw[if_pos (by decide+kernel)];kernel_rfl)|(rw[if_neg (by decide+kernel)];exact⟨rfl,rfl⟩))
  (fun os started H enc _=>xY os started H enc)
end Go.Proofs.YtecepaehmojpgaaGreat
