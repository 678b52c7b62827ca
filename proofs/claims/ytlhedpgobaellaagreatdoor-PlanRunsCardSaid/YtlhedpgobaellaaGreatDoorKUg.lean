/-
The row and the tied card of PlanRuns. No conditions.
-/
import Derived.Test.YtlhedpgobaellaaGreatDoorKq
import Derived.Test.YtlhedpgobaellaaGreatDoorKUf
set_option linter.all false
set_option maxHeartbeats 8000000
namespace Go.Proofs.YtlhedpgobaellaaGreatDoor
open Go.ChangeShapes Go.WideShapes Go.ChangeAt Go.RowKit
theorem ju:Rows.PlanRunsSaid:=
 OpenClaim.holds_of_wide 6 Tryz.f6 rfl rfl rfl rfl rfl rfl rfl ⟨rfl,rfl,rfl,rfl,rfl⟩ rfl rfl rfl rfl rfl Zz Tryz.func6 aj
  (of_decide_eq_true Zz) (by unfold Func.isWrapper;first|(rw[if_pos (by decide+kernel)];kernel_rfl)|(rw[if_neg (by decide+kernel)];exact⟨rfl,rfl⟩))
  (fun os started H enc _=>ai os started H enc)
theorem planRuns_card:Rows.PlanRunsCardSaid:=
 Claim7.holds_tied_plain_at .later [] [.data, .data, .data, .sentinel, .sentinel, .widerDeep, .data, .widerDeep, .widerDeep] true (true, "385518114c7b768df11bb572b31ca261b5a840ba17dd4de1c26d80313fb92457") true
  ju (fun _ h=>by cases h) Zz (fun _ h=>by cases h) planRuns_row_tie rfl ⟨rfl,rfl⟩ Zz rfl
  (fun f fn hf hfn=>by
    obtain rfl:f=6:=Option.some.inj ((show Tryz.prog.funcNamed "corollary/corollarylaw18.PlanRuns" =some 6 by kernel_rfl).symm.trans hf)|>.symm
    obtain rfl:fn=Tryz.f6:=(Option.some.inj (Tryz.func6.symm.trans hfn)).symm;exact⟨Zz,fun j t ht=>by
     rw[Tryz.params6] at ht;have hm:=Array.mem_of_getElem? ht;simp only[List.mem_toArray,List.mem_cons,List.not_mem_nil,or_false] at hm;rcases hm with rfl|rfl<;>exact(show Tryz.prog.wantsStandIn _=false by kernel_rfl)⟩)
  Zz
end Go.Proofs.YtlhedpgobaellaaGreatDoor
