/-
The row and the tied card of JoinMore. No conditions.
-/
import Derived.Test.YtlhedpgobaellaaGreatDoorKq
import Derived.Test.YtlhedpgobaellaaGreatDoorKSm
set_option linter.all false
set_option maxHeartbeats 8000000
namespace Go.Proofs.YtlhedpgobaellaaGreatDoor
open Go.ChangeShapes Go.WideShapes Go.ChangeAt Go.RowKit
theorem iv:Rows.JoinMoreSaid:=
 OpenClaim.holds_of_wide 5 Tryz.f5 rfl rfl rfl rfl rfl rfl rfl ⟨rfl,rfl,rfl,rfl,rfl⟩ rfl rfl rfl rfl rfl Zz Tryz.func5 zF
  (of_decide_eq_true Zz) (by unfold Func.isWrapper;first|(rw[if_pos (by decide+kernel)];kernel_rfl)|(rw[if_neg (by decide+kernel)];exact⟨rfl,rfl⟩))
  (fun os started H enc _=>zE os started H enc)
theorem joinMore_card:Rows.JoinMoreCardSaid:=
 Claim7.holds_tied_plain_at .later [] [.data, .data, .data, .sentinel, .sentinel, .widerDeep, .data, .widerDeep, .widerDeep] true (true, "385518114c7b768df11bb572b31ca261b5a840ba17dd4de1c26d80313fb92457") true
  iv (fun _ h=>by cases h) Zz (fun _ h=>by cases h) joinMore_row_tie rfl ⟨rfl,rfl⟩ Zz rfl
  (fun f fn hf hfn=>by
    obtain rfl:f=5:=Option.some.inj ((show Tryz.prog.funcNamed "corollary/corollarylaw15.JoinMore" =some 5 by kernel_rfl).symm.trans hf)|>.symm
    obtain rfl:fn=Tryz.f5:=(Option.some.inj (Tryz.func5.symm.trans hfn)).symm;exact⟨Zz,fun j t ht=>by
     rw[Tryz.params5] at ht;have hm:=Array.mem_of_getElem? ht;simp only[List.mem_toArray,List.mem_cons,List.not_mem_nil,or_false] at hm;rcases hm with rfl|rfl|rfl<;>exact(show Tryz.prog.wantsStandIn _=false by kernel_rfl)⟩)
  Zz
end Go.Proofs.YtlhedpgobaellaaGreatDoor
