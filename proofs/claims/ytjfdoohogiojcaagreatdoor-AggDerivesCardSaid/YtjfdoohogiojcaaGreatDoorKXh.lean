/-
The row and the tied card of AggDerives. No conditions.
-/
import Derived.Test.YtjfdoohogiojcaaGreatDoorKt
import Derived.Test.YtjfdoohogiojcaaGreatDoorKXi
import Derived.Test.YtjfdoohogiojcaaGreatDoorCards
import Derived.Test.YtjfdoohogiojcaaGreatDoorTie
import Derived.SevenTiedAt
set_option linter.unusedSimpArgs false
set_option linter.unusedVariables false
set_option linter.unusedSectionVars false
set_option maxHeartbeats 8000000
namespace Go.Proofs.YtjfdoohogiojcaaGreatDoor
open Go.ChangeShapes Go.WideShapes Go.ChangeAt Go.RowKit
theorem wD:Rows.AggDerivesSaid:=
 OpenClaim.holds_of_wide 3 Tryz.f3 rfl rfl rfl rfl rfl rfl rfl ⟨rfl,rfl,rfl,rfl,rfl⟩ rfl rfl rfl rfl rfl Zz Tryz.func3 tB
  (of_decide_eq_true Zz) (by unfold Func.isWrapper;first|(rw[if_pos (by decide+kernel)];kernel_rfl)|(rw[if_neg (by decide+kernel)];exact⟨rfl,rfl⟩))
  (fun os started H enc _=>tA os started H enc)
theorem aggDerives_card:Rows.AggDerivesCardSaid:=
 Claim7.holds_tied_plain_at .later [] [.data, .data, .data, .sentinel, .sentinel, .widerDeep, .data] true (true, "ed024869d343557947771dca2f9051530f987a997afbe28e230a053670c65f5e") true
  wD (fun _ h=>by cases h) Zz (fun _ h=>by cases h) aggDerives_row_tie rfl ⟨rfl,rfl⟩ Zz rfl
  (fun f fn hf hfn=>by
    obtain rfl:f=3:=Option.some.inj ((show Tryz.prog.funcNamed "corollary/corollarylaw16.AggDerives" =some 3 by kernel_rfl).symm.trans hf)|>.symm
    obtain rfl:fn=Tryz.f3:=(Option.some.inj (Tryz.func3.symm.trans hfn)).symm;exact⟨Zz,fun j t ht=>by
     rw[Tryz.params3] at ht;have hm:=Array.mem_of_getElem? ht;simp only[List.mem_toArray,List.mem_cons,List.not_mem_nil,or_false] at hm;rcases hm with rfl|rfl<;>exact(show Tryz.prog.wantsStandIn _=false by kernel_rfl)⟩)
  Zz
end Go.Proofs.YtjfdoohogiojcaaGreatDoor
