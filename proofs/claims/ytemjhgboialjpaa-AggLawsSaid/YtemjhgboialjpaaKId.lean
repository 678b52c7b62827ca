/-
corollarylaw16.AggLaws returns true for every input,and leaves its arguments as they were. Conditions:none.
-/
import Derived.Test.YtemjhgboialjpaaKIc
set_option linter.unusedSimpArgs false
set_option linter.unusedVariables false
set_option linter.unusedSectionVars false
namespace Go.Proofs.Ytemjhgboialjpaa
open Go.ChangeShapes Go.WideShapes Go.ChangeAt Go.RowKit Go.Sort
set_option maxRecDepth 100000 in
theorem rL(os:Os)(started:os.Started)(H:Type)(enc:TypeId×Value→H):
 ReturnsInHanded {} Try.checked os 4 .any (Rows.aggLawsSpec.pre6 enc Try.prog Try.f4 Rows.aggLawsRow.domain false) (Rows.aggLawsSpec.post enc Try.prog Try.f4 false true false false):=by
 refine yG (C:=Try.checked) (tb:=4) own started (by kernel_rfl) Try.func4
  (ChangeSpec.witness6 (enc:=enc) (C:=Try.checked) false ⟨#[],#[.int .i64 0, .int .i64 0, .slice none 0 0],[]⟩ 8 (by kernel_rfl) (by kernel_rfl) (by kernel_rfl) (by kernel_rfl))
  rfl (fun ds hds=>by match ds,hds with| [_,_,_],_=>rfl) rfl Try.underlying4 aCt (fun t ht=>?_) ?_
 ·simp only[Try.params4,List.mem_cons,List.not_mem_nil,or_false] at ht
  rcases ht with rfl|rfl|rfl<;>exact⟨by kernel_rfl,of_decide_eq_true (by kernel_rfl)⟩
 intro W base args ds p hval hA _ _
 refine uJ (P:=Try.prog) (congrArg Array.toList Try.params4) (by kernel_rfl) (fun xs hxs=>?_) W base args ds p hval hA
 match xs,hxs with
 | [x0,x1,x2],⟨h0,h1,h2,_⟩=>
  obtain⟨g,rfl⟩:=wY (k:= .i64) (by kernel_rfl) (by kernel_rfl) h0
  obtain⟨c,rfl⟩:=wY (k:= .i64) (by kernel_rfl) (by kernel_rfl) h1
  obtain⟨o,l,_,hl,rfl⟩:=aCC (by kernel_rfl) (by kernel_rfl) h2
  exact xB g c o l fun p hp=>(hl p hp).1
theorem aggLaws_holds:Rows.AggLawsSaid:=
 OpenClaim.holds_of_wide 4 Try.f4 rfl rfl rfl rfl rfl rfl rfl ⟨rfl,rfl,rfl,rfl,rfl⟩ rfl rfl rfl rfl rfl (by kernel_rfl) Try.func4 (by kernel_rfl)
  (of_decide_eq_true (by kernel_rfl)) (by unfold Func.isWrapper;first|(rw[if_pos (by decide+kernel)];kernel_rfl)|(rw[if_neg (by decide+kernel)];exact⟨rfl,rfl⟩))
  (fun os started H enc _=>rL os started H enc)
end Go.Proofs.Ytemjhgboialjpaa
