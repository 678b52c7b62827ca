/-
corollarylaw23.CountSums returns true for every input,and leaves its arguments as they were. Conditions:none.
-/
import Derived.Test.YthikfnmcjipobaaGreatKn
import Derived.Test.YthikfnmcjipobaaGreatKi
namespace Go.Proofs.YthikfnmcjipobaaGreat
set_option linter.unusedSimpArgs false
set_option linter.unusedVariables false
set_option linter.unusedSectionVars false
open Go.ChangeShapes Go.WideShapes Go.ChangeAt Go.RowKit Go.Sort
theorem aGR{v:V}(hf:v.fits (.agg 3)=true)(h:∀i,i<3→(([AT.int .i64,AT.int .i64,AT.int .i64]:List AT).getD i .bool).ok (v.cell i)):∃t:Sp,v=t.v:=by
 cases v with
 |agg cs=>
  simp only[V.fits,Bool.and_eq_true,decide_eq_true_eq] at hf
  match cs,hf.1 with
  | [a,b,c],_=>
   obtain⟨x,hx⟩:=sH (h 0 (by omega))
   obtain⟨y,hy⟩:=sH (h 1 (by omega))
   obtain⟨z,hz⟩:=sH (h 2 (by omega))
   refine⟨⟨x,⟨y,z⟩⟩,?_⟩
   have e1:a= .int .i64 x:=hx
   have e2:b= .int .i64 y:=hy
   have e3:c= .int .i64 z:=hz
   rw[e1,e2,e3];rfl
 |_=>simp[V.fits] at hf
theorem aHb{v:V}(hf:v.fits (.agg 4)=true)(h:∀i,i<4→(([AT.int .i64,AT.int .i64,AT.int .i64,AT.int .i64]:List AT).getD i .bool).ok (v.cell i)):∃t:Cg,v=t.v:=by
 cases v with
 |agg cs=>
  simp only[V.fits,Bool.and_eq_true,decide_eq_true_eq] at hf
  match cs,hf.1 with
  | [a,b,c,d],_=>
   obtain⟨x,hx⟩:=sH (h 0 (by omega))
   obtain⟨y,hy⟩:=sH (h 1 (by omega))
   obtain⟨z,hz⟩:=sH (h 2 (by omega))
   obtain⟨w,hw⟩:=sH (h 3 (by omega))
   refine⟨⟨⟨x,⟨y,z⟩⟩,w⟩,?_⟩
   have e1:a= .int .i64 x:=hx
   have e2:b= .int .i64 y:=hy
   have e3:c= .int .i64 z:=hz
   have e4:d= .int .i64 w:=hw
   rw[e1,e2,e3,e4];rfl
 |_=>simp[V.fits] at hf
theorem aFN{P:Program}{t:TypeId}{x:V}(ek:fJ P t=some (.agg 3))(ea:mC P 12 t=some [.int .i64, .int .i64, .int .i64])(h:aAG P t x):∃s:Sp,x=s.v:=
 have⟨h1,_,h3⟩:=aGo ek ea h
 aGR h1 h3
theorem aGn{P:Program}{t:TypeId}{x:V}(ek:fJ P t=some .leaf)(ea:mC P 12 t=some [.sl (.agg 4) [.int .i64, .int .i64, .int .i64, .int .i64]])(h:aAG P t x):∃own l,x=cgs own l:=by
 cases aFO ek ea h with
 |nil=>exact⟨.nil,[],rfl⟩
 |sl _ _ vs hl hf hc=>
  obtain⟨l,rfl⟩:=aDF Cg.v vs (fun v hv=>aHb (hf v hv) (hc v hv))
  exact⟨.free,l,rfl⟩
set_option maxRecDepth 100000 in
theorem vS(os:Os)(started:os.Started)(H:Type)(enc:TypeId×Value→H):
 ReturnsInHanded {} Tryz.checked os 3 .any (Rows.countSumsSpec.pre6 enc Tryz.prog Tryz.f3 Rows.countSumsRow.domain false) (Rows.countSumsSpec.post enc Tryz.prog Tryz.f3 false true false false):=by
 refine aDe (C:=Tryz.checked) (tb:=4) own started (by kernel_rfl) Tryz.func3
  (ChangeSpec.witness6 (enc:=enc) (C:=Tryz.checked) false ⟨#[],#[.slice none 0 0, .agg #[.int .i64 0, .int .i64 0, .int .i64 0], .agg #[.int .i64 0, .int .i64 0, .int .i64 0]],[]⟩ 8 (by kernel_rfl) (by kernel_rfl) (by kernel_rfl) (by kernel_rfl))
  rfl (fun ds hds=>by match ds,hds with| [_,_,_],_=>rfl) rfl Tryz.underlying4 aGf (fun t ht=>?_) ?_
 ·simp only[Tryz.params3,List.mem_cons,List.not_mem_nil,or_false] at ht
  rcases ht with rfl|rfl|rfl<;>exact⟨by kernel_rfl,of_decide_eq_true (by kernel_rfl)⟩
 intro W base args ds p hval hA _ _
 refine aBa (P:=Tryz.prog) (congrArg Array.toList Tryz.params3) (by kernel_rfl) (fun xs hxs=>?_) W base args ds p hval hA
 match xs,hxs with
 | [x0,x1,x2],⟨h0,h1,h2,_⟩=>
  obtain⟨o,l,rfl⟩:=aGn (by kernel_rfl) (by kernel_rfl) h0
  obtain⟨a,rfl⟩:=aFN (by kernel_rfl) (by kernel_rfl) h1
  obtain⟨b,rfl⟩:=aFN (by kernel_rfl) (by kernel_rfl) h2
  exact zU o l a b _
theorem countSums_holds:Rows.CountSumsSaid:=
 OpenClaim.holds_of_wide 3 Tryz.f3 rfl rfl rfl rfl rfl rfl rfl ⟨rfl,rfl,rfl,rfl,rfl⟩ rfl rfl rfl rfl rfl (by kernel_rfl) Tryz.func3 (by kernel_rfl)
  (of_decide_eq_true (by kernel_rfl)) (by unfold Func.isWrapper;first|(rw[if_pos (by decide+kernel)];kernel_rfl)|(rw[if_neg (by decide+kernel)];exact⟨rfl,rfl⟩))
  (fun os started H enc _=>vS os started H enc)
end Go.Proofs.YthikfnmcjipobaaGreat
