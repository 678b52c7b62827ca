/-
corollarylaw16.AggGroups:the walk. Conditions:none.
-/
import Derived.Test.YtemjhgboialjpaaGreatKd
import Derived.Test.YtemjhgboialjpaaGreatKs
import Derived.Test.YtemjhgboialjpaaGreatKh
set_option linter.unusedSimpArgs false
set_option linter.unusedVariables false
set_option linter.unusedSectionVars false
namespace Go.Proofs.YtemjhgboialjpaaGreat
open Go.RowKit Go.Sort
attribute [local irreducible] IntKind.wrap
theorem aDV(ls:List (List Vl)):(ls.map fun t=>((.free,t):TR)).map TR.v=lsV ls∧aK (ls.map fun t=>((.free,t):TR))=ls:=by
 constructor
 ·simp only[lsV,List.map_map,Function.comp_def];rfl
 simp[aK,Function.comp_def]
theorem sY(g col:Int)(o:Own)(l:List TR)(hok:∀p∈l,p.ok∧∀x∈p.2,x.sm):bH Tryz.prog 3 [.int .i64 g, .int .i64 col,tps o l] Hp.none (.bool true):=by
 refine aT (fun L=>trivial) fun h' nx hh=>aF L.corollarylaw16_AggGroups_low fun hd=>?_
 simp only[List.length_cons,List.length_nil,Nat.reduceAdd,Nat.reduceSub,List.replicate_succ,List.replicate_zero,List.cons_append,List.nil_append,V.undef]
 have C1:=fun h=>wN h
 have C2:=fun h=>xU o l h
 cases hL:vY (aK l) with
 |true=>
  rw[hL] at C2
  refine au ?_
  exact aD h' (leo hd) ⟨rfl,rfl⟩
 |false=>
 rw[hL] at C2
 have hrl:(aK l).length=l.length:=List.length_map ..
 simp only[vY,hrl,Bool.or_eq_false_iff,decide_eq_false_iff_not] at hL
 have hl:l.length≤60:=by omega
 have h50:∀p∈l,p.2.length≤50:=fun p hp=>tT _ _ hL.2 p.2 (List.mem_map.2 ⟨p,hp,rfl⟩)
 have C3:=fun h=>xD g col o l (by omega) (fun p hp=>by have:=h50 p hp;omega) (fun p hp=>(hok p hp).2) h
 refine au ?_
 refine bD ((pN g col o l (by omega) (fun p hp=>⟨by have:=h50 p hp;omega,(hok p hp).1⟩) _ _).dom.mono ?_)
 rintro v h2 nx2 hnx2 ⟨⟨za,rfl,hza,hoa,rfl⟩,hd2,_⟩
 dsimp only at hnx2 hd2
 unfold dK
 simp only[go_sem,reduceIte,Nat.reduceAdd,Nat.reduceSub,Nat.reduceLT,Nat.reduceLeDiff,reduceCtorEq,Nat.reduceEqDiff,Int.reduceToNat]
 obtain⟨oa,hoa2⟩:=iV .leaf (za.map TR.v)
 rw[hoa2]
 have hgl:=aAb g col 50 (aK l) (fun t ht=>by
  obtain⟨p,hp,rfl⟩:=List.mem_map.1 ht
  exact h50 p hp)
 generalize bE g col (aK l)=G at hza hgl C3⊢
 obtain⟨ls,n⟩:=G
 dsimp only at hza hgl C3⊢
 obtain⟨ow,how⟩:=iV .leaf (lsV ls)
 rw[how] at C3
 have hrv:=aDV ls
 rw[←hrv.1] at C3
 clear C1 C2
 have C1:=fun h=>aBk n h
 have hzl:za.length≤60:=by
  have h1:=hgl.2
  have h2:=congrArg List.length hza
  have h3:(aK za).length=za.length:=List.length_map ..
  omega
 have hz50:∀p∈za,p.2.length≤1000000000:=fun p hp=>by
  have:=hgl.1 p.2 (by rw[←hza];exact List.mem_map.2 ⟨p,hp,rfl⟩)
  omega
 have C2:=fun h=>kJ oa ow za (ls.map fun t=>((.free,t):TR)) (by omega) hz50 h
 rw[decide_eq_true (show aK za=aK (ls.map fun t=>((.free,t):TR)) by rw[hrv.2,hza])] at C2
 have hnn:(n==n)=true:=by simp
 refine aue hnn ?_
 exact aD h2 (by first|exact Hp.le_refl _|exact leo hd2) ⟨rfl,rfl⟩
end Go.Proofs.YtemjhgboialjpaaGreat
