/-
Texts of this proof,one behind the other. No conditions.
-/
import Derived.Test.YtemjhgboialjpaaGreatKd
import Derived.Test.YtemjhgboialjpaaGreatKn
open Nat renaming reduceAdd→jA,reduceSub→jB,reduceLT→jC,reduceLeDiff→jD,reduceEqDiff→jE
open Int renaming reduceToNat→jF,toNat_natCast→jG,natCast_add→jH,natCast_one→jI,natCast_zero→jJ
open List renaming length_map→jK,length_cons→jL,length_nil→jM,replicate_succ→jN,replicate_zero→jO,cons_append→jP,nil_append→jQ
set_option linter.unusedSimpArgs false
set_option linter.unusedVariables false
set_option linter.unusedSectionVars false
namespace Go.Proofs.YtemjhgboialjpaaGreat
open Go.RowKit Go.Sort
attribute [local irreducible] IntKind.wrap
abbrev bx(x:Vl):Blk:= .arr (.agg 3) [x.v]
abbrev aDd:aJ:=(((aJ.ops L.corollaryref16_Fold_r20).seq (aJ.cond (aG.slot 78) ((aJ.ops L.corollaryref16_Fold_r21).seq (aJ.ops L.corollaryref16_Fold_r22)) aJ.skip)).seq (((aJ.draw 6 L.corollaryref16_Fold_r23 L.corollaryref16_Fold_r23t).seq (aJ.cond (aG.slot 93) (aJ.ops L.corollaryref16_Fold_r24) aJ.skip)).seq ((aJ.draw 6 L.corollaryref16_Fold_r25 L.corollaryref16_Fold_r25t).seq (aJ.cond (aG.slot 103) (aJ.ops L.corollaryref16_Fold_r26) aJ.skip))))
abbrev rfS(g:Int)(o:Own)(l:List Vl)(nx b1 b2:Nat)(many sum:Int)(i:Nat):List (Nat×V):=[(0, .int .i64 g),(1,vls o l),(4, .ptr nx (.agg 3) 0 0),(7, .int .i64 many),(8, .int .i64 sum),(9, .ptr b1 (.agg 3) 0 0),(10, .ptr b2 (.agg 3) 0 0),(11, .int .i64 i)]
set_option maxRecDepth 100000 in
set_option maxHeartbeats 8000000 in
theorem aCg(g:Int)(o:Own)(l:List Vl)(hl:l.length≤1000000)(hright:∀x∈l,cY x=true)(hp:Hp)(nx nx3 b1 b2:Nat)(many sum:Int)(i:Nat)(hlt:i<l.length)(low high:Vl)(hf:gR l i many sum low high)(m1:b1<nx3)(m2:b2<nx3)(ne:b1≠b2)(hb1:hp b1=some (bx low))(hb2:hp b2=some (bx high))(hdm:aX hp nx3)(Qx:bB→St→Prop)
 (hq:∀many2 sum2 low2 high2 hp2 nx5,gR l (i+1) many2 sum2 low2 high2→nx3≤nx5→aX hp2 nx5→(∀m,m≠b1→m≠b2→hp2 m=hp m)→hp2 b1=some (bx low2)→hp2 b2=some (bx high2)→∀sl,WkL sl (aC 126 0 (rfS g o l nx b1 b2 many2 sum2 i))→Qx .normal ⟨sl,hp2,nx5⟩):
 lwp Tryz.prog (.loop L.corollaryref16_Fold_l1) (cK 4 (mN (lwp Tryz.prog aDd) Qx)) ⟨aC 126 0 (rfS g o l nx b1 b2 many sum i++[(12, .bool true),(13, .int .i64 0)]),hp,nx3⟩:=by
 have hg:(l.map Vl.v).getD i (.tup [])= .agg [.int .i64 l[i].k, .int .i64 l[i].n, .str l[i].s]:=aO Vl.v l i hlt
 have E0:=e5 hg hlt (@jK Vl V) jG Vl.fits_v
 refine aY (fun k:Nat=>aC 126 0 [(0, .int .i64 g),(1,vls o l),(4, .ptr nx (.agg 3) 0 0),(7, .int .i64 many),(8, .int .i64 sum),(9, .ptr b1 (.agg 3) 0 0),(10, .ptr b2 (.agg 3) 0 0),(11, .int .i64 i),(12, .bool (decide (l[i]∉l.take k))),(13, .int .i64 k)])
  (fun k hp2 nx4=>k≤i∧nx3≤nx4∧hp2=hp) (fun k=>i-k) 0 ⟨Nat.zero_le _,Nat.le_refl _,rfl⟩ (by simp only[WkL,aC,jH,jI,jJ,rfS,jP,jQ,List.take_zero,List.not_mem_nil,not_false_eq_true,decide_true,go_sem,reduceIte,jA,jB,jC,jD,reduceCtorEq,jE,jF]) ?_
 rintro k hp2 nx4 ⟨hk,hnx4,rfl⟩
 generalize hQ2:bU _ _ _ _ _=Q2
 simp only[aC,go_sem,reduceIte,jA,jB,jC,jD,reduceCtorEq,jE,jF]
 rcases Nat.lt_or_ge k i with hki|hki
 ·have hck:decide ((k:Int)<(i:Int))=true:=dct
  have hwk:IntKind.i64.wrap ((k:Int)+1)=((k+1:Nat):Int):=wrp
  have hkl:k<l.length:=by omega
  have hgk:(l.map Vl.v).getD k (.tup [])= .agg [.int .i64 l[k].k, .int .i64 l[k].n, .str l[k].s]:=aO Vl.v l k hkl
  have hv:=aDb l[k] l[i]
  have hnext:decide (l[i]∉l.take (k+1))=(decide (l[i]∉l.take k)&& !decide (l[k]=l[i])):=by
   rw[List.take_succ_eq_append_getElem hkl,Bool.eq_iff_iff]
   simp only[List.mem_append,List.mem_singleton,decide_eq_true_eq,Bool.and_eq_true,Bool.not_eq_true',decide_eq_false_iff_not,not_or]
   exact⟨fun h=>⟨h.1,fun e=>h.2 e.symm⟩,fun h=>⟨h.1,fun e=>h.2 e.symm⟩⟩
  have Ek:=e8 hck hwk hgk hkl hv E0 Bool.true_and Bool.false_and
  cases fr:decide (l[i]∉l.take k) with
  |true=>
   rw[fr,Bool.true_and] at hnext
   refine aue (e2 Ek fr) ?_
   rw[←hQ2]
   exact aM (k+1) (by omega) ⟨hki,by omega,rfl⟩ (by simp only[WkL,aC,jH,jI,jJ,hwk,hnext,go_sem,reduceIte,jA,jB,jC,jD,reduceCtorEq,jE,jF])
  |false=>
   rw[fr,Bool.false_and] at hnext
   refine aue (e2 Ek fr) ?_
   rw[←hQ2]
   exact aM (k+1) (by omega) ⟨hki,by omega,rfl⟩ (by simp only[WkL,aC,jH,jI,jJ,hwk,hnext,go_sem,reduceIte,jA,jB,jC,jD,reduceCtorEq,jE,jF])
 have hck:decide ((k:Int)<(i:Int))=false:=dcf
 have hke:k=i:=by omega
 subst hke
 have hst:=hf.step hlt
 have D1:=fun h=>kC l[k] low h
 have D2:=fun h=>kC high l[k] h
 have hsb:-2147483647000000≤gS (bT cQ (l.take (k+1)))∧gS (bT cQ (l.take (k+1)))≤2147483647000000:=yY (fun x hx=>hright x (List.mem_of_mem_take hx)) (by rw[List.length_take];omega)
 have hsn:=hst.sum
 have hmn:=hf.many
 have hml:=dV (c:=cQ) (l.take k)
 rw[List.length_take] at hml
 have hl1:=low.fits_v
 have hh1:=high.fits_v
 have hgv:(l.map Vl.v).getD k (.tup [])=l[k].v:=hg
 have hb1':hp2 b1=some (.arr (.agg 3) [low.v]):=hb1
 have hb2':hp2 b2=some (.arr (.agg 3) [high.v]):=hb2
 have n12:(b1=b2)=False:=eq_false ne
 have n21:(b2=b1)=False:=eq_false (fun e=>ne e.symm)
 refine aue hck ?_
 rw[←hQ2]
 clear hQ2 Q2 hck hki
 have hless:∀a b,rF a b=decide (cQ a b<0):=fun a b=>rfl
 have Ez:=e9 hb1' hb2' m1 m2 n12 n21 E0 hgv (e4 hl1 hh1 Bool.true_and Bool.false_and)
 rw[←hless,←hless] at hst
 by_cases hm:l[k]∈l.take k
 case' pos=>
  have fr:decide (l[k]∉l.take k)=false:=decide_eq_false (fun h=>h hm)
  rw[if_pos hm,if_pos hm] at hst
  have Ey:=fr
 case' neg=>
  have fr:decide (l[k]∉l.take k)=true:=decide_eq_true hm
  rw[if_neg hm,if_neg hm] at hst
  have hw3:IntKind.i64.wrap (many+1)=many+1:=wrp
  have hw4:IntKind.i64.wrap (sum+l[k].n)=sum+l[k].n:=wrp rfl (by rw[if_neg hm] at hsn;omega) (by rw[if_neg hm] at hsn;omega)
  have Ey:=e3 fr hw3 hw4
 all_goals
  cases c1:rF l[k] low<;>cases c2:rF high l[k]<;>rw[c1] at D1 hst<;>rw[c2] at D2 hst
  all_goals
   simp only[Bool.false_eq_true,if_false,if_true] at hst
   refine aue (e2 Ez Ey) ?_
   refine hq _ _ _ _ _ _ hst (by omega) (by exact dmo (aX.up hdm hnx4)) (fun m h1 h2=>by simp[Hp.set,h1,h2]) (by simp[Hp.set,n12,n21,hb1']<;>rfl) (by simp[Hp.set,n12,n21,hb2']<;>rfl) _ ?_
   simp only[WkL,aC,jH,jI,jJ,rfS,go_sem,reduceIte,jA,jB,jC,jD,reduceCtorEq,jE,jF]
abbrev aBd:aJ:=(((aJ.ops L.corollaryref16_Fold_r11).seq (aJ.block 2 (.loop L.corollaryref16_Fold_l2))).seq (((aJ.ops L.corollaryref16_Fold_r28).seq (aJ.cond (aG.slot 109) ((aJ.ops L.corollaryref16_Fold_r29).seq aJ.ret) aJ.skip)).seq (((aJ.ops L.corollaryref16_Fold_r30).seq (aJ.cond (aG.slot 112) ((aJ.ops L.corollaryref16_Fold_r31).seq aJ.ret) aJ.skip)).seq (((aJ.ops L.corollaryref16_Fold_r32).seq (aJ.cond (aG.slot 115) (aJ.ops L.corollaryref16_Fold_r33) aJ.skip)).seq (((aJ.ops L.corollaryref16_Fold_r34).seq (aJ.cond (aG.slot 122) ((aJ.ops L.corollaryref16_Fold_r35).seq aJ.ret) aJ.skip)).seq ((aJ.ops L.corollaryref16_Fold_r36).seq aJ.ret))))))
set_option maxRecDepth 100000 in
set_option maxHeartbeats 8000000 in
theorem zJ(g:Int)(o:Own)(l:List Vl)(hl:l.length≤1000000)(h1:¬g<1)(h2:¬4<g)(h3:l≠ [])(hright:∀x∈l,cY x=true)(x0:Vl)(hx0:x0∈l)(h':Hp)(nx:Nat)(hd:aX h' nx)(hp2:Hp)(n2 b1 b2:Nat)(n1:nx+1≤b1∧b1<n2)(n3:nx+1≤b2∧b2<n2)(n4:nx+1≤n2)(ne:b1≠b2)
 (h6:hp2 b1=some (bx x0)) (h7:hp2 b2=some (bx x0)) (dm:aX hp2 n2) (hbx2:hp2 nx=some (.arr (.agg 3) [zvl])) (hsm2:Hp.same nx h' hp2):
 lwp Tryz.prog aBd (qM [pG.cell 4 (Sh.agg 3),pG.slot 5] fun v' h'' x=>v'=V.tup [(cH g l).1.v,V.int IntKind.i64 (cH g l).2]∧h''=h')
  ⟨aC 126 0 [(0, .int .i64 g),(1,vls o l),(4, .ptr nx (.agg 3) 0 0),(7, .int .i64 0),(8, .int .i64 0),(9, .ptr b1 (.agg 3) 0 0),(10, .ptr b2 (.agg 3) 0 0)],hp2,n2⟩:=by
 have hgr:¬(g<1∨4<g):=by omega
 have hzf:V.fits (.agg 3) zvl=true:=rfl
 simp only[aC,go_sem,reduceIte,jA,jB,jC,jD,reduceCtorEq,jE,jF]
 refine au ?_
 refine aY (fun q:Nat×Int×Int=>aC 126 0 [(0, .int .i64 g),(1,vls o l),(4, .ptr nx (.agg 3) 0 0),(7, .int .i64 q.2.1),(8, .int .i64 q.2.2),(9, .ptr b1 (.agg 3) 0 0),(10, .ptr b2 (.agg 3) 0 0),(11, .int .i64 q.1)])
  (fun q hp nx3=>q.1≤l.length∧n2≤nx3∧aX hp nx3∧Hp.same nx h' hp∧hp nx=some (.arr (.agg 3) [zvl])∧(g=2→∀x∈l.take q.1,x.k=1)∧∃low high,gR l q.1 q.2.1 q.2.2 low high∧hp b1=some (bx low)∧hp b2=some (bx high))
  (fun q=>l.length-q.1) (0,0,0) ⟨Nat.zero_le _,by first|omega|(dsimp only;omega),dmo dm,hsm2,hbx2,by simp,x0,x0,gR.zero hx0,h6,h7⟩ (by simp only[WkL,aC,jH,jI,jJ,go_sem,reduceIte,jA,jB,jC,jD,reduceCtorEq,jE,jF]) ?_
 rintro⟨i,many,sum⟩ hp nx3 ⟨hi,hnx3,hdm,hsm,hbx,hone,low,high,hf,hb1,hb2⟩
 generalize hQ:bU _ _ _ _ _=Q0
 dsimp only at hi hone hf
 simp only[aC,go_sem,reduceIte,jA,jB,jC,jD,reduceCtorEq,jE,jF]
 have m1:b1<nx3:=by omega
 have m2:b2<nx3:=by omega
 have m0:nx<nx3:=by omega
 rcases Nat.lt_or_ge i l.length with hlt|hge
 ·have hc:decide ((i:Int)<(l.length:Int))=true:=dct
  have hw:IntKind.i64.wrap ((i:Int)+1)=((i+1:Nat):Int):=wrp
  have hg:(l.map Vl.v).getD i (.tup [])= .agg [.int .i64 l[i].k, .int .i64 l[i].n, .str l[i].s]:=aO Vl.v l i hlt
  have E0:=e6 hc hg hlt (@jK Vl V) jG Vl.fits_v
  have hbad:(g==2)=true→(l[i].k != 1)=true→cH g l=(dF,7):=fun k1 k2=>by
   have k1:g=2:=by simpa using k1
   have k2:l[i].k≠1:=by simpa using k2
   unfold cH
   rw[if_neg hgr,if_neg h3,if_neg (fun k=>k hright),if_pos ⟨k1,fun k=>k2 (k _ (List.getElem_mem hlt))⟩]
  have tst:((g==2)=true∧(l[i].k != 1)=true)∨((g==2)=true∧(l[i].k != 1)=false)∨(g==2)=false:=by
   cases (g==2)<;>cases (l[i].k != 1)<;>simp
  rcases tst with⟨c5,kb⟩|⟨c5,kb⟩|c5
  ·refine aue (e6 c5 kb E0 hbx m0 hzf) ?_
   rw[←hQ]
   refine au ?_
   refine aQ (by simp only[go_sem,reduceIte,jA,jB,jC,jD,reduceCtorEq,jE,jF]) h' (lef hd (hsm.le hd (Hp.le_refl _))) ⟨?_,rfl⟩
   simp only[go_sem,reduceIte,jA,jB,jC,jD,reduceCtorEq,jE,jF]
   rw[hbad c5 kb];rfl
  case' inr.inl=>
   have E1:=e2 c5 kb
   have hk1:g=2→l[i].k=1:=fun _=>by simpa using kb
  case' inr.inr=>
   have E1:=c5
   have hk1:g=2→l[i].k=1:=fun e=>by simp[e] at c5
  all_goals
   have hone2:g=2→∀x∈l.take (i+1),x.k=1:=fun e y hy=>by
    rw[List.take_succ_eq_append_getElem hlt] at hy
    rcases List.mem_append.1 hy with hy|hy
    ·exact hone e y hy
    rw[List.mem_singleton.1 hy];exact hk1 e
   refine aue (e2 E0 E1) ?_
   clear E1 hk1
   refine oW (s':=⟨aC 126 0 (rfS g o l nx b1 b2 many sum i++[(12, .bool true),(13, .int .i64 0)]),hp,nx3⟩) (Wk.tell ⟨by simp only[WkL,aC,jH,jI,jJ,rfS,jP,jQ,go_sem,reduceIte,jA,jB,jC,jD,reduceCtorEq,jE,jF],Hp.le_refl _,by first|exact Nat.le_refl _|(dsimp only;omega)⟩) ?_
   refine aCg g o l hl hright hp nx nx3 b1 b2 many sum i hlt low high hf m1 m2 ne hb1 hb2 hdm _ ?_
   intro many2 sum2 low2 high2 hp2 nx5 hf2 hn5 hd5 hk5 hb1' hb2' sl hsl
   refine bI (iR ⟨aC 126 0 (rfS g o l nx b1 b2 many2 sum2 i),hp2,nx5⟩ ⟨hsl,Hp.le_refl _,Nat.le_refl _⟩ ?_)
   simp only[aC,go_sem,reduceIte,jA,jB,jC,jD,reduceCtorEq,jE,jF]
   refine aue hw ?_
   rw[←hQ]
   exact aM (i+1,many2,sum2) (by dsimp only;omega) ⟨hlt,by omega,hd5,fun m hm=>by rw[hk5 m (by omega) (by omega)];exact hsm m hm,by rw[hk5 nx (by omega) (by omega)];exact hbx,hone2,low2,high2,hf2,hb1',hb2'⟩ (by simp only[WkL,aC,jH,jI,jJ,hw,go_sem,reduceIte,jA,jB,jC,jD,reduceCtorEq,jE,jF])
 have hc:decide ((i:Int)<(l.length:Int))=false:=dcf
 have hie:i=l.length:=by omega
 subst hie
 rw[List.take_length] at hone
 have hdone:=hf.done hgr hright hone
 refine aue hc ?_
 rw[←hQ]
 have hmb:many≤1000000∧0≤many:=by
  have:=hf.many
  have:=dV (c:=cQ) (l.take l.length)
  rw[List.length_take] at this
  omega
 have hlf:=low.fits_v
 have hhf:=high.fits_v
 have E1:=e8 hb1 hb2 hbx m0 m1 m2 hzf Vl.fits_v
 cases c3:(g==3) with
 |true=>
  have g3:g=3:=by simpa using c3
  rw[if_pos g3] at hdone
  refine aue (e2 c3 E1) ?_
  refine aQ (by simp only[Vl.fits_v,aL (Vl.fits_v _),aN hzf (Vl.fits_v _),go_sem,reduceIte,jA,jB,jC,jD,reduceCtorEq,jE,jF]) h' (lef hd (hsm.le hd (Hp.le_refl _))) ⟨?_,rfl⟩
  simp only[Vl.fits_v,aL (Vl.fits_v _),aN hzf (Vl.fits_v _),go_sem,reduceIte,jA,jB,jC,jD,reduceCtorEq,jE,jF]
  rw[hdone]
 |false=>
 have g3:g≠3:=by simpa using c3
 rw[if_neg g3] at hdone
 cases c4:(g==4) with
 |true=>
  have g4:g=4:=by simpa using c4
  rw[if_pos g4] at hdone
  refine aue (e3 c3 c4 E1) ?_
  refine aQ (by simp only[Vl.fits_v,aL (Vl.fits_v _),aN hzf (Vl.fits_v _),go_sem,reduceIte,jA,jB,jC,jD,reduceCtorEq,jE,jF]) h' (lef hd (hsm.le hd (Hp.le_refl _))) ⟨?_,rfl⟩
  simp only[Vl.fits_v,aL (Vl.fits_v _),aN hzf (Vl.fits_v _),go_sem,reduceIte,jA,jB,jC,jD,reduceCtorEq,jE,jF]
  rw[hdone]
 |false=>
 have g4:g≠4:=by simpa using c4
 rw[if_neg g4] at hdone
 cases c5:(g==1) with
 |true=>
  have g1:g=1:=by simpa using c5
  rw[if_pos g1] at hdone
  have k1:decide (2147483647<many)=false:=dcf
  have k2:decide (many< -2147483647)=false:=dcf
  refine aue (e6 c3 c4 c5 k1 k2 E1) ?_
  refine aQ (by simp only[Vl.fits_v,aL (Vl.fits_v _),aN hzf (Vl.fits_v _),go_sem,reduceIte,jA,jB,jC,jD,reduceCtorEq,jE,jF]) h' (lef hd (hsm.le hd (Hp.le_refl _))) ⟨?_,rfl⟩
  simp only[Vl.fits_v,aL (Vl.fits_v _),aN hzf (Vl.fits_v _),go_sem,reduceIte,jA,jB,jC,jD,reduceCtorEq,jE,jF]
  have:fH many=true:=decide_eq_true (by omega)
  rw[hdone,ofV,if_pos this];rfl
 |false=>
 have g1:g≠1:=by simpa using c5
 rw[if_neg g1] at hdone
 cases k1:decide (2147483647<sum) with
 |true=>
  have:=of_decide_eq_true k1
  have hbn:¬fH sum=true:=by simp only[fH,decide_eq_true_eq];omega
  refine aue (e5 c3 c4 c5 k1 E1) ?_
  refine aQ (by simp only[Vl.fits_v,aL (Vl.fits_v _),aN hzf (Vl.fits_v _),go_sem,reduceIte,jA,jB,jC,jD,reduceCtorEq,jE,jF]) h' (lef hd (hsm.le hd (Hp.le_refl _))) ⟨?_,rfl⟩
  simp only[Vl.fits_v,aL (Vl.fits_v _),aN hzf (Vl.fits_v _),go_sem,reduceIte,jA,jB,jC,jD,reduceCtorEq,jE,jF]
  rw[hdone,ofV,if_neg hbn];rfl
 |false=>
 have:=of_decide_eq_false k1
 cases k2:decide (sum< -2147483647) with
 |true=>
  have:=of_decide_eq_true k2
  have hbn:¬fH sum=true:=by simp only[fH,decide_eq_true_eq];omega
  refine aue (e6 c3 c4 c5 k1 k2 E1) ?_
  refine aQ (by simp only[Vl.fits_v,aL (Vl.fits_v _),aN hzf (Vl.fits_v _),go_sem,reduceIte,jA,jB,jC,jD,reduceCtorEq,jE,jF]) h' (lef hd (hsm.le hd (Hp.le_refl _))) ⟨?_,rfl⟩
  simp only[Vl.fits_v,aL (Vl.fits_v _),aN hzf (Vl.fits_v _),go_sem,reduceIte,jA,jB,jC,jD,reduceCtorEq,jE,jF]
  rw[hdone,ofV,if_neg hbn];rfl
 |false=>
  have:=of_decide_eq_false k2
  have hbn:fH sum=true:=by simp only[fH,decide_eq_true_eq];omega
  refine aue (e6 c3 c4 c5 k1 k2 E1) ?_
  refine aQ (by simp only[Vl.fits_v,aL (Vl.fits_v _),aN hzf (Vl.fits_v _),go_sem,reduceIte,jA,jB,jC,jD,reduceCtorEq,jE,jF]) h' (lef hd (hsm.le hd (Hp.le_refl _))) ⟨?_,rfl⟩
  simp only[Vl.fits_v,aL (Vl.fits_v _),aN hzf (Vl.fits_v _),go_sem,reduceIte,jA,jB,jC,jD,reduceCtorEq,jE,jF]
  rw[hdone,ofV,if_pos hbn];rfl
end Go.Proofs.YtemjhgboialjpaaGreat
