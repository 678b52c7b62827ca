/-
Texts of this proof,one behind the other. No conditions.
-/
import Derived.Test.YthikfnmcjipobaaGreatKn
import Derived.Test.YthikfnmcjipobaaGreatKi
import Derived.Test.YthikfnmcjipobaaGreatKo
/-
corollarylaw23.CountSums returns true for every input,and leaves its arguments as they were. Conditions:none.
-/
namespace Go.Proofs.YthikfnmcjipobaaGreat
set_option linter.unusedSimpArgs false
set_option linter.unusedVariables false
set_option linter.unusedSectionVars false
open Go.ChangeShapes Go.WideShapes Go.ChangeAt Go.RowKit Go.Sort
theorem aHH{v:V}(hf:v.fits (.agg 4)=true)(h:∀i,i<4→(([AT.int .i64,AT.int .i64,AT.int .i64,AT.int .i64]:List AT).getD i .bool).ok (v.cell i)):∃t:Cg,v=t.v:=by
 cases v with
 |agg cs=>
  simp only[V.fits,Bool.and_eq_true,decide_eq_true_eq] at hf
  match cs,hf.1 with
  | [a,b,c,d],_=>
   obtain⟨x,hx⟩:=rH (h 0 (by omega))
   obtain⟨y,hy⟩:=rH (h 1 (by omega))
   obtain⟨z,hz⟩:=rH (h 2 (by omega))
   obtain⟨w,hw⟩:=rH (h 3 (by omega))
   refine⟨⟨⟨x,⟨y,z⟩⟩,w⟩,?_⟩
   have e1:a= .int .i64 x:=hx
   have e2:b= .int .i64 y:=hy
   have e3:c= .int .i64 z:=hz
   have e4:d= .int .i64 w:=hw
   rw[e1,e2,e3,e4];rfl
 |_=>simp[V.fits] at hf
theorem aEU{P:Program}{t:TypeId}{x:V}(ek:fX P t=some .leaf)(ea:mR P 12 t=some [.sl (.agg 4) [.int .i64, .int .i64, .int .i64, .int .i64]])(h:aAC P t x):∃own l,x=cgs own l:=by
 cases aGR ek ea h with
 |nil=>exact⟨.nil,[],rfl⟩
 |sl _ _ vs hl hf hc=>
  obtain⟨l,rfl⟩:=aBX Cg.v vs (fun v hv=>aHH (hf v hv) (hc v hv))
  exact⟨.free,l,rfl⟩
/-
Counts:what a nil one answers;the arguments of the laws. No conditions.
-/
theorem aId{P:Program}{t:TypeId}{x:V}(ek:fX P t=some (.agg 4))(ea:mR P 12 t=some [.int .i64, .int .i64, .int .i64, .int .i64])(h:aAC P t x):∃s:Cg,x=s.v:=
 have⟨h1,_,h3⟩:=aEV ek ea h
 aHH h1 h3
theorem aHi{v:V}(h:(AT.sl (.agg 4) [.int .i64, .int .i64, .bool, .int .i64]).ok v):∃o l,v=wys o l∧(o= .nil→l=[]):=by
 have h0:=h
 cases h with
 |nil=>exact⟨.nil,[],rfl,fun _=>rfl⟩
 |sl _ _ vs hl hf hc=>
  obtain⟨o,l,e⟩:=aHR h0
  unfold wys at e
  injection e with _ e1 e2
  exact⟨.free,l,congrArg _ e2,fun e=>by cases e⟩
theorem aDC{P:Program}{t:TypeId}{x:V}(ek:fX P t=some (.agg 2))(ea:mR P 12 t=some [.int .i64, .sl (.agg 4) [.int .i64, .int .i64, .bool, .int .i64]])(h:aAC P t x):∃o Q ws,x=mps o Q ws∧(o= .nil→ws=[]):=by
 obtain⟨hf,_,hc⟩:=aEV ek ea h
 cases x with
 |agg cs=>
  simp only[V.fits,Bool.and_eq_true,decide_eq_true_eq] at hf
  obtain⟨a,b,rfl⟩:∃a b,cs=[a,b]:=by
   match cs,hf.1 with
   | [a,b],_=>exact⟨a,b,rfl⟩
  obtain⟨x,hx⟩:=rH (hc 0 (by simp))
  obtain⟨o,l,hy,hn⟩:=aHi (hc 1 (by simp))
  simp only[dX,List.getD_cons_zero,List.getD_cons_succ] at hx hy
  exact⟨o,x,l,by rw[hx,hy],hn⟩
 |_=>simp[V.fits] at hf
attribute [local irreducible] IntKind.wrap
attribute [local go_sem] Option.some.injEq Prod.mk.injEq false_and and_false Bool.true_eq_false mP jR jX gG iV if_true Bool.true_and mF dS iH gL dQ aA.ok aA.next LOp.ok LOp.next bC.ok bC.out aQ.ev bN iI cH bO cO V.undef Sh.size gH fW cK aA.dok aA.dres LOp.dok LOp.dout lI iD gI eX List.take_succ_cons List.take_zero List.take_nil List.drop_succ_cons List.drop_zero List.drop_nil List.set_cons_succ List.set_cons_zero List.getD_cons_succ List.getD_cons_zero List.length_cons List.length_nil List.map_cons List.map_nil List.all_cons List.all_nil List.mem_cons List.not_mem_nil List.replicate_succ List.replicate_zero List.cons_append List.nil_append List.append_nil List.isEmpty_cons List.isEmpty_nil dW fJ hM Option.getD_some Option.isSome_some Option.isSome_none Nat.add_eq Nat.zero_add Nat.add_zero true_and and_true and_self true_implies implies_true false_implies forall_const forall_eq forall_eq_or_imp ne_eq not_false_eq_true not_true_eq_false Bool.not_true Bool.not_false decide_true decide_false Bool.and_true Bool.true_and Bool.and_false Bool.false_and true_or or_true false_or or_false eq_self Bool.false_eq_true mK iO gC aD fH eT eB dU cL dT aZ aX dN Int.toNat_natCast Int.toNat_zero List.take_length Hp.set_app Hp.del_app gW fV aA.plain LOp.isCall aA.dplain LOp.isStop eM kT gY lY fN V.gd_true V.gd_false fM eK eL fL bG aY aU fK eS beq_true beq_false dD dE dF cB cC bH bI cP eQ cE dK dH bJ dI dL eN eO bK dJ bF cD eP bP dG bQ bB gQ gO gP gN dM cG dX cR eG eF eE eD eC bX bW cZ cY cX cA bZ bY eJ eI eH dC dB dA cQ cF bS kM Hp.turn fT Option.isNone_some Option.isNone_none oL gF fO aA.plain2 LOp.isApp oM lP lQ iQ fS fR
theorem aED{h:Hp}{m b x:Nat}{X Y:Blk}(h1:x≠m)(h2:x≠b):((h.set m X).set b Y) x=h x:=by simp only[Hp.set];rw[if_neg h2,if_neg h1]
theorem aDY(o:Own){P:Int}{ws:List Wy}{n:Nat}{l:List We}(R:qL P ws n l)(hl:ws.length≤1000)(hn:o= .nil→ws=[])(h':Hp)(nx:Nat):
 bM Tryz.prog 21 [mps o P ws] h' nx fun v h'' nx2=>∃cb m o2 ot,v= .tup [.ptr cb (.agg 4) 0 0, .nilIface]∧nx≤cb∧nx≤m∧hZ h'' cb m P (wys o2 ws) (.sl .leaf ot (mG n l n)) [] 0∧(∀x,x<nx→h'' x=h' x)∧aT h'' nx2∧nx≤nx2:=by
 refine((aCK o R hl hn h' nx).dom).mono ?_
 rintro v h2 nx2 hnx ⟨⟨cb,m,o2,ot,rfl,hcb,hm,hne,rfl⟩,hd,_⟩
 exact⟨cb,m,o2,ot,rfl,hcb,hm,⟨by simp[Hp.set],by simp[Hp.set,Ne.symm hne],rfl,rfl⟩,fun x hx=>aED (by omega) (by omega),hd,hnx⟩
theorem rT(o:Own)(r:List Cg)(hr:r.length≤100000)(l:List CE)(c:Nat)(hok:iE l c)(P:Int)(wv lv:V)(cb m:Nat)(h':Hp)(nx:Nat)(hd:aT h' nx)(hc:hZ h' cb m P wv lv l c):
 bM Tryz.prog 22 [.ptr cb (.agg 4) 0 0,cgs o r] h' nx fun v h'' nx2=>v=nL (dV P l c r).1∧(∃m2,hZ h'' cb m2 P wv lv (dV P l c r).2.1 (dV P l c r).2.2∧(m2=m∨nx≤m2))∧
  (∀x,x<nx→x≠cb→h'' x=h' x)∧((dV P l c r).1≠0→h''=h')∧aT h'' nx2∧nx≤nx2:=by
 refine((aAu o r hr l c hok P wv lv cb m h' nx hc).dom).mono ?_
 rintro v h2 nx2 hnx ⟨⟨rfl,hq⟩,hdm,_⟩
 have hb:=hd _ _ hc.cell
 rcases hq with⟨h0,rfl⟩|⟨h0,m2,hm2,rfl⟩
 ·refine⟨rfl,⟨m,by rw[xF h0];exact hc, .inl rfl⟩,fun x _ _=>rfl,fun _=>rfl,hdm,hnx⟩
 refine⟨rfl,⟨m2,⟨by simp[Hp.set],by simp only[Hp.set];rw[if_neg (by omega)];simp,hc.wf,hc.lf⟩, .inr hm2⟩,fun x hx hne=>aED (by omega) hne,fun h=>absurd h0 h,hdm,hnx⟩
theorem hZ.other{h h2:Hp}{cb m cb' c:Nat}{P:Int}{wv lv:V}{l:List CE}{nx:Nat}(hc:hZ h cb m P wv lv l c)(hd:aT h nx)(e1:cb≠cb')(e2:m≠cb')(hk:∀x,x<nx→x≠cb'→h2 x=h x):hZ h2 cb m P wv lv l c:=
 ⟨(hk _ (hd _ _ hc.cell) e1).trans hc.cell,(hk _ (hd _ _ hc.mp) e2).trans hc.mp,hc.wf,hc.lf⟩
end Go.Proofs.YthikfnmcjipobaaGreat
/-
Counts:the fronts of all places,one by one. Plain laws. No conditions.
-/
namespace Go.Proofs.YthikfnmcjipobaaGreat
set_option linter.unusedSimpArgs false
set_option linter.unusedVariables false
set_option linter.unusedSectionVars false
open Go.RowKit Go.Sort
theorem aEP(T:Nat→Nat→List Pa)(xs:List Sp)(n:Nat){i:Nat}(h:i<n):(oH T xs n).getD i (.tup [])=lst (.agg 2) ((ofT (frT T i xs)).map Tm.v):=by
 unfold oH
 rw[List.getD_eq_getElem?_getD,List.getElem?_map,List.getElem?_range h];rfl
theorem aDh(T:Nat→Nat→List Pa)(xs:List Sp)(n:Nat):(oH T xs n).length=n:=by simp[oH]
theorem aAc(l:List We)(b:Nat)(xs:List Sp):(ofT (frT (eW l) b xs)).length≤xs.length*2:=Nat.le_trans (aEH _) (yK _ b 2 (fun a=>qD l a b) xs)
theorem yV(x:Cg)(s:Sp):mJ [x] s=if x.s=s then x.d else 0:=by simp[mJ]
theorem aBb(l:List Cg)(s:Sp){i:Nat}(h:i<l.length):mJ (l.drop i) s=(if l[i].s=s then l[i].d else 0)+mJ (l.drop (i+1)) s:=by
 rw[List.drop_eq_getElem_cons h];rfl
theorem aGC(T:Nat→Nat→List Pa)(n:Nat):oH T [] n=List.replicate n (.sl (.agg 2) .nil []):=by
 unfold oH
 rw[List.eq_replicate_iff]
 refine⟨by simp,fun b hb=>?_⟩
 obtain⟨k,_,rfl⟩:=List.mem_map.1 hb
 rw[aHq,aHl];rfl
end Go.Proofs.YthikfnmcjipobaaGreat
