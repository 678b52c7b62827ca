/-
Texts of this proof,one behind the other. No conditions.
-/
import Derived.Test.YtecepaehmojpgaaGreatKn
import Derived.Test.YtecepaehmojpgaaGreatKi
import Derived.Test.YtecepaehmojpgaaGreatKd
import Derived.Test.YtecepaehmojpgaaGreatKo
set_option linter.unusedSimpArgs false
set_option linter.unusedVariables false
set_option linter.unusedSectionVars false
namespace Go.Proofs.YtecepaehmojpgaaGreat
open Go.ChangeShapes Go.WideShapes Go.ChangeAt Go.RowKit Go.Sort
theorem aKF{v:V}(hf:v.fits (.agg 3)=true)(h:∀i,i<3→(([AT.int .i64,AT.int .i64,AT.int .i64]:List AT).getD i .bool).ok (v.cell i)):∃t:Sp,v=t.v:=by
 cases v with
 |agg cs=>
  simp only[V.fits,Bool.and_eq_true,decide_eq_true_eq] at hf
  match cs,hf.1 with
  | [a,b,c],_=>
   obtain⟨x,hx⟩:=kA (h 0 (by omega))
   obtain⟨y,hy⟩:=kA (h 1 (by omega))
   obtain⟨z,hz⟩:=kA (h 2 (by omega))
   refine⟨⟨x,⟨y,z⟩⟩,?_⟩
   have e1:a= .int .i64 x:=hx
   have e2:b= .int .i64 y:=hy
   have e3:c= .int .i64 z:=hz
   rw[e1,e2,e3];rfl
 |_=>simp[V.fits] at hf
theorem aJn{v:V}(h:(AT.sl (.agg 4) [.int .i64, .int .i64, .bool, .int .i64]).ok v):∃o l,v=wys o l∧(o= .nil→l=[]):=by
 have h0:=h
 cases h with
 |nil=>exact⟨.nil,[],rfl,fun _=>rfl⟩
 |sl _ _ vs hl hf hc=>
  obtain⟨o,l,e⟩:=aKg h0
  unfold wys at e
  injection e with _ e1 e2
  exact⟨.free,l,congrArg _ e2,fun e=>by cases e⟩
theorem aDX{P:Program}{t:TypeId}{x:V}(ek:cO P t=some (.agg 2))(ea:iS P 12 t=some [.int .i64, .sl (.agg 4) [.int .i64, .int .i64, .bool, .int .i64]])(h:aAh P t x):∃o Q ws,x=mps o Q ws∧(o= .nil→ws=[]):=by
 obtain⟨hf,_,hc⟩:=aJK ek ea h
 cases x with
 |agg cs=>
  simp only[V.fits,Bool.and_eq_true,decide_eq_true_eq] at hf
  obtain⟨a,b,rfl⟩:∃a b,cs=[a,b]:=by
   match cs,hf.1 with
   | [a,b],_=>exact⟨a,b,rfl⟩
  obtain⟨x,hx⟩:=kA (hc 0 (by simp))
  obtain⟨o,l,hy,hn⟩:=aJn (hc 1 (by simp))
  simp only[zV,List.getD_cons_zero,List.getD_cons_succ] at hx hy
  exact⟨o,x,l,by rw[hx,hy],hn⟩
 |_=>simp[V.fits] at hf
attribute [local irreducible] IntKind.wrap
theorem aBM{h:Hp}{m b x:Nat}{X Y:Blk}(h1:x≠m)(h2:x≠b):((h.set m X).set b Y) x=h x:=by simp only[Hp.set];rw[if_neg h2,if_neg h1]
theorem aKj(o:Own){P:Int}{ws:List Wy}{n:Nat}{l:List We}(R:eX P ws n l)(hl:ws.length≤1000)(hn:o= .nil→ws=[])(h':Hp)(nx:Nat):
 aW Tryz.prog 35 [mps o P ws] h' nx fun v h'' nx2=>∃cb m o2 ot,v= .tup [.ptr cb (.agg 4) 0 0, .nilIface]∧nx≤cb∧nx≤m∧dC h'' cb m P (wys o2 ws) (.sl .leaf ot (cH n l n)) [] 0∧(∀x,x<nx→h'' x=h' x)∧aM h'' nx2∧nx≤nx2:=by
 refine((aIe o R hl hn h' nx).dom).mono ?_
 rintro v h2 nx2 hnx ⟨⟨cb,m,o2,ot,rfl,hcb,hm,hne,rfl⟩,hd,_⟩
 exact⟨cb,m,o2,ot,rfl,hcb,hm,⟨by simp[Hp.set],by simp[Hp.set,Ne.symm hne],rfl,rfl⟩,fun x hx=>aBM (by omega) (by omega),hd,hnx⟩
theorem aCn{h':Hp}{nx cb m c:Nat}{P:Int}{wv lv:V}{l:List CE}(hc:dC h' cb m P wv lv l c):
 aW Tryz.prog 39 [.ptr cb (.agg 4) 0 0] h' nx fun v h'' nx2=>∃cb2 m2,v= .ptr cb2 (.agg 4) 0 0∧nx≤cb2∧nx≤m2∧dC h'' cb2 m2 P wv lv l c∧(∀x,x<nx→h'' x=h' x)∧aM h'' nx2∧nx≤nx2:=by
 refine((aHe hc).dom).mono ?_
 rintro v h2 nx2 hnx ⟨⟨cb2,m2,rfl,hm,hcb,hne,rfl⟩,hd,_⟩
 exact⟨cb2,m2,rfl,hcb,hm,⟨by simp[Hp.set],by simp[Hp.set,Ne.symm hne],hc.wf,hc.lf⟩,fun x hx=>aBM (by omega) (by omega),hd,hnx⟩
theorem tJ(o:Own)(r:List Cg)(hr:r.length≤100000)(l:List CE)(c:Nat)(hok:dQ l c)(P:Int)(wv lv:V)(cb m:Nat)(h':Hp)(nx:Nat)(hd:aM h' nx)(hc:dC h' cb m P wv lv l c):
 aW Tryz.prog 36 [.ptr cb (.agg 4) 0 0,cgs o r] h' nx fun v h'' nx2=>v=dO (aT P l c r).1∧(∃m2,dC h'' cb m2 P wv lv (aT P l c r).2.1 (aT P l c r).2.2∧(m2=m∨nx≤m2))∧
  (∀x,x<nx→x≠cb→h'' x=h' x)∧((aT P l c r).1≠0→h''=h')∧aM h'' nx2∧nx≤nx2:=by
 refine((aFt o r hr l c hok P wv lv cb m h' nx hc).dom).mono ?_
 rintro v h2 nx2 hnx ⟨⟨rfl,hq⟩,hdm,_⟩
 have hb:=hd _ _ hc.cell
 rcases hq with⟨h0,rfl⟩|⟨h0,m2,hm2,rfl⟩
 ·refine⟨rfl,⟨m,by rw[aHl h0];exact hc, .inl rfl⟩,fun x _ _=>rfl,fun _=>rfl,hdm,hnx⟩
 refine⟨rfl,⟨m2,⟨by simp[Hp.set],by simp only[Hp.set];rw[if_neg (by omega)];simp,hc.wf,hc.lf⟩, .inr hm2⟩,fun x hx hne=>aBM (by omega) hne,fun h=>absurd h0 h,hdm,hnx⟩
theorem dC.other{h h2:Hp}{cb m cb' c:Nat}{P:Int}{wv lv:V}{l:List CE}{nx:Nat}(hc:dC h cb m P wv lv l c)(hd:aM h nx)(e1:cb≠cb')(e2:m≠cb')(hk:∀x,x<nx→x≠cb'→h2 x=h x):dC h2 cb m P wv lv l c:=
 ⟨(hk _ (hd _ _ hc.cell) e1).trans hc.cell,(hk _ (hd _ _ hc.mp) e2).trans hc.mp,hc.wf,hc.lf⟩
end Go.Proofs.YtecepaehmojpgaaGreat
