/-
Texts of this proof,one behind the other. No conditions.
-/
import Derived.Test.YtecepaehmojpgaaGreatNn
import Derived.Test.YtecepaehmojpgaaGreatNi
import Derived.Test.YtecepaehmojpgaaGreatNd
import Derived.Test.YtecepaehmojpgaaGreatNo
set_option linter.unusedSimpArgs false
set_option linter.unusedVariables false
set_option linter.unusedSectionVars false
set_option maxHeartbeats 8000000
namespace Go.Proofs.YtecepaehmojpgaaGreat
open Go.ChangeShapes Go.WideShapes Go.ChangeAt Go.RowKit Go.Sort
theorem Cz{v:V}(h:(AT.sl (.agg 4) [.int .i64, .int .i64, .bool, .int .i64]).ok v):∃o l,v=wys o l∧(o= .nil→l=[]):=by
 have h0:=h;cases h with
 |nil=>exact⟨.nil,[],rfl,fun _=>rfl⟩
 |sl _ _ vs hl hf hc=>
  obtain⟨o,l,e⟩:=Dn h0;unfold wys at e;injection e with _ e1 e2;exact⟨.free,l,congrArg _ e2,fun e=>by cases e⟩
theorem Ca{P:Program}{t:TypeId}{x:V}(ek:dE P t=some (.agg 2))(ea:kT P 12 t=some [.int .i64, .sl (.agg 4) [.int .i64, .int .i64, .bool, .int .i64]])(h:gg P t x):∃o Q ws,x=mps o Q ws∧(o= .nil→ws=[]):=by
 obtain⟨hf,_,hc⟩:=zf ek ea h;cases x with
 |agg cs=>
  simp only[V.fits,Bool.and_eq_true,decide_eq_true_eq] at hf;obtain⟨a,b,rfl⟩:∃a b,cs=[a,b]:=by
   match cs,hf.1 with
   | [a,b],_=>exact⟨a,b,rfl⟩
  obtain⟨x,hx⟩:=mL (hc 0 Zm);obtain⟨o,l,hy,hn⟩:=Cz (hc 1 Zm);simp only[rN,List.getD_cons_zero,List.getD_cons_succ] at hx hy;exact⟨o,x,l,by rw[hx,hy],hn⟩
 |_=>simp[V.fits] at hf
attribute [local irreducible] IntKind.wrap
theorem b5(n k:Int)(h:Hp):aX Tryz.prog 21 [eF n, .int .i64 k] h (.bool (n==k)):=by
 refine aP (fun L=>trivial) fun h' nx hh=>aD L.aWJ fun hd=>?_;simp only[List.length_cons,List.length_nil,Nat.reduceAdd,Nat.reduceSub,List.replicate_succ,List.replicate_zero,List.cons_append,List.nil_append,V.undef];have C1:=fun h=>qx n h;refine au ?_;exact aG h' (leo hd) ⟨rfl,rfl⟩
theorem mb{h:Hp}{m b x:Nat}{X Y:Blk}(h1:x≠m)(h2:x≠b):((h.set m X).set b Y) x=h x:=by simp only[Hp.set];rw[if_neg h2,if_neg h1]
theorem Bx(o:Own){P:Int}{ws:List Wy}{n:Nat}{l:List We}(R:nB P ws n l)(hl:ws.length≤1000)(hn:o= .nil→ws=[])(h':Hp)(nx:Nat):
 bD Tryz.prog 35 [mps o P ws] h' nx fun v h'' nx2=>∃cb m o2 ot,v= .tup [.ptr cb (.agg 4) 0 0, .nilIface]∧nx≤cb∧nx≤m∧eV h'' cb m P (wys o2 ws) (.sl .leaf ot (iR n l n)) [] 0∧(∀x,x<nx→h'' x=h' x)∧aK h'' nx2∧nx≤nx2:=by
 refine((Bw o R hl hn h' nx).dom).mono ?_;rintro v h2 nx2 hnx ⟨⟨cb,m,o2,ot,rfl,hcb,hm,hne,rfl⟩,hd,_⟩;exact⟨cb,m,o2,ot,rfl,hcb,hm,⟨by simp[Hp.set],by simp[Hp.set,Ne.symm hne],rfl,rfl⟩,fun x hx=>mb or or,hd,hnx⟩
theorem CT{h':Hp}{nx cb m c:Nat}{P:Int}{wv lv:V}{l:List CE}(hc:eV h' cb m P wv lv l c):
 bD Tryz.prog 39 [.ptr cb (.agg 4) 0 0] h' nx fun v h'' nx2=>∃cb2 m2,v= .ptr cb2 (.agg 4) 0 0∧nx≤cb2∧nx≤m2∧eV h'' cb2 m2 P wv lv l c∧(∀x,x<nx→h'' x=h' x)∧aK h'' nx2∧nx≤nx2:=by
 refine((AK hc).dom).mono ?_;rintro v h2 nx2 hnx ⟨⟨cb2,m2,rfl,hm,hcb,hne,rfl⟩,hd,_⟩;exact⟨cb2,m2,rfl,hcb,hm,⟨by simp[Hp.set],by simp[Hp.set,Ne.symm hne],hc.wf,hc.lf⟩,fun x hx=>mb or or,hd,hnx⟩
theorem xD(o:Own)(r:List Cg)(hr:r.length≤100000)(l:List CE)(c:Nat)(hok:fK l c)(P:Int)(wv lv:V)(cb m:Nat)(h':Hp)(nx:Nat)(hd:aK h' nx)(hc:eV h' cb m P wv lv l c):
 bD Tryz.prog 36 [.ptr cb (.agg 4) 0 0,cgs o r] h' nx fun v h'' nx2=>v=eF (bQ P l c r).1∧(∃m2,eV h'' cb m2 P wv lv (bQ P l c r).2.1 (bQ P l c r).2.2∧(m2=m∨nx≤m2))∧
  (∀x,x<nx→x≠cb→h'' x=h' x)∧((bQ P l c r).1≠0→h''=h')∧aK h'' nx2∧nx≤nx2:=by
 refine((xv o r hr l c hok P wv lv cb m h' nx hc).dom).mono ?_;rintro v h2 nx2 hnx ⟨⟨rfl,hq⟩,hdm,_⟩;have hb:=hd _ _ hc.cell;rcases hq with⟨h0,rfl⟩|⟨h0,m2,hm2,rfl⟩
 ·refine⟨rfl,⟨m,by rw[AQ h0];exact hc, .inl rfl⟩,fun x _ _=>rfl,fun _=>rfl,hdm,hnx⟩
 refine⟨rfl,⟨m2,⟨by simp[Hp.set],by simp only[Hp.set];rw[if_neg or];simp,hc.wf,hc.lf⟩, .inr hm2⟩,fun x hx hne=>mb or hne,fun h=>absurd h0 h,hdm,hnx⟩
theorem eV.other{h h2:Hp}{cb m cb' c:Nat}{P:Int}{wv lv:V}{l:List CE}{nx:Nat}(hc:eV h cb m P wv lv l c)(hd:aK h nx)(e1:cb≠cb')(e2:m≠cb')(hk:∀x,x<nx→x≠cb'→h2 x=h x):eV h2 cb m P wv lv l c:=
 ⟨(hk _ (hd _ _ hc.cell) e1).trans hc.cell,(hk _ (hd _ _ hc.mp) e2).trans hc.mp,hc.wf,hc.lf⟩
end Go.Proofs.YtecepaehmojpgaaGreat
