/-
Texts of this proof,one behind the other. No conditions.
-/
import Derived.Test.YtemjhgboialjpaaGreatKn
import Derived.Test.YtemjhgboialjpaaGreatKi
import Derived.Test.YtemjhgboialjpaaGreatKd
import Derived.Test.YtemjhgboialjpaaGreatKo
set_option linter.unusedSimpArgs false
set_option linter.unusedVariables false
set_option linter.unusedSectionVars false
namespace Go.Proofs.YtemjhgboialjpaaGreat
open Go.ChangeShapes Go.WideShapes Go.ChangeAt Go.RowKit Go.Sort
theorem aLu{v:V}(hf:v.fits (.agg 4)=true)(h:∀i,i<4→(([AT.int .i64,AT.int .i64,AT.int .i64,AT.int .i64]:List AT).getD i .bool).ok (v.cell i)):∃t:Cg,v=t.v:=by
 cases v with
 |agg cs=>
  simp only[V.fits,Bool.and_eq_true,decide_eq_true_eq] at hf
  match cs,hf.1 with
  | [a,b,c,d],_=>
   obtain⟨x,hx⟩:=pZ (h 0 (by omega))
   obtain⟨y,hy⟩:=pZ (h 1 (by omega))
   obtain⟨z,hz⟩:=pZ (h 2 (by omega))
   obtain⟨w,hw⟩:=pZ (h 3 (by omega))
   refine⟨⟨⟨x,⟨y,z⟩⟩,w⟩,?_⟩
   have e1:a= .int .i64 x:=hx
   have e2:b= .int .i64 y:=hy
   have e3:c= .int .i64 z:=hz
   have e4:d= .int .i64 w:=hw
   rw[e1,e2,e3,e4];rfl
 |_=>simp[V.fits] at hf
theorem aKO{v:V}(h:(AT.sl (.agg 4) [.int .i64, .int .i64, .int .i64, .int .i64]).ok v):∃q:Own×List Cg,v=cgs q.1 q.2:=by
 cases h with
 |nil=>exact⟨(.nil,[]),rfl⟩
 |sl _ _ vs hl hf hc=>
  obtain⟨l,rfl⟩:=yW Cg.v vs (fun v hv=>aLu (hf v hv) (hc v hv))
  exact⟨(.free,l),rfl⟩
theorem aJG{P:Program}{t:TypeId}{x:V}(ek:cZ P t=some .leaf)(ea:kC P 12 t=some [.sl .leaf [.sl (.agg 4) [.int .i64, .int .i64, .int .i64, .int .i64]]])(h:aCR P t x):∃(own:Own) (l:List (Own×List Cg)),x= .sl .leaf own (l.map fun q=>cgs q.1 q.2):=by
 cases aJF ek ea h with
 |nil=>exact⟨.nil,[],rfl⟩
 |sl _ _ vs hl hf hc=>
  obtain⟨l,rfl⟩:=yW (fun q:Own×List Cg=>cgs q.1 q.2) vs (fun v hv=>by
   have h0:=hc v hv 0 (by simp)
   have hlf:=hf v hv
   rw[oB (by rwa [nV] at hlf)] at h0
   exact aKO h0)
  exact⟨.free,l,rfl⟩
theorem aKb{v:V}(h:(AT.sl (.agg 4) [.int .i64, .int .i64, .bool, .int .i64]).ok v):∃o l,v=wys o l∧(o= .nil→l=[]):=by
 have h0:=h
 cases h with
 |nil=>exact⟨.nil,[],rfl,fun _=>rfl⟩
 |sl _ _ vs hl hf hc=>
  obtain⟨o,l,e⟩:=aKM h0
  unfold wys at e
  injection e with _ e1 e2
  exact⟨.free,l,congrArg _ e2,fun e=>by cases e⟩
theorem aJE{P:Program}{t:TypeId}{x:V}(ek:cZ P t=some (.agg 2))(ea:kC P 12 t=some [.int .i64, .sl (.agg 4) [.int .i64, .int .i64, .bool, .int .i64]])(h:aCR P t x):∃o Q ws,x=mps o Q ws∧(o= .nil→ws=[]):=by
 obtain⟨hf,_,hc⟩:=aKw ek ea h
 cases x with
 |agg cs=>
  simp only[V.fits,Bool.and_eq_true,decide_eq_true_eq] at hf
  obtain⟨a,b,rfl⟩:∃a b,cs=[a,b]:=by
   match cs,hf.1 with
   | [a,b],_=>exact⟨a,b,rfl⟩
  obtain⟨x,hx⟩:=pZ (hc 0 (by simp))
  obtain⟨o,l,hy,hn⟩:=aKb (hc 1 (by simp))
  simp only[vT,List.getD_cons_zero,List.getD_cons_succ] at hx hy
  exact⟨o,x,l,by rw[hx,hy],hn⟩
 |_=>simp[V.fits] at hf
attribute [local irreducible] IntKind.wrap
theorem aGg(n k:Int)(h:Hp):aW Tryz.prog 20 [jZ n, .int .i64 k] h (.bool (n==k)):=by
 refine aR (fun L=>trivial) fun h' nx hh=>aD L.corollarynum_Is_low fun hd=>?_
 simp only[List.length_cons,List.length_nil,Nat.reduceAdd,Nat.reduceSub,List.replicate_succ,List.replicate_zero,List.cons_append,List.nil_append,V.undef]
 have C1:=fun h=>aEB n h
 refine au ?_
 exact aF h' (leo hd) ⟨rfl,rfl⟩
theorem aCZ{h:Hp}{m b x:Nat}{X Y:Blk}(h1:x≠m)(h2:x≠b):((h.set m X).set b Y) x=h x:=by simp only[Hp.set];rw[if_neg h2,if_neg h1]
theorem aKP(o:Own){P:Int}{ws:List Wy}{n:Nat}{l:List We}(R:pD P ws n l)(hl:ws.length≤1000)(hn:o= .nil→ws=[])(h':Hp)(nx:Nat):
 aX Tryz.prog 18 [mps o P ws] h' nx fun v h'' nx2=>∃cb m o2 ot,v= .tup [.ptr cb (.agg 4) 0 0, .nilIface]∧nx≤cb∧nx≤m∧dF h'' cb m P (wys o2 ws) (.sl .leaf ot (mK n l n)) [] 0∧(∀x,x<nx→h'' x=h' x)∧aH h'' nx2∧nx≤nx2:=by
 refine((aEC o R hl hn h' nx).dom).mono ?_
 rintro v h2 nx2 hnx ⟨⟨cb,m,o2,ot,rfl,hcb,hm,hne,rfl⟩,hd,_⟩
 exact⟨cb,m,o2,ot,rfl,hcb,hm,⟨by simp[Hp.set],by simp[Hp.set,Ne.symm hne],rfl,rfl⟩,fun x hx=>aCZ (by omega) (by omega),hd,hnx⟩
theorem aKr{h':Hp}{nx cb m c:Nat}{P:Int}{wv lv:V}{l:List CE}(hc:dF h' cb m P wv lv l c):
 aX Tryz.prog 21 [.ptr cb (.agg 4) 0 0] h' nx fun v h'' nx2=>∃cb2 m2,v= .ptr cb2 (.agg 4) 0 0∧nx≤cb2∧nx≤m2∧dF h'' cb2 m2 P wv lv l c∧(∀x,x<nx→h'' x=h' x)∧aH h'' nx2∧nx≤nx2:=by
 refine((aIk hc).dom).mono ?_
 rintro v h2 nx2 hnx ⟨⟨cb2,m2,rfl,hm,hcb,hne,rfl⟩,hd,_⟩
 exact⟨cb2,m2,rfl,hcb,hm,⟨by simp[Hp.set],by simp[Hp.set,Ne.symm hne],hc.wf,hc.lf⟩,fun x hx=>aCZ (by omega) (by omega),hd,hnx⟩
theorem aJH(o:Own)(r:List Cg)(hr:r.length≤100000)(l:List CE)(c:Nat)(hok:dQ l c)(P:Int)(wv lv:V)(cb m:Nat)(h':Hp)(nx:Nat)(hd:aH h' nx)(hc:dF h' cb m P wv lv l c):
 aX Tryz.prog 22 [.ptr cb (.agg 4) 0 0,cgs o r] h' nx fun v h'' nx2=>v=jZ (dJ P l c r).1∧(∃m2,dF h'' cb m2 P wv lv (dJ P l c r).2.1 (dJ P l c r).2.2∧(m2=m∨nx≤m2))∧
  (∀x,x<nx→x≠cb→h'' x=h' x)∧((dJ P l c r).1≠0→h''=h')∧aH h'' nx2∧nx≤nx2:=by
 refine((aBh o r hr l c hok P wv lv cb m h' nx hc).dom).mono ?_
 rintro v h2 nx2 hnx ⟨⟨rfl,hq⟩,hdm,_⟩
 have hb:=hd _ _ hc.cell
 rcases hq with⟨h0,rfl⟩|⟨h0,m2,hm2,rfl⟩
 ·refine⟨rfl,⟨m,by rw[aCO h0];exact hc, .inl rfl⟩,fun x _ _=>rfl,fun _=>rfl,hdm,hnx⟩
 refine⟨rfl,⟨m2,⟨by simp[Hp.set],by simp only[Hp.set];rw[if_neg (by omega)];simp,hc.wf,hc.lf⟩, .inr hm2⟩,fun x hx hne=>aCZ (by omega) hne,fun h=>absurd h0 h,hdm,hnx⟩
theorem dF.other{h h2:Hp}{cb m cb' c:Nat}{P:Int}{wv lv:V}{l:List CE}{nx:Nat}(hc:dF h cb m P wv lv l c)(hd:aH h nx)(e1:cb≠cb')(e2:m≠cb')(hk:∀x,x<nx→x≠cb'→h2 x=h x):dF h2 cb m P wv lv l c:=
 ⟨(hk _ (hd _ _ hc.cell) e1).trans hc.cell,(hk _ (hd _ _ hc.mp) e2).trans hc.mp,hc.wf,hc.lf⟩
end Go.Proofs.YtemjhgboialjpaaGreat
namespace Go.Proofs.YtemjhgboialjpaaGreat
open Go.RowKit Go.Sort
theorem aKj(T:Nat→Nat→List Pa)(xs:List Sp)(n:Nat){i:Nat}(h:i<n):(pL T xs n).getD i (.tup [])=lst (.agg 2) ((ofT (frT T i xs)).map Tm.v):=by
 unfold pL
 rw[List.getD_eq_getElem?_getD,List.getElem?_map,List.getElem?_range h];rfl
theorem aJk(T:Nat→Nat→List Pa)(xs:List Sp)(n:Nat):(pL T xs n).length=n:=by simp[pL]
theorem aJo(l:List We)(b:Nat)(xs:List Sp):(ofT (frT (dB l) b xs)).length≤xs.length*2:=Nat.le_trans (aGU _) (yZ _ b 2 (fun a=>sU l a b) xs)
end Go.Proofs.YtemjhgboialjpaaGreat
