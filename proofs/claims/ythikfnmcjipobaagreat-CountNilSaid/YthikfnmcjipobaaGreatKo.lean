/-
Texts of this proof,one behind the other. No conditions.
-/
import Derived.Test.YthikfnmcjipobaaGreatKn
import Derived.Test.YthikfnmcjipobaaGreatKLj
import Derived.Test.YthikfnmcjipobaaGreatKe
import Derived.Test.YthikfnmcjipobaaGreatKg
/-
Counts:what the statements say of them,as data. Plain laws. No conditions.
-/
namespace Go.Proofs.YthikfnmcjipobaaGreat
set_option linter.unusedSimpArgs false
set_option linter.unusedVariables false
set_option linter.unusedSectionVars false
open Go.RowKit Go.Sort
def aCr(l:List Cg)(s:Sp):Int:=(l.map fun x=>if x.s=s then x.d else 0).sum
theorem zL(n:Int):lB n=false↔-1000000≤n∧n≤1000000:=by
 unfold lB
 rw[Bool.not_eq_false',Bool.and_eq_true,decide_eq_true_eq,decide_eq_true_eq]
theorem vA(s:Sp):∀(l:List Cg) (n A:Int),(∀x∈l,lB x.d=false)→-A≤n→n≤A→A+1000000*l.length≤4000000000000000000→
 l.foldl (fun n x=>if x.s=s then IntKind.i64.wrap (n+x.d) else n) n=n+aCr l s
 | [],n,A,_,_,_,_=>by simp[aCr]
 |x::l,n,A,hw,h1,h2,h3=>by
  have hx:=(zL x.d).1 (hw x (by simp))
  simp only[List.length_cons] at h3
  have hs:aCr (x::l) s=(if x.s=s then x.d else 0)+aCr l s:=rfl
  rw[List.foldl_cons,hs]
  split
  ·rw[cW (by omega) (by omega),vA s l (n+x.d) (A+1000000) (fun y hy=>hw y (by simp[hy])) (by omega) (by omega) (by omega)]
   omega
  rw[vA s l n A (fun y hy=>hw y (by simp[hy])) h1 h2 (by omega)]
  omega
theorem aBg{f:Sp→Int}{l:List Cg}(hw:∀x∈l,lB x.d=false)(hl:l.length≤100000){s:Sp}(hf:lB (f s)=false):vZ f l s=f s+aCr l s:=by
 have:=(zL _).1 hf
 exact vA s l (f s) 1000000 hw (by omega) (by omega) (by omega)
def aFq(l:List CE):Prop:=∀y∈l,lB y.n=false
theorem aDx:lB 0=false:=by decide
theorem aCR{l:List CE}(h:aFq l)(s:Sp):lB (gP l s)=false:=by
 unfold gP
 cases hf:l.find? fun x=>decide (x.s=s) with
 |none=>exact aDx
 |some y=>exact h y (List.mem_of_find?_eq_some hf)
theorem aFL{l:List CE}{s:Sp}(h:gP l s≠0):∃y∈l,y.s=s:=by
 apply Classical.byContradiction
 intro hn
 exact h (kY fun x hx e=>hn ⟨x,hx,e⟩)
structure StC(P:Int)(l:List CE)(c K:Nat):Prop where
 ok:mG l c
 small:aFq l
 right:∀y∈l,0≤y.s.p∧y.s.p<P∧y.s.t.ok=true
 len:l.length≤K
theorem aFy(P:Int)(c:Nat):StC P [] c 0:=⟨oP c,(fun y hy=>by cases hy),(fun y hy=>by cases hy),Nat.le_refl _⟩
theorem StC.up{P:Int}{l:List CE}{c K K':Nat}(h:StC P l c K)(hk:K≤K'):StC P l c K':=⟨h.ok,h.small,h.right,Nat.le_trans h.len hk⟩
theorem aBj{P:Int}{x:Cg}(h:mI P x=false):0≤x.s.p∧x.s.p<P∧x.s.t.ok=true:=by
 unfold mI at h
 simp only[Bool.or_eq_false_iff,decide_eq_false_iff_not,Bool.not_eq_false'] at h
 exact⟨by omega,by omega,h.2⟩
theorem StC.add{P:Int}{l:List CE}{c K:Nat}(h:StC P l c K)(r:List Cg):StC P (gV P l c r).2.1 (gV P l c r).2.2 (K+r.length):=by
 unfold gV
 split
 ·exact h.up (Nat.le_add_right _ _)
 split
 ·exact h.up (Nat.le_add_right _ _)
 split
 ·exact h.up (Nat.le_add_right _ _)
 rename_i h1 h2 h3
 obtain⟨q1,q2,q3⟩:=rA r h.ok
 refine⟨q1,fun y hy=>?_,fun y hy=>?_,by have:=h.len;dsimp only;omega⟩
 ·cases hw:lB y.n with
  |false=>rfl
  |true=>exact absurd (List.any_eq_true.2 ⟨y,hy,hw⟩) h3
 have hg:gP (iP l c r).1 y.s≠0:=by rw[mB q1.key hy];exact q1.nz y hy
 by_cases hr:∃x∈r,x.s=y.s
 ·obtain⟨x,hx,e⟩:=hr
  rw[←e]
  refine aBj ?_
  cases hq:mI P x with
  |false=>rfl
  |true=>exact absurd (List.any_eq_true.2 ⟨x,hx,hq⟩) h1
 rw[q2 y.s] at hg
 have:vZ (gP l) r y.s=gP l y.s:=by
  have:∀(r:List Cg) (n:Int),(∀x∈r,x.s≠y.s)→r.foldl (fun n x=>if x.s=y.s then IntKind.i64.wrap (n+x.d) else n) n=n:=by
   intro r
   induction r with
   |nil=>intro n _;rfl
   |cons x r ih=>
    intro n h
    rw[List.foldl_cons,if_neg (h x (by simp))]
    exact ih n fun z hz=>h z (by simp[hz])
  exact this r _ fun x hx e=>hr ⟨x,hx,e⟩
 rw[this] at hg
 obtain⟨z,hz,e⟩:=aFL hg
 rw[←e]
 exact h.right z hz
theorem aDc{P:Int}{l:List CE}{c:Nat}{r:List Cg}(h:(gV P l c r).1=0):r.any (mI P)=false∧(∀x∈r,lB x.d=false)∧(gV P l c r).2=iP l c r:=by
 unfold gV at h⊢
 split at h
 ·cases h
 split at h
 ·cases h
 split at h
 ·cases h
 rename_i h1 h2 h3
 rw[if_neg h1,if_neg h2,if_neg h3]
 refine⟨by simpa using h1,fun x hx=>?_,rfl⟩
 cases hw:lB x.d with
 |false=>rfl
 |true=>exact absurd (List.any_eq_true.2 ⟨x,hx,hw⟩) h2
theorem aEp{P:Int}{l:List CE}{c K:Nat}{r:List Cg}(hc:StC P l c K)(h:(gV P l c r).1=0)(hr:r.length≤100000)(s:Sp):gP (gV P l c r).2.1 s=gP l s+aCr r s:=by
 obtain⟨_,h2,h3⟩:=aDc h
 rw[h3,(rA r hc.ok).2.1 s]
 exact aBg h2 hr (aCR hc.small s)
theorem aAn{P:Int}{l:List CE}{c:Nat}{r:List Cg}(h:(gV P l c r).1≠0):(gV P l c r).2=(l,c):=by
 unfold gV at h⊢
 split
 ·rfl
 split
 ·rfl
 split
 ·rfl
 rename_i h1 h2 h3
 rw[if_neg h1,if_neg h2,if_neg h3] at h
 exact absurd rfl h
end Go.Proofs.YthikfnmcjipobaaGreat
/-
Counts:Copy,maps.Equal,Same. No conditions.
-/
namespace Go.Proofs.YthikfnmcjipobaaGreat
open Nat renaming reduceAdd→jA,reduceSub→jB,reduceLT→jC,reduceLeDiff→jD,reduceEqDiff→jE
open Int renaming reduceToNat→jF,toNat_natCast→jG,natCast_add→jH,natCast_one→jI,natCast_zero→jJ
open List renaming length_map→jK,length_cons→jL,length_nil→jM,replicate_succ→jN,replicate_zero→jO,cons_append→jP,nil_append→jQ
set_option linter.unusedSimpArgs false
set_option linter.unusedVariables false
set_option linter.unusedSectionVars false
open Go.RowKit Go.Shelf
attribute [local irreducible] IntKind.wrap
attribute [local go_sem] Option.some.injEq Prod.mk.injEq false_and and_false Bool.true_eq_false mF iS iW gE iR if_true Bool.true_and lV dO gW gF dN aA.ok aA.next LOp.ok LOp.next aZ.ok aZ.out aM.ev bK iA cB bO cK V.undef Sh.size gA fS cH aA.dok aA.dres LOp.dok LOp.dout kZ gX gB eX List.take_succ_cons List.take_zero List.take_nil List.drop_succ_cons List.drop_zero List.drop_nil List.set_cons_succ List.set_cons_zero List.getD_cons_succ List.getD_cons_zero jL jM List.map_cons List.map_nil List.all_cons List.all_nil List.mem_cons List.not_mem_nil jN jO jP jQ List.append_nil List.isEmpty_cons List.isEmpty_nil dS fF gQ Option.getD_some Option.isSome_some Option.isSome_none Nat.add_eq Nat.zero_add Nat.add_zero true_and and_true and_self true_implies implies_true false_implies forall_const forall_eq forall_eq_or_imp ne_eq not_false_eq_true not_true_eq_false Bool.not_true Bool.not_false decide_true decide_false Bool.and_true Bool.true_and Bool.and_false Bool.false_and true_or or_true false_or or_false eq_self Bool.false_eq_true lY iH fY aG fC eV dX dQ cI dP bC aY dD jG Int.toNat_zero List.take_length Hp.set_app Hp.del_app gS fR aA.plain LOp.isCall aA.dplain LOp.isStop eO kK gT lP fL V.gd_true V.gd_false fK eL eM fJ bH bB aR fI eW beq_true beq_false dE dF dG cC cD bI bJ cU eT cF cN dI bL dJ dK eQ eR bM cT bG cE eS bP dH bQ bD gL gJ gK gI dL bU dW cV eH eG eF eE eD bX bW cZ cY cX cA bZ bY eK eJ eI dC dB dA cO cG bT kI Hp.turn fO Option.isNone_some Option.isNone_none oE gD fN aA.plain2 LOp.isApp oH lI lJ iL fU fT
set_option maxRecDepth 100000 in
set_option maxHeartbeats 4000000 in
theorem aEk{h':Hp}{nx cb m c:Nat}{P:Int}{wv lv:V}{l:List CE}(hc:iK h' cb m P wv lv l c):
 bN Tryz.prog 34 [.ptr cb (.agg 4) 0 0] h' nx fun v h'' _=>∃cb2 m2,v= .ptr cb2 (.agg 4) 0 0∧nx≤m2∧nx≤cb2∧cb2≠m2∧h''=(h'.set m2 (.mp (l.map CE.me) c)).set cb2 (.arr (.agg 4) [nP P wv lv m2]):=by
 refine aF L.count_Counts_Copy_low fun hd=>?_
 simp only[jL,jM,jA,jB,jN,jO,jP,jQ,V.undef]
 have hcb:=hc.cell
 have hcm:=hc.mp
 have n1:cb<nx:=hd _ _ hcb
 have n2:m<nx:=hd _ _ hcm
 have hwf:=hc.wf
 have hlf:=hc.lf
 refine aus ?_
 refine aAa ?_
 obtain⟨X,hX⟩:∃X,X=Blk.mp (l.map CE.me) c:=⟨_,rfl⟩
 obtain⟨F,hF⟩:∃F:(Nat→Bool)→Nat→Nat→List V,∀D m2 b,F D m2 b=[.ptr cb (.agg 4) 0 0, .tup [],if D 15=true then .ptr b (.agg 4) 0 0 else .nilPtr, .ptr cb (.agg 4) 0 0, .bool false,
  if D 0=true then .ptr cb (.agg 4) 0 0 else .tup [],if D 1=true then .ptr cb (.agg 4) 0 0 else .tup [],if D 2=true then .ptr cb (.agg 4) 0 0 else .tup [],if D 3=true then .agg [.int .i64 P,wv] else .tup [],
  if D 4=true then .ptr cb (.agg 4) 0 0 else .tup [],if D 5=true then .ptr cb (.agg 4) 0 0 else .tup [],if D 6=true then .ptr cb (.agg 4) 0 2 else .tup [],if D 7=true then lv else .tup [],
  if D 8=true then .ptr cb (.agg 4) 0 0 else .tup [],if D 9=true then .ptr cb (.agg 4) 0 0 else .tup [],if D 10=true then .ptr cb (.agg 4) 0 3 else .tup [],if D 11=true then .map m else .tup [],
  if D 12=true then .map m2 else .tup [],if D 13=true then nP P wv lv m2 else .tup [],if D 14=true then .ptr b (.agg 4) 0 0 else .tup []]:=⟨_,fun _ _ _=>rfl⟩
 obtain⟨H,hH⟩:∃H:(Nat→Bool)→Nat→Nat→Hp,∀D m2 b,H D m2 b=if D 14=true then (h'.set m2 X).set b (.arr (.agg 4) [nP P wv lv m2]) else if D 12=true then h'.set m2 X else h':=⟨_,fun _ _ _=>rfl⟩
 refine⟨fun D s'=>∃nx' m2 b,s'=⟨F D m2 b,H D m2 b,nx'⟩∧nx≤nx'∧(D 12=true→nx≤m2∧m2<nx')∧(D 14=true→nx≤b∧b≠m2),⟨nx,0,0,by simp[hF,hH,V.undef],Nat.le_refl _,by simp,by simp⟩,?_,?_⟩
 ·rintro D i o deps s' hi hDi hdeps hcl ⟨nx',m2,b,rfl,hnx,k12,k14⟩
  have e14:D 14=true→∀d,d<14→D d=true:=fun h d hd=>hcl 14 _ _ rfl h d (by simp;omega)
  have hcbH:H D m2 b cb=some (.arr (.agg 4) [nP P wv lv m]):=by
   rw[hH]
   split
   ·rename_i h
    have q1:=k14 h
    have q2:=k12 (e14 h 12 (by omega))
    simp only[Hp.set]
    rw[if_neg (by omega),if_neg (by omega)];exact hcb
   split
   ·rename_i h
    have q2:=k12 h
    simp only[Hp.set]
    rw[if_neg (by omega)];exact hcb
   exact hcb
  have hcell:nP P wv lv m= .agg [.int .i64 P,wv,lv, .map m]:=rfl
  have hlp:eP (.agg 2) 0 (nP P wv lv m)= .agg [.int .i64 P,wv]:=rfl
  rcases i with _|_|_|_|_|_|_|_|_|_|_|_|_|_|_|_|i
  all_goals first|(injection hi with hi;injection hi with q1 q2;subst q1;subst q2)|skip
  all_goals try simp only[List.mem_cons,List.not_mem_nil,or_false,forall_eq_or_imp,forall_eq,false_implies,implies_true] at hdeps
  all_goals simp only[bE,LOp.run,aZ.sem,aM.ev,hF,hcbH,hcell,List.getD_cons_succ,List.getD_cons_zero,if_true,hdeps]
  all_goals try exact⟨nx',m2,b,by simp[bK,hH],hnx,by simpa using k12,by simpa using k14⟩
  all_goals try exact⟨trivial,by simp,by simp[gC],nx',m2,b,by simp[bK,hH,eP,V.cell,V.cells],hnx,by simpa using k12,by simpa using k14⟩
  ·have e14':D 14=false:=by
    cases h:D 14 with
    |false=>rfl
    |true=>have:=e14 h 12 (by omega);rw[this] at hDi;cases hDi
   have hm:H D m2 b m=some (.mp (l.map CE.me) c):=by
    rw[hH,if_neg (by simp[e14']),if_neg (by simp[hDi])];exact hcm
   have e13:D 13=false:=by
    cases h:D 13 with
    |false=>rfl
    |true=>have:=hcl 13 _ _ rfl h 12 (by decide);rw[this] at hDi;cases hDi
   refine(qC aFZ (by kernel_rfl) m (l.map CE.me) c _ _ hm).mono ?_
   rintro v h3 nx3 hnx3 ⟨rfl,rfl,rfl⟩
   refine⟨_,nx',b,?_,Nat.le_trans hnx hnx3,fun _=>⟨hnx,by omega⟩,by simp[e14']⟩
   simp[bK,hH,e13,e14',hDi,hX]
  ·refine⟨fun p hp=>?_,nx',m2,b,?_,hnx,by simpa [hdeps] using k12,by simpa using k14⟩
   ·simp only[List.mem_cons,List.not_mem_nil,or_false] at hp
    rcases hp with rfl|rfl|rfl
    ·exact⟨by simp[V.fits,hwf,cN],by decide⟩
    ·exact⟨hlf,by decide⟩
    exact⟨rfl,by decide⟩
   have hcl:lv.cells=[lv]:=bU hlf
   simp[bK,hH,hdeps,hcl,gW,nP,show(V.agg [.int .i64 P,wv]).cells=[.int .i64 P,wv] from rfl,show(V.map m2).cells=[.map m2] from rfl]
  ·refine⟨aEl hwf hlf,nx'+1,m2,nx',?_,by omega,fun _=>?_,fun _=>?_⟩
   ·have e15:D 15=false:=by
     cases h:D 15 with
     |false=>rfl
     |true=>have:=hcl 15 _ _ rfl h 14 (by decide);rw[this] at hDi;cases hDi
    simp[bK,hH,hdeps,hDi,e15,aM.ev]
   ·have:=k12 hdeps.2.2.2.2.2.2.2.2.2.2.2.2.1
    omega
   have:=k12 hdeps.2.2.2.2.2.2.2.2.2.2.2.2.1
   omega
  ·exact⟨nx',m2,b,by simp[bK,hH,hdeps],hnx,by simpa [hdeps] using k12,by simpa [hdeps] using k14⟩
  simp[L.count_Counts_Copy_r3] at hi
 rintro D s' hD ⟨nx',m2,b,rfl,hnx,k12,k14⟩
 have dd:=fun i (h:i<16)=>hD i h
 have q2:=k12 (dd 12 (by omega))
 have q1:=k14 (dd 14 (by omega))
 rw[hF,hH]
 simp only[dd 14 (by omega),dd 15 (by omega),if_true]
 refine au ?_
 exact aJ _ (Hp.le_refl _) ⟨b,m2,by simp only[go_sem,reduceIte,jA,jB,jC,jD,reduceCtorEq,jE,jF],q2.1,q1.1,q1.2,by rw[hX]⟩
theorem aFi(h:Hp):cJ Tryz.prog 34 [.nilPtr] h .nilPtr:=by
 refine bF (fun L=>trivial) fun h' nx hh=>aF L.count_Counts_Copy_low fun hd=>?_
 simp only[jL,jM,jA,jB,jN,jO,jP,jQ,V.undef]
 refine au ?_
 exact aJ h' (leo hd) ⟨rfl,rfl⟩
def eqC(a b:List CE):Bool:=decide (a.length=b.length)&&a.all fun y=>decide (gP b y.s=y.n)
theorem aFH{l:List CE}{c:Nat}(h:mG l c)(s:Sp):vL true (.int .i64 0) (l.map CE.me) (l.findIdx? fun x=>decide (x.s=s))= .tup [.int .i64 (gP l s), .bool (decide (gP l s≠0))]:=by
 cases hf:l.findIdx? (fun x=>decide (x.s=s)) with
 |none=>
  have hn:∀x∈l,x.s≠s:=fun x hx=>by simpa using List.findIdx?_eq_none_iff.1 hf x hx
  rw[kY hn];rfl
 |some j=>
  obtain⟨hj,h1,h2⟩:=aAN hf
  have:(l.map CE.me).getD j default=CE.me l[j]:=by rw[List.getD_eq_getElem?_getD,List.getElem?_map,List.getElem?_eq_getElem hj];rfl
  have hs:l[j].s=s:=by simpa using h1
  have hg:=mB h.key (List.getElem_mem hj)
  rw[hs] at hg
  have hz:=h.nz l[j] (List.getElem_mem hj)
  simp only[vL,this,if_true,CE.me,hg]
  rw[decide_eq_true hz]
set_option maxRecDepth 100000 in
set_option maxHeartbeats 4000000 in
theorem yV{h:Hp}{a b:List CE}{c c' m m':Nat}(hok:mG a c)(hok':mG b c')(h1:h m=some (.mp (a.map CE.me) c))(h2:h m'=some (.mp (b.map CE.me) c')):
 cJ Tryz.prog 82 [.map m, .map m'] h (.bool (eqC a b)):=by
 refine bF (fun L=>trivial) fun h' nx hh=>aF L.maps_Equal_map_count_Stamp_int_map_count_Stamp_int_count_Stamp_int_low fun hd=>?_
 simp only[jL,jM,jA,jB,jN,jO,jP,jQ,V.undef]
 have c1:=hh _ _ h1 rfl
 have c2:=hh _ _ h2 rfl
 have n1:m<nx:=hd _ _ c1
 have n2:m'<nx:=hd _ _ c2
 have out:∀{x:Bool} {sl:List V} {hp:Hp} {nx2:Nat},eqC a b=x→h'.le hp→sl.getD 4 V.undef= .bool x→sW [yM.slot 4] (fun v' h'' _=>v'= .bool (eqC a b)∧h''=h') .ret ⟨sl,hp,nx2⟩:=fun e hle e2=>aJ h' hle ⟨by rw[e];exact e2,rfl⟩
 by_cases hlen:a.length=b.length
 case neg=>
  have hc:((a.length:Int) != (b.length:Int))=true:=bnt
  refine aue (e4 hc c1 c2 (@jK CE ME)) ?_
  exact out (by simp[eqC,hlen]) (leo hd) rfl
 case pos=>
 have hc:((a.length:Int) != (b.length:Int))=false:=bnf
 refine aue (e4 hc c1 c2 (@jK CE ME)) ?_
 refine xF rfl c1 ?_
 simp only[go_sem,reduceIte,jA,jB,jC,jD,reduceCtorEq,jE,jF]
 refine au ?_
 refine eY (fun _:List CE=>aG 34 0 [(1, .map m'),(15, .ptr nx .leaf 0 0)])
  (fun js hp nx1=>(js.map fun y=>(CE.me y).b).Nodup∧(∀y∈js,y∈a)∧(∀y∈js,gP b y.s=y.n)∧nx+1≤nx1∧aV hp nx1∧Hp.same nx h' hp∧hp nx=some (.mit m c (js.map fun y=>(CE.me y).b) c))
  (fun js=>a.length-js.length) [] ⟨by simp,by simp,by simp,by simp,dmo hd,kep Hp.same.rfl',by simp[Hp.set]⟩ (wkl trivial) ?_
 rintro js hp nx1 ⟨hjn,hjl,hjw,hn1,hdm,hsm,hit⟩
 generalize hQ:gM _ _ _ _ _=Q0
 have hmp:hp m=some (.mp (a.map CE.me) c):=by rw[hsm m n1];exact c1
 have hmp':hp m'=some (.mp (b.map CE.me) c'):=by rw[hsm m' n2];exact c2
 simp only[aG,go_sem,reduceIte,jA,jB,jC,jD,reduceCtorEq,jE,jF]
 repeat (first|with_reducible refine aO ?_|with_reducible refine aK ?_|with_reducible refine aQ ?_|with_reducible refine aB ?_|with_reducible refine aC ?_|with_reducible refine aP ?_|with_reducible refine aL ?_)
 refine xG rfl hit hmp (fun x hx=>by obtain⟨y,hy,rfl⟩:=List.mem_map.1 hx;exact hok.lt y hy) (Nat.le_refl _) ?_ ?_
 ·intro x hx hxn
  obtain⟨y,hy,rfl⟩:=List.mem_map.1 hx
  have hmore:=wW (fun y=>(CE.me y).b) hjn hxn
  have hshort:=tZ (fun y=>(CE.me y).b) hjn hjl hy hxn
  have hfind:=aAM CE.me hok.num hy
  simp only[go_sem,reduceIte,jA,jB,jC,jD,reduceCtorEq,jE,jF]
  refine au ?_
  refine xH (es:=a.map CE.me) (c:=c) (m:=m) (since:=c) (seen:=(js.map fun y=>(CE.me y).b)++[(CE.me y).b]) rfl ?_ ?_ (b:=(CE.me y).b) (by simp) hfind ?_
  ·simp only[Hp.set_app,reduceIte]
  ·simp only[Hp.set_app];rw[if_neg (by omega)];exact hmp
  have hyn:(CE.me y).v= .int .i64 y.n:=rfl
  have hyk:(CE.me y).k=y.s.v:=rfl
  have hsf:=Sp.fits_v y.s
  have hlp:eP (.agg 3) 0 y.s.v=y.s.v:=rfl
  have hd2:aV (hp.set nx (.mit m c ((js.map fun y=>(CE.me y).b)++[(CE.me y).b]) c)) nx1:=dmo hdm
  have hs2:Hp.same nx h' (hp.set nx (.mit m c ((js.map fun y=>(CE.me y).b)++[(CE.me y).b]) c)):=cR hsm (Nat.le_refl _) _
  have hit2:(hp.set nx (.mit m c ((js.map fun y=>(CE.me y).b)++[(CE.me y).b]) c)) nx=some (.mit m c ((js++[y]).map fun y=>(CE.me y).b) c):=by simp[Hp.set]
  have hm2:(hp.set nx (.mit m c ((js.map fun y=>(CE.me y).b)++[(CE.me y).b]) c)) m'=some (.mp (b.map CE.me) c'):=by simp only[Hp.set];rw[if_neg (by omega)];exact hmp'
  have hl2:h'.le (hp.set nx (.mit m c ((js.map fun y=>(CE.me y).b)++[(CE.me y).b]) c)):=hs2.le hd (Hp.le_refl _)
  generalize hp.set nx (.mit m c ((js.map fun y=>(CE.me y).b)++[(CE.me y).b]) c)=hp2 at hd2 hs2 hit2 hm2 hl2⊢
  simp only[hyn,hyk,go_sem,reduceIte,jA,jB,jC,jD,reduceCtorEq,jE,jF]
  have n3:m'<nx1+2:=by omega
  have n4:(m'=nx1+5)=False:=fls
  have n5:(m'=nx1+4)=False:=fls
  have n6:(m'=nx1+3)=False:=fls
  have hmf:=lZ y.s b
  have hmg:=aFH hok' y.s
  by_cases hg:gP b y.s=y.n
  ·have hz:decide (y.n≠0)=true:=decide_eq_true (hok.nz y hy)
   have hne:(y.n != y.n)=false:=bnf
   rw[hg,hz] at hmg
   refine aue (e10 hsf hlp hm2 n3 n4 n5 n6 hmf hmg hne) ?_
   rw[←hQ]
   refine aT (js++[y]) (by simp only[List.length_append,jL,jM];omega) ⟨hmore,?_,?_,by first|omega|(dsimp only;omega),dmo hd2,kep hs2,?_⟩ (wkl trivial)
   ·intro q hq
    rcases List.mem_append.1 hq with hq|hq
    ·exact hjl q hq
    rw[List.mem_singleton.1 hq];exact hy
   ·intro q hq
    rcases List.mem_append.1 hq with hq|hq
    ·exact hjw q hq
    rw[List.mem_singleton.1 hq];exact hg
   have e1:∀k,(nx=nx1+k)=False:=fun k=>fls
   simp only[Hp.set_app,e1,if_false]
   exact hit2
  have he:eqC a b=false:=by
   unfold eqC
   rw[Bool.and_eq_false_iff]
   right
   rw[List.all_eq_false]
   exact⟨y,hy,by simpa using hg⟩
  by_cases h0:gP b y.s=0
  ·rw[h0] at hmg
   have hz:decide ((0:Int)≠0)=false:=by decide
   rw[hz] at hmg
   refine aue (e9 hsf hlp hm2 n3 n4 n5 n6 hmf hmg) ?_
   rw[←hQ]
   refine au ?_
   exact out he (lef hd hl2) rfl
  have hz:decide (gP b y.s≠0)=true:=decide_eq_true h0
  have hne:(y.n != gP b y.s)=true:=bnt
  rw[hz] at hmg
  refine aue (e10 hsf hlp hm2 n3 n4 n5 n6 hmf hmg hne) ?_
  rw[←hQ]
  refine au ?_
  exact out he (lef hd hl2) rfl
 intro hall
 have hperm:=aAF (fun y=>(CE.me y).b) hok.num hjn hjl (fun y hy=>hall _ (List.mem_map.2 ⟨y,hy,rfl⟩))
 have he:eqC a b=true:=by
  unfold eqC
  rw[Bool.and_eq_true,decide_eq_true_eq,List.all_eq_true]
  exact⟨hlen,fun y hy=>by rw[decide_eq_true_eq];exact hjw y (hperm.mem_iff.2 hy)⟩
 simp only[go_sem,reduceIte,jA,jB,jC,jD,reduceCtorEq,jE,jF]
 refine au ?_
 rw[←hQ]
 refine au ?_
 exact out he (hsm.le hd (Hp.le_refl _)) rfl
theorem aDb{h:Hp}{cb cb' m m' c c':Nat}{P:Int}{o o':Own}{ws:List Wy}{lv lv':V}{a b:List CE}(hc:iK h cb m P (wys o ws) lv a c)(hc':iK h cb' m' P (wys o' ws) lv' b c')(hok:mG a c)(hok':mG b c')(hl:ws.length≤100000):
 cJ Tryz.prog 26 [.ptr cb (.agg 4) 0 0, .ptr cb' (.agg 4) 0 0] h (.bool (eqC a b)):=by
 refine bF (fun L=>trivial) fun h' nx hh=>aF L.count_Same_low fun hd=>?_
 simp only[jL,jM,jA,jB,jN,jO,jP,jQ,V.undef]
 have c1:=hh _ _ hc.cell rfl
 have c2:=hh _ _ hc'.cell rfl
 have D1:=fun h=>(aAf Wy.v Wy.fits_v tF aCp o o' ws ws (by omega) h)
 have hq:decide (ws=ws)=true:=decide_eq_true rfl
 have hp:(P==P)=true:=bqt
 rw[hq] at D1
 simp only[nP,wys] at c1 c2
 refine aue (e3 c1 c2 hp) ?_
 refine bS (yV hok hok' (h:=h') (hh _ _ hc.mp rfl) (hh _ _ hc'.mp rfl)) rfl (aN _) ?_
 simp only[go_sem,reduceIte,jA,jB,jC,jD,reduceCtorEq,jE,jF]
 refine au ?_
 exact aJ h' (leo hd) ⟨rfl,rfl⟩
theorem aED(x:V)(hx:x= .nilPtr∨∃b,x= .ptr b (.agg 4) 0 0)(h:Hp):cJ Tryz.prog 26 [x, .nilPtr] h (.bool false):=by
 refine bF (fun L=>trivial) fun h' nx hh=>aF L.count_Same_low fun hd=>?_
 simp only[jL,jM,jA,jB,jN,jO,jP,jQ,V.undef]
 rcases hx with rfl|⟨b,rfl⟩
 ·refine au ?_
  exact aJ h' (leo hd) ⟨rfl,rfl⟩
 refine au ?_
 exact aJ h' (leo hd) ⟨rfl,rfl⟩
end Go.Proofs.YthikfnmcjipobaaGreat
/-
Counts:Fronts;Active and its iterator. No conditions.
-/
namespace Go.Proofs.YthikfnmcjipobaaGreat
open Nat renaming reduceAdd→jA,reduceSub→jB,reduceLT→jC,reduceLeDiff→jD,reduceEqDiff→jE
open Int renaming reduceToNat→jF,toNat_natCast→jG,natCast_add→jH,natCast_one→jI,natCast_zero→jJ
open List renaming length_map→jK,length_cons→jL,length_nil→jM,replicate_succ→jN,replicate_zero→jO,cons_append→jP,nil_append→jQ
set_option linter.unusedSimpArgs false
set_option linter.unusedVariables false
set_option linter.unusedSectionVars false
open Go.RowKit
attribute [local irreducible] IntKind.wrap
attribute [local go_sem] Option.some.injEq Prod.mk.injEq false_and and_false Bool.true_eq_false mF iS iW gE iR if_true Bool.true_and lV dO gW gF dN aA.ok aA.next LOp.ok LOp.next aZ.ok aZ.out aM.ev bK iA cB bO cK V.undef Sh.size gA fS cH aA.dok aA.dres LOp.dok LOp.dout kZ gX gB eX List.take_succ_cons List.take_zero List.take_nil List.drop_succ_cons List.drop_zero List.drop_nil List.set_cons_succ List.set_cons_zero List.getD_cons_succ List.getD_cons_zero jL jM List.map_cons List.map_nil List.all_cons List.all_nil List.mem_cons List.not_mem_nil jN jO jP jQ List.append_nil List.isEmpty_cons List.isEmpty_nil dS fF gQ Option.getD_some Option.isSome_some Option.isSome_none Nat.add_eq Nat.zero_add Nat.add_zero true_and and_true and_self true_implies implies_true false_implies forall_const forall_eq forall_eq_or_imp ne_eq not_false_eq_true not_true_eq_false Bool.not_true Bool.not_false decide_true decide_false Bool.and_true Bool.true_and Bool.and_false Bool.false_and true_or or_true false_or or_false eq_self Bool.false_eq_true lY iH fY aG fC eV dX dQ cI dP bC aY dD jG Int.toNat_zero List.take_length Hp.set_app Hp.del_app gS fR aA.plain LOp.isCall aA.dplain LOp.isStop eO kK gT lP fL V.gd_true V.gd_false fK eL eM fJ bH bB aR fI eW beq_true beq_false dE dF dG cC cD bI bJ cU eT cF cN dI bL dJ dK eQ eR bM cT bG cE eS bP dH bQ bD gL gJ gK gI dL bU dW cV eH eG eF eE eD bX bW cZ cY cX cA bZ bY eK eJ eI dC dB dA cO cG bT kI Hp.turn fO Option.isNone_some Option.isNone_none oE gD fN aA.plain2 LOp.isApp oH lI lJ iL fU fT
theorem xQ(h:Hp):cJ Tryz.prog 24 [.nilPtr] h (.sl .leaf .nil []):=by
 refine bF (fun L=>by simp[V.names,dR]) fun h' nx hh=>aF L.count_Counts_Fronts_low fun hd=>?_
 simp only[jL,jM,jA,jB,jN,jO,jP,jQ,V.undef]
 refine au ?_
 exact aJ h' (leo hd) ⟨rfl,rfl⟩
theorem aAY(x:V)(hx:x.leafy=true)(h':Hp)(nx:Nat):
 bN Tryz.prog 27 [x] h' nx fun v h'' nx2=>v= .fn (.func 83) [] [.ptr nx .leaf 0 0]∧h''=h'.set nx (.arr .leaf [x])∧nx+1≤nx2:=by
 refine aF L.count_Counts_Active_low fun hd=>?_
 simp only[jL,jM,jA,jB,jN,jO,jP,jQ,V.undef]
 refine aue hx ?_
 refine aJ _ (Hp.le_refl _) ⟨rfl,rfl,by first|omega|(dsimp only;omega)⟩
theorem yJ(bx:Nat)(hb:Hp)(h1:hb bx=some (.arr .leaf [.nilPtr])):aDe Tryz.prog 83 [.ptr bx .leaf 0 0] hb []:=by
 intro yn J D hbJ hnJ hnD hJ h0 nx0 h0J hd0
 refine aF L.count_Counts_Active_1_low fun hd=>?_
 simp only[jL,jM,jA,jB,jN,jO,jP,jQ,V.undef]
 have c1:=hbJ _ _ _ h0J _ _ h1 rfl
 refine aue c1 ?_
 exact aEG h0 (Hp.le_refl _) (.inl h0J)
/-
Counts:contrary,the document's Apply. No conditions.
-/
/-
Counts:law23's Is. No conditions.
-/
theorem iK.keep{h h2:Hp}{cb m c:Nat}{P:Int}{wv lv:V}{l:List CE}{nx:Nat}(hc:iK h cb m P wv lv l c)(hd:aV h nx)(hk:∀x,x<nx→h2 x=h x):iK h2 cb m P wv lv l c:=
 ⟨(hk _ (hd _ _ hc.cell)).trans hc.cell,(hk _ (hd _ _ hc.mp)).trans hc.mp,hc.wf,hc.lf⟩
theorem iK.has{h h2:Hp}{cb m c:Nat}{P:Int}{wv lv:V}{l:List CE}(hc:iK h cb m P wv lv l c)(hk:h.has h2):iK h2 cb m P wv lv l c:=⟨hk _ _ hc.cell rfl,hk _ _ hc.mp rfl,hc.wf,hc.lf⟩
end Go.Proofs.YthikfnmcjipobaaGreat
