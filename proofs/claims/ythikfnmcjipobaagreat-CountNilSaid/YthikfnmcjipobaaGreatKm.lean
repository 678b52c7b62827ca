/-
Texts of this proof,one behind the other. No conditions.
-/
import Derived.Test.YthikfnmcjipobaaGreatKl
import Derived.Test.YthikfnmcjipobaaGreatKe
import Derived.Test.YthikfnmcjipobaaGreatKf
/-
Counts as data:changes,what they come to,their order. Plain laws. No conditions.
-/
namespace Go.Proofs.YthikfnmcjipobaaGreat
set_option linter.unusedSimpArgs false
set_option linter.unusedVariables false
set_option linter.unusedSectionVars false
open Go.RowKit Go.Sort
structure Sp where
 p:Int
 t:Tm
 deriving DecidableEq,Inhabited
structure Cg where
 s:Sp
 d:Int
 deriving DecidableEq,Inhabited
def tot(l:List Cg)(s:Sp):Int:=l.foldl (fun n x=>if x.s=s then IntKind.i64.wrap (n+x.d) else n) 0
structure CE where
 s:Sp
 n:Int
 b:Nat
 deriving DecidableEq,Inhabited
def gP(l:List CE)(s:Sp):Int:=((l.find? fun x=>decide (x.s=s)).map (·.n)).getD 0
structure mG(l:List CE)(c:Nat):Prop where
 key:(l.map (·.s)).Nodup
 num:(l.map (·.b)).Nodup
 lt:∀x∈l,x.b<c
 nz:∀x∈l,x.n≠0
theorem oP(c:Nat):mG [] c:=⟨by simp,by simp,by simp,by simp⟩
theorem mB{l:List CE}(hk:(l.map (·.s)).Nodup){x:CE}(hx:x∈l):gP l x.s=x.n:=by
 induction l with
 |nil=>simp at hx
 |cons y l ih=>
  simp only[List.map_cons,List.nodup_cons] at hk
  unfold gP
  rw[List.find?_cons]
  rcases List.mem_cons.1 hx with rfl|hx
  ·simp
  have hne:y.s≠x.s:=fun e=>hk.1 (e▸List.mem_map_of_mem hx)
  simp only[decide_eq_false hne]
  exact ih hk.2 hx
theorem kY{l:List CE}{s:Sp}(h:∀x∈l,x.s≠s):gP l s=0:=by
 unfold gP
 rw[List.find?_eq_none.2 (fun x hx=>by simpa using h x hx)]
 rfl
end Go.Proofs.YthikfnmcjipobaaGreat
/-
Counts:adding to a map. No conditions beyond those named.
-/
namespace Go.Proofs.YthikfnmcjipobaaGreat
open Go.Proofs.YthikfnmcjipobaaGreat renaming iB→uA,gG→uB,dY→uC,dZ→uD,cP→uE,iC→uF,fH→uG,eA→uH,eB→uI,cQ→uJ,fG→uK,fE→uL,gH→uM,iD→uN,fP→uO,bR→uP,jW→uQ,iJ→uR,fZ→uS
open Nat renaming reduceAdd→jA,reduceSub→jB,reduceLT→jC,reduceLeDiff→jD,reduceEqDiff→jE
open Int renaming reduceToNat→jF,toNat_natCast→jG,natCast_add→jH,natCast_one→jI,natCast_zero→jJ
open List renaming length_map→jK,length_cons→jL,length_nil→jM,replicate_succ→jN,replicate_zero→jO,cons_append→jP,nil_append→jQ
set_option linter.unusedSimpArgs false
set_option linter.unusedVariables false
set_option linter.unusedSectionVars false
open Go.RowKit
def Sp.v(s:Sp):V:= .agg [.int .i64 s.p, .int .i64 s.t.e, .int .i64 s.t.r]
def Cg.v(x:Cg):V:= .agg [.int .i64 x.s.p, .int .i64 x.s.t.e, .int .i64 x.s.t.r, .int .i64 x.d]
def CE.me(x:CE):ME:=⟨x.s.v, .int .i64 x.n,x.b⟩
theorem Sp.fits_v(s:Sp):s.v.fits (.agg 3)=true:=rfl
theorem Cg.fits_v(s:Cg):s.v.fits (.agg 4)=true:=rfl
theorem aGc(a b:Sp):veq (.plain (.agg 3) [.int, .int, .int]) a.v b.v=some (decide (a=b)):=by
 obtain⟨p,e,r⟩:=a
 obtain⟨p',e',r'⟩:=b
 have h:veq (.plain (.agg 3) [.int, .int, .int]) (Sp.v ⟨p,e,r⟩) (Sp.v ⟨p',e',r'⟩)=some ((p==p')&&((e==e')&&(r==r'))):=rfl
 rw[h]
 congr 1
 rw[Bool.eq_iff_iff]
 simp
theorem lZ(s:Sp):∀l:List CE,lH (.plain (.agg 3) [.int, .int, .int]) s.v (l.map CE.me)=some (l.findIdx? fun x=>decide (x.s=s))
 | []=>rfl
 |x::l=>by
  rw[List.map_cons,lH,List.findIdx?_cons]
  simp only[CE.me,aGc]
  by_cases h:s=x.s
  ·simp[h]
  have h':¬x.s=s:=fun e=>h e.symm
  have ih:=lZ s l
  simp[h,h',ih]
def aGo(l:List CE)(c:Nat)(s:Sp):List CE×Nat×Nat:=match l.findIdx? (fun x=>decide (x.s=s)) with
 |some j=>(l,j,c)
 |none=>(l++[⟨s,0,c⟩],l.length,c+1)
def tR(l:List CE)(c:Nat)(s:Sp)(d:Int):List CE×Nat:=
 let (l1,j,c1):=aGo l c s
 let n:=IntKind.i64.wrap (gP l s+d)
 if n=0 then (l1.eraseIdx j,c1) else (l1.set j ⟨s,n,(l1.getD j default).b⟩,c1)
theorem aAN{α:Type}{p:α→Bool}{l:List α}{j:Nat}(h:l.findIdx? p=some j):∃hj:j<l.length,p l[j]=true∧l.find? p=some l[j]:=by
 induction l generalizing j with
 |nil=>simp at h
 |cons a l ih=>
  rw[List.findIdx?_cons] at h
  by_cases ha:p a=true
  ·rw[if_pos ha] at h
   injection h with h;subst h
   exact⟨by simp,ha,by simp[List.find?_cons,ha]⟩
  rw[if_neg ha] at h
  obtain⟨j',h',rfl⟩:=Option.map_eq_some_iff.1 h
  obtain⟨h1,h2,h3⟩:=ih h'
  refine⟨by simpa using h1,by simpa using h2,?_⟩
  rw[List.find?_cons]
  simp only[Bool.not_eq_true] at ha
  simp only[ha]
  simpa using h3
theorem aAg{l:List CE}{c:Nat}(h:mG l c)(s:Sp):∃l1 j c1,aGo l c s=(l1,j,c1)∧∃hj:j<l1.length,l1[j].s=s∧l1[j].n=gP l s∧(l1.map (·.s)).Nodup∧(l1.map (·.b)).Nodup∧(∀x∈l1,x.b<c1)∧c≤c1∧(∀x∈l1,x.n≠0∨x.s=s)∧
 ((l.findIdx? (fun x=>decide (x.s=s))=some j∧l1=l∧c1=c)∨(l.findIdx? (fun x=>decide (x.s=s))=none∧l1=l++[⟨s,0,c⟩]∧j=l.length∧c1=c+1∧gP l s=0))∧(∀t,t≠s→gP l1 t=gP l t):=by
 unfold aGo
 cases hf:l.findIdx? (fun x=>decide (x.s=s)) with
 |some j=>
  obtain⟨hj,h1,h2⟩:=aAN hf
  refine⟨l,j,c,rfl,hj,by simpa using h1,?_,h.key,h.num,h.lt,Nat.le_refl _,fun x hx=> .inl (h.nz x hx), .inl ⟨rfl,rfl,rfl⟩,fun _ _=>rfl⟩
  unfold gP
  rw[h2];rfl
 |none=>
  have hn:∀x∈l,x.s≠s:=by
   intro x hx
   have:=List.findIdx?_eq_none_iff.1 hf x hx
   simpa using this
  have h0:gP l s=0:=kY hn
  refine⟨_,_,_,rfl,by simp,by simp,by simp[h0],?_,?_,?_,Nat.le_succ _,?_, .inr ⟨rfl,rfl,rfl,rfl,h0⟩,?_⟩
  ·rw[List.map_append,List.nodup_append]
   refine⟨h.key,by simp,fun a ha b hb hab=>?_⟩
   obtain⟨x,hx,rfl⟩:=List.mem_map.1 ha
   simp only[List.map_cons,List.map_nil,List.mem_singleton] at hb
   exact hn x hx (hab.trans hb)
  ·rw[List.map_append,List.nodup_append]
   refine⟨h.num,by simp,fun a ha b hb hab=>?_⟩
   obtain⟨x,hx,rfl⟩:=List.mem_map.1 ha
   simp only[List.map_cons,List.map_nil,List.mem_singleton] at hb
   have:=h.lt x hx
   omega
  ·intro x hx
   rcases List.mem_append.1 hx with hx|hx
   ·have:=h.lt x hx;omega
   rw[List.mem_singleton.1 hx];exact Nat.lt_succ_self _
  ·intro x hx
   rcases List.mem_append.1 hx with hx|hx
   ·exact .inl (h.nz x hx)
   rw[List.mem_singleton.1 hx];exact .inr rfl
  intro t ht
  unfold gP
  rw[List.find?_append]
  cases l.find? (fun x=>decide (x.s=t)) with
  |some x=>rfl
  |none=>
   have:¬s=t:=fun e=>ht e.symm
   simp[this]
theorem aGm{l:List CE}(hn:(l.map (·.b)).Nodup){j:Nat}(hj:j<l.length):(l.map CE.me).findIdx? (fun e=>((e.b:Nat):Int)==(l[j].b:Int))=some j:=by
 induction l generalizing j with
 |nil=>simp at hj
 |cons a l ih=>
  rw[List.map_cons,List.nodup_cons] at hn
  rw[List.map_cons,List.findIdx?_cons]
  cases j with
  |zero=>simp[CE.me]
  |succ j=>
   have hj':j<l.length:=by simpa using hj
   have hne:¬a.b=l[j].b:=fun e=>hn.1 (List.mem_map.2 ⟨l[j],List.getElem_mem _,e.symm⟩)
   have hb:(((CE.me a).b:Int)==(((a::l)[j+1]).b:Int))=false:=by
    simp only[List.getElem_cons_succ,CE.me,beq_eq_false_iff_ne,ne_eq]
    omega
   rw[hb]
   have:=ih hn.2 hj'
   simp only[List.getElem_cons_succ]
   rw[this];rfl
theorem tA(l:List CE)(s:Sp):vL false (.int .i64 0) (l.map CE.me) (l.findIdx? fun x=>decide (x.s=s))= .int .i64 (gP l s):=by
 cases hf:l.findIdx? (fun x=>decide (x.s=s)) with
 |none=>
  have hn:∀x∈l,x.s≠s:=fun x hx=>by simpa using List.findIdx?_eq_none_iff.1 hf x hx
  rw[kY hn];rfl
 |some j=>
  obtain⟨hj,h1,h2⟩:=aAN hf
  have:(l.map CE.me).getD j default=CE.me l[j]:=by rw[List.getD_eq_getElem?_getD,List.getElem?_map,List.getElem?_eq_getElem hj];rfl
  simp only[vL,this]
  unfold gP
  rw[h2];rfl
theorem xR{l:List CE}(hk:(l.map (·.s)).Nodup){j:Nat}(hj:j<l.length):l.findIdx? (fun x=>decide (x.s=l[j].s))=some j:=by
 induction l generalizing j with
 |nil=>simp at hj
 |cons a l ih=>
  rw[List.map_cons,List.nodup_cons] at hk
  rw[List.findIdx?_cons]
  cases j with
  |zero=>simp
  |succ j=>
   have hj':j<l.length:=by simpa using hj
   have hne:¬a.s=l[j].s:=fun e=>hk.1 (List.mem_map.2 ⟨l[j],List.getElem_mem _,e.symm⟩)
   have:=ih hk.2 hj'
   simp only[List.getElem_cons_succ,hne,decide_false,Bool.false_eq_true,if_false,this]
   rfl
theorem aCx{l:List CE}{j:Nat}(hj:j<l.length):(l.map CE.me).set j ⟨l[j].s.v,((l.map CE.me).getD j default).v,((l.map CE.me).getD j default).b⟩=l.map CE.me:=by
 have:(l.map CE.me).getD j default=CE.me l[j]:=by rw[List.getD_eq_getElem?_getD,List.getElem?_map,List.getElem?_eq_getElem hj];rfl
 rw[this]
 apply List.ext_getElem
 ·simp
 intro i h1 h2
 rw[List.getElem_set]
 split
 ·rename_i e;subst e;rw[List.getElem_map];rfl
 rfl
theorem aFz{l:List CE}{j:Nat}(hj:j<l.length){s:Sp}(hs:l[j].s=s)(n:Int):(l.map CE.me).set j ⟨((l.map CE.me).getD j default).k, .int .i64 n,((l.map CE.me).getD j default).b⟩=(l.set j ⟨s,n,l[j].b⟩).map CE.me:=by
 have:(l.map CE.me).getD j default=CE.me l[j]:=by rw[List.getD_eq_getElem?_getD,List.getElem?_map,List.getElem?_eq_getElem hj];rfl
 rw[this,List.map_set]
 simp only[CE.me,hs]
theorem Hp.set_set(h:Hp)(n:Nat)(a b:Blk):(h.set n a).set n b=h.set n b:=by
 funext m
 simp only[Hp.set]
 split<;>rfl
theorem Hp.set_comm(h:Hp){n m:Nat}(hne:n≠m)(a b:Blk):(h.set n a).set m b=(h.set m b).set n a:=by
 funext q
 simp only[Hp.set]
 split
 ·rename_i e;subst e;rw[if_neg (fun e=>hne e.symm)]
 rfl
attribute [local irreducible] IntKind.wrap
attribute [local go_sem] Option.some.injEq Prod.mk.injEq false_and and_false Bool.true_eq_false mF iS iW gE iR if_true Bool.true_and lV dO gW gF dN aA.ok aA.next LOp.ok LOp.next aZ.ok aZ.out aM.ev bK iA cB bO cK V.undef Sh.size gA fS cH aA.dok aA.dres LOp.dok LOp.dout kZ gX gB eX List.take_succ_cons List.take_zero List.take_nil List.drop_succ_cons List.drop_zero List.drop_nil List.set_cons_succ List.set_cons_zero List.getD_cons_succ List.getD_cons_zero jL jM List.map_cons List.map_nil List.all_cons List.all_nil List.mem_cons List.not_mem_nil jN jO jP jQ List.append_nil List.isEmpty_cons List.isEmpty_nil dS fF gQ Option.getD_some Option.isSome_some Option.isSome_none Nat.add_eq Nat.zero_add Nat.add_zero true_and and_true and_self true_implies implies_true false_implies forall_const forall_eq forall_eq_or_imp ne_eq not_false_eq_true not_true_eq_false Bool.not_true Bool.not_false decide_true decide_false Bool.and_true Bool.true_and Bool.and_false Bool.false_and true_or or_true false_or or_false eq_self Bool.false_eq_true lY iH fY aG fC eV dX dQ cI dP bC aY dD jG Int.toNat_zero List.take_length Hp.set_app Hp.del_app gS fR aA.plain LOp.isCall aA.dplain LOp.isStop eO kK gT lP fL V.gd_true V.gd_false fK eL eM fJ bH bB aR fI eW beq_true beq_false dE dF dG cC cD bI bJ cU eT cF cN dI bL dJ dK eQ eR bM cT bG cE eS bP dH bQ bD gL gJ gK gI dL bU dW cV eH eG eF eE eD bX bW cZ cY cX cA bZ bY eK eJ eI dC dB dA cO cG bT kI Hp.turn fO Option.isNone_some Option.isNone_none oE gD fN aA.plain2 LOp.isApp oH lI lJ iL fU fT
set_option maxRecDepth 100000 in
theorem aFp(l:List CE)(c:Nat)(h:mG l c)(s:Sp)(d:Int)(m:Nat)(h':Hp)(nx:Nat)(hm:h' m=some (.mp (l.map CE.me) c)):
 bN Tryz.prog 62 [.map m,s.v, .int .i64 d] h' nx fun v h'' _=>h''=h'.set m (.mp ((tR l c s d).1.map CE.me) (tR l c s d).2):=by
 refine aF L.count_add_low fun hd=>?_
 simp only[jL,jM,jA,jB,jN,jO,jP,jQ,V.undef]
 obtain⟨l1,j,c1,he,hj,hjs,hjn,hk1,hb1,hlt1,hcc,hnz1,hcase,hoth⟩:=aAg h s
 have hmn:m<nx:=hd _ _ hm
 have hsf:=Sp.fits_v s
 have ha:tR l c s d=if IntKind.i64.wrap (gP l s+d)=0 then (l1.eraseIdx j,c1) else (l1.set j ⟨s,IntKind.i64.wrap (gP l s+d),(l1.getD j default).b⟩,c1):=by
  unfold tR;rw[he]
 have hgj:l1.getD j default=l1[j]:=by rw[List.getD_eq_getElem?_getD,List.getElem?_eq_getElem hj];rfl
 rw[hgj] at ha
 have hg1:gP l1 s=gP l s:=by rw[←hjn,←hjs];exact mB hk1 (List.getElem_mem _)
 refine aO (aP ?_)
 refine aS rfl (by simp only[hsf,go_sem,reduceIte,jA,jB,jC,jD,reduceCtorEq,jE,jF];try omega) ?_
 simp only[hsf,go_sem,reduceIte,jA,jB,jC,jD,reduceCtorEq,jE,jF]
 refine aB (aO (aAa ?_))
 obtain⟨n,hn⟩:∃n,n=IntKind.i64.wrap (gP l s+d):=⟨_,rfl⟩
 obtain⟨H0,hH0⟩:∃H0,H0=h'.set nx (.arr (.agg 3) [s.v]):=⟨_,rfl⟩
 obtain⟨F,hF⟩:∃F:(Nat→Bool)→List V,∀D,F D=[.map m,s.v, .int .i64 d, .tup [], .ptr nx (.agg 3) 0 0, .tup [],if D 0=true then .map m else .tup [],if D 1=true then s.v else .tup [],if D 2=true then .int .i64 (gP l s) else .tup [],if D 3=true then .int .i64 d else .tup [],if D 4=true then .int .i64 n else .tup [],
  if D 5=true then .tup [.int .i64 (gP l s), .int .i64 l1[j].b] else .tup [],if D 6=true then .int .i64 l1[j].b else .tup [], .tup [], .tup [], .tup [], .tup [], .tup [], .tup []]:=⟨_,fun _=>rfl⟩
 obtain⟨H,hH⟩:∃H:(Nat→Bool)→Hp,∀D,H D=if D 7=true then H0.set m (.mp ((l1.set j ⟨s,n,l1[j].b⟩).map CE.me) c1) else if D 5=true then H0.set m (.mp (l1.map CE.me) c1) else H0:=⟨_,fun _=>rfl⟩
 refine⟨fun D s'=>∃nx',s'=⟨F D,H D,nx'⟩∧nx+1≤nx',⟨nx+1,by simp[hF,hH,hH0],Nat.le_refl _⟩,?_,?_⟩
 ·rintro D i o deps s' hi hDi hdeps hcl ⟨nx',rfl,hnx⟩
  have hne:nx≠m:=by omega
  have hbox:H D nx=some (.arr (.agg 3) [s.v]):=by
   rw[hH,hH0]
   split
   ·simp[Hp.set,hne]
   split<;>simp[Hp.set,hne]
  have h7:D 7=true→D 0=true∧D 1=true∧D 2=true∧D 3=true∧D 4=true∧D 5=true∧D 6=true:=fun h=>by
   have:=hcl 7 _ _ rfl h
   exact⟨this 0 (by decide),this 1 (by decide),this 2 (by decide),this 3 (by decide),this 4 (by decide),this 5 (by decide),this 6 (by decide)⟩
  rcases i with _|_|_|_|_|_|_|_|i
  all_goals first|(injection hi with hi;injection hi with q1 q2;subst q1;subst q2)|skip
  ·simp[bE,LOp.run,aZ.sem,aM.ev,bK,V.undef,hF,hH,hnx]
  ·simp[bE,LOp.run,aZ.sem,aM.ev,bK,V.undef,hF,hbox,bH,(rfl:eP (.agg 3) 0 s.v=s.v),V.fits,hnx]
   simp[hH]
   first|omega|exact hnx|exact⟨_,rfl,hnx⟩|exact⟨_,⟨rfl,rfl⟩,hnx⟩
  ·have d0:=hdeps 0 (by decide)
   have d1:=hdeps 1 (by decide)
   have d7:D 7=false:=by
    cases h:D 7 with
    |false=>rfl
    |true=>have:=(h7 h).2.2.1;rw[this] at hDi;cases hDi
   cases h5:D 5 with
   |true=>
    have hHm:H D m=some (.mp (l1.map CE.me) c1):=by rw[hH,if_neg (by simp[d7]),if_pos h5];simp[Hp.set]
    simp[bE,LOp.run,aZ.sem,aM.ev,bK,V.undef,hF,d0,d1,hsf,hHm,lZ,tA,hg1,hnx]
    simp[hH]<;>omega
   |false=>
    have hHm:H D m=some (.mp (l.map CE.me) c):=by rw[hH,if_neg (by simp[d7]),if_neg (by simp[h5]),hH0];simp[Hp.set,Ne.symm hne,hm]
    simp[bE,LOp.run,aZ.sem,aM.ev,bK,V.undef,hF,d0,d1,hsf,hHm,lZ,tA,hg1,hnx]
    simp[hH]<;>omega
  ·simp[bE,LOp.run,aZ.sem,aM.ev,bK,V.undef,hF,hH,hnx]
  ·have d2:=hdeps 2 (by decide)
   have d3:=hdeps 3 (by decide)
   simp[bE,LOp.run,aZ.sem,aM.ev,bK,V.undef,hF,d2,d3,aDY,←hn,hnx]
   simp[hH]<;>omega
  ·have d0:=hdeps 0 (by decide)
   have d1:=hdeps 1 (by decide)
   have d7:D 7=false:=by
    cases h:D 7 with
    |false=>rfl
    |true=>have:=(h7 h).2.2.2.2.2.1;rw[this] at hDi;cases hDi
   have hHm:H D m=some (.mp (l.map CE.me) c):=by rw[hH,if_neg (by simp[d7]),if_neg (by simp[hDi]),hH0];simp[Hp.set,Ne.symm hne,hm]
   have hHD:H D=H0:=by rw[hH,if_neg (by simp[d7]),if_neg (by simp[hDi])]
   have hgo:∀R:V→Hp→Prop,R (.tup [.int .i64 (gP l s), .int .i64 l1[j].b]) (H0.set m (.mp (l1.map CE.me) c1))→(MOp.ent (.agg 3) [.int, .int, .int] (.int .i64 0) (.slot 6) (.slot 7)).sem (F D) (H D) nx' R:=by
    intro R hR
    simp only[MOp.sem,aM.ev,hF,List.getD_cons_succ,List.getD_cons_zero,d0,d1,if_true,hsf,hHm,lZ,true_and]
    rw[hHD]
    rcases hcase with⟨e1,rfl,rfl⟩|⟨e1,rfl,rfl,rfl,e0⟩
    ·simp only[e1]
     have hg:(l1.map CE.me).getD j default=CE.me l1[j]:=by rw[List.getD_eq_getElem?_getD,List.getElem?_map,List.getElem?_eq_getElem hj];rfl
     have:=aCx hj
     rw[hjs] at this
     rw[this,hg]
     simp only[CE.me,hjn]
     exact hR
    simp only[e1]
    simp only[e0,List.map_append,List.map_cons,List.map_nil] at hR
    simpa [CE.me] using hR
   show(MOp.ent (.agg 3) [.int, .int, .int] (.int .i64 0) (.slot 6) (.slot 7)).sem (F D) (H D) nx' (fun v h'=>bE Tryz.prog [] _ ⟨bK (F D) (some 11) v,h',nx'+1⟩)
   refine hgo _ ?_
   simp[bE,bK,hF,hH,d7]<;>omega
  ·have d5:=hdeps 5 (by decide)
   simp[bE,LOp.run,aZ.sem,aM.ev,bK,V.undef,hF,d5,hnx]
   simp[hH]<;>omega
  ·have d0:=hdeps 0 (by decide)
   have d4:=hdeps 4 (by decide)
   have d5:=hdeps 5 (by decide)
   have d6:=hdeps 6 (by decide)
   have hHD:H D=H0.set m (.mp (l1.map CE.me) c1):=by rw[hH,if_neg (by simp[hDi]),if_pos d5]
   have hHm:H D m=some (.mp (l1.map CE.me) c1):=by rw[hHD];simp[Hp.set]
   have hgo:∀R:V→Hp→Prop,R V.undef (H0.set m (.mp ((l1.set j ⟨s,n,l1[j].b⟩).map CE.me) c1))→(MOp.est (.slot 6) (.slot 12) (.slot 10)).sem (F D) (H D) nx' R:=by
    intro R hR
    simp only[MOp.sem,aM.ev,hF,List.getD_cons_succ,List.getD_cons_zero,d0,d4,d6,if_true,hHm]
    refine⟨j,aGm hb1 hj,?_⟩
    rw[hHD,Hp.set_set,aFz hj hjs]
    exact hR
   show(MOp.est (.slot 6) (.slot 12) (.slot 10)).sem (F D) (H D) nx' (fun v h'=>bE Tryz.prog [] _ ⟨bK (F D) none v,h',nx'+1⟩)
   refine hgo _ ?_
   simp[bE,bK,hF,hH]<;>omega
  simp[L.count_add_r1] at hi
 rintro D s' hD ⟨nx',rfl,hnx⟩
 have dd:=fun i (h:i<8)=>hD i h
 have hFD:F D=[.map m,s.v, .int .i64 d, .tup [], .ptr nx (.agg 3) 0 0, .tup [], .map m,s.v, .int .i64 (gP l s), .int .i64 d, .int .i64 n, .tup [.int .i64 (gP l s), .int .i64 l1[j].b], .int .i64 l1[j].b, .tup [], .tup [], .tup [], .tup [], .tup [], .tup []]:=by
  rw[hF];simp[dd 0,dd 1,dd 2,dd 3,dd 4,dd 5,dd 6]
 have hHD:H D=H0.set m (.mp ((l1.set j ⟨s,n,l1[j].b⟩).map CE.me) c1):=by rw[hH,if_pos (dd 7 (by decide))]
 rw[hFD,hHD]
 obtain⟨l2,hl2⟩:∃l2,l2=l1.set j ⟨s,n,l1[j].b⟩:=⟨_,rfl⟩
 rw[←hl2]
 have hj2:j<l2.length:=by rw[hl2];simpa using hj
 have hat:l2[j]=⟨s,n,l1[j].b⟩:=by simp[hl2]
 have hks:l2.map (·.s)=l1.map (·.s):=by
  rw[hl2,List.map_set]
  have:(l1.map (·.s)).set j s=(l1.map (·.s)).set j ((l1.map (·.s))[j]'(by simpa using hj)):=by simp[hjs]
  rw[this,List.set_getElem_self]
 have hk2:(l2.map (·.s)).Nodup:=by rw[hks];exact hk1
 have hg2:gP l2 s=n:=by
  have:=mB hk2 (List.getElem_mem hj2)
  rw[hat] at this
  exact this
 have hf2:l2.findIdx? (fun x=>decide (x.s=s))=some j:=by
  have:=xR hk2 hj2
  rw[hat] at this
  exact this
 have hne:¬nx=m:=by omega
 have hne':¬m=nx:=by omega
 have hb2:(H0.set m (.mp (l2.map CE.me) c1)) nx=some (.arr (.agg 3) [s.v]):=by rw[hH0];simp[Hp.set,hne]
 have hm2:(H0.set m (.mp (l2.map CE.me) c1)) m=some (.mp (l2.map CE.me) c1):=by simp[Hp.set]
 have hle:∀X:Blk,(h'.set m X).le (H0.set m X):=fun X=>by
  rw[hH0,Hp.set_comm _ hne]
  exact mP (Hp.le_refl _) (by simp only[Hp.set];rw[if_neg hne];exact aV.none hd (Nat.le_refl _)) _
 have hset:∀X,(H0.set m (.mp (l2.map CE.me) c1)).set m X=H0.set m X:=fun X=>Hp.set_set _ _ _ _
 have h2le:=hle (.mp (l2.map CE.me) c1)
 generalize H0.set m (.mp (l2.map CE.me) c1)=h2 at hb2 hm2 hset h2le⊢
 show wM _ _ fA.normal _
 refine aB ?_
 by_cases h0:n=0
 ·rw[if_pos (by rw[←hn];exact h0)] at ha
  have hc0:(n==0)=true:=by simp[h0]
  rw[ha]
  have her:(l2.map CE.me).eraseIdx j=(l1.eraseIdx j).map CE.me:=by
   rw[hl2]
   apply List.ext_getElem
   ·simp[List.length_eraseIdx]
   intro i h1 h2
   simp only[List.getElem_eraseIdx,List.getElem_set,List.getElem_map]
   split
   ·rw[if_neg (by omega)]
   rw[if_neg (by omega)]
  (repeat' (first|(with_reducible first|refine stp ?_|refine uP (by decide) ?_|refine uQ (fun _=>?_) (fun _=>?_))|((first|(with_reducible refine uA ?_;first|refine uB rfl ?_ ?_|(first|refine uC rfl ?_|refine uD rfl ?_)|refine uE rfl ?_)|(with_reducible refine uF ?_;first|refine uG rfl ?_ ?_|(first|refine uH rfl ?_|refine uI rfl ?_)|refine uJ rfl ?_|refine uK (uL ?_)|refine uK (uM ?_))|(with_reducible refine uN ?_;refine uO rfl ?_))<;>try simp only[hb2,hm2,lZ,tA,hg2,hc0,hsf,go_sem,reduceIte,jA,jB,jC,jD,reduceCtorEq,jE,jF])|(with_reducible refine uR ?_;refine uS rfl ?_)|omega))
  refine aEQ hsf rfl hm2 (by rw[show aM.ev _ _=s.v from rfl,lZ,hf2]) ?_
  rw[her,hset]
  (repeat' (first|(with_reducible first|refine stp ?_|refine uP (by decide) ?_|refine uQ (fun _=>?_) (fun _=>?_))|((first|(with_reducible refine uA ?_;first|refine uB rfl ?_ ?_|(first|refine uC rfl ?_|refine uD rfl ?_)|refine uE rfl ?_)|(with_reducible refine uF ?_;first|refine uG rfl ?_ ?_|(first|refine uH rfl ?_|refine uI rfl ?_)|refine uJ rfl ?_|refine uK (uL ?_)|refine uK (uM ?_))|(with_reducible refine uN ?_;refine uO rfl ?_))<;>try simp only[ go_sem,reduceIte,jA,jB,jC,jD,reduceCtorEq,jE,jF])|(with_reducible refine uR ?_;refine uS rfl ?_)|omega))
  exact⟨_,hle _,rfl⟩
 rw[if_neg (by rw[←hn];exact h0),←hn,←hl2] at ha
 have hc0:(n==0)=false:=by simp[h0]
 rw[ha]
 (repeat' (first|(with_reducible first|refine stp ?_|refine uP (by decide) ?_|refine uQ (fun _=>?_) (fun _=>?_))|((first|(with_reducible refine uA ?_;first|refine uB rfl ?_ ?_|(first|refine uC rfl ?_|refine uD rfl ?_)|refine uE rfl ?_)|(with_reducible refine uF ?_;first|refine uG rfl ?_ ?_|(first|refine uH rfl ?_|refine uI rfl ?_)|refine uJ rfl ?_|refine uK (uL ?_)|refine uK (uM ?_))|(with_reducible refine uN ?_;refine uO rfl ?_))<;>try simp only[hb2,hm2,lZ,tA,hg2,hc0,hsf,go_sem,reduceIte,jA,jB,jC,jD,reduceCtorEq,jE,jF])|(with_reducible refine uR ?_;refine uS rfl ?_)|omega))
 exact⟨_,h2le,rfl⟩
end Go.Proofs.YthikfnmcjipobaaGreat
/-
Counts:what adding comes to. Plain laws. No conditions.
-/
namespace Go.Proofs.YthikfnmcjipobaaGreat
set_option linter.unusedSimpArgs false
set_option linter.unusedVariables false
set_option linter.unusedSectionVars false
open Go.RowKit
theorem zY{α:Type}{l:List α}{j:Nat}{x:α}:x∈l.eraseIdx j↔∃(i:Nat) (h:i<l.length),i≠j∧l[i]=x:=by
 rw[List.mem_eraseIdx_iff_getElem]
theorem aET{l:List CE}(hk:(l.map (·.s)).Nodup){i j:Nat}(hi:i<l.length)(hj:j<l.length)(h:l[i].s=l[j].s):i=j:=by
 have h1:=xR hk hi
 have h2:=xR hk hj
 rw[h,h2] at h1
 injection h1 with h1
 exact h1.symm
theorem aFV{l:List CE}{c:Nat}(h:mG l c)(s:Sp)(d:Int):
 mG (tR l c s d).1 (tR l c s d).2∧(∀t,gP (tR l c s d).1 t=if t=s then IntKind.i64.wrap (gP l s+d) else gP l t)∧(tR l c s d).1.length≤l.length+1:=by
 obtain⟨l1,j,c1,he,hj,hjs,hjn,hk1,hb1,hlt1,hcc,hnz1,hcase,hoth⟩:=aAg h s
 have hgj:l1.getD j default=l1[j]:=by rw[List.getD_eq_getElem?_getD,List.getElem?_eq_getElem hj];rfl
 have hlen:l1.length≤l.length+1:=by
  rcases hcase with⟨_,rfl,_⟩|⟨_,rfl,_⟩
  ·omega
  simp
 have ha:tR l c s d=if IntKind.i64.wrap (gP l s+d)=0 then (l1.eraseIdx j,c1) else (l1.set j ⟨s,IntKind.i64.wrap (gP l s+d),l1[j].b⟩,c1):=by
  unfold tR;rw[he];simp only[hgj]
 generalize IntKind.i64.wrap (gP l s+d)=n at ha⊢
 by_cases h0:n=0
 ·rw[if_pos h0] at ha
  rw[ha]
  have hmem:∀{x},x∈l1.eraseIdx j→x∈l1∧x.s≠s:=by
   intro x hx
   obtain⟨i,hi,hne,rfl⟩:=zY.1 hx
   refine⟨List.getElem_mem _,fun e=>hne (aET hk1 hi hj (e.trans hjs.symm))⟩
  have hsub:((l1.eraseIdx j).map (·.s)).Nodup:=(List.Sublist.map _ (List.eraseIdx_sublist _ _)).nodup hk1
  refine⟨⟨hsub,(List.Sublist.map _ (List.eraseIdx_sublist _ _)).nodup hb1,fun x hx=>hlt1 x (hmem hx).1,fun x hx=>(hnz1 x (hmem hx).1).resolve_right (hmem hx).2⟩,fun t=>?_,?_⟩
  ·split
   ·rename_i e
    subst e
    rw[kY (fun x hx=>(hmem hx).2),h0]
   rename_i e
   rw[←hoth t e]
   by_cases hex:∃x∈l1,x.s=t
   ·obtain⟨x,hx,rfl⟩:=hex
    have hx':x∈l1.eraseIdx j:=by
     obtain⟨i,hi,rfl⟩:=List.mem_iff_getElem.1 hx
     exact zY.2 ⟨i,hi,fun e2=>e (by subst e2;exact hjs),rfl⟩
    rw[mB hsub hx',mB hk1 hx]
   rw[kY (fun x hx e2=>hex ⟨x,(hmem hx).1,e2⟩),kY (fun x hx e2=>hex ⟨x,hx,e2⟩)]
  have:=List.length_eraseIdx_le l1 j
  show(l1.eraseIdx j).length≤_
  omega
 rw[if_neg h0] at ha
 rw[ha]
 obtain⟨l2,hl2⟩:∃l2,l2=l1.set j ⟨s,n,l1[j].b⟩:=⟨_,rfl⟩
 rw[←hl2]
 have hj2:j<l2.length:=by rw[hl2];simpa using hj
 have hat:l2[j]=⟨s,n,l1[j].b⟩:=by simp[hl2]
 have hks:l2.map (·.s)=l1.map (·.s):=by
  rw[hl2,List.map_set]
  have:(l1.map (·.s)).set j s=(l1.map (·.s)).set j ((l1.map (·.s))[j]'(by simpa using hj)):=by simp[hjs]
  rw[this,List.set_getElem_self]
 have hbs:l2.map (·.b)=l1.map (·.b):=by
  rw[hl2,List.map_set]
  have:(l1.map (·.b)).set j l1[j].b=(l1.map (·.b)).set j ((l1.map (·.b))[j]'(by simpa using hj)):=by simp
  rw[this,List.set_getElem_self]
 have hk2:(l2.map (·.s)).Nodup:=by rw[hks];exact hk1
 have hmem:∀{x},x∈l2→x=⟨s,n,l1[j].b⟩∨(x∈l1∧x.s≠s):=by
  intro x hx
  obtain⟨i,hi,rfl⟩:=List.mem_iff_getElem.1 hx
  have hi1:i<l1.length:=by rw[hl2] at hi;simpa using hi
  by_cases e:i=j
  ·subst e;exact .inl hat
  right
  have:l2[i]=l1[i]:=by simp[hl2,List.getElem_set,Ne.symm e]
  rw[this]
  exact⟨List.getElem_mem _,fun e2=>e (aET hk1 hi1 hj (e2.trans hjs.symm))⟩
 refine⟨⟨hk2,by rw[hbs];exact hb1,fun x hx=>?_,fun x hx=>?_⟩,fun t=>?_,?_⟩
 ·rcases hmem hx with rfl|hx
  ·exact hlt1 l1[j] (List.getElem_mem _)
  exact hlt1 x hx.1
 ·rcases hmem hx with rfl|hx
  ·exact h0
  exact(hnz1 x hx.1).resolve_right hx.2
 ·split
  ·rename_i e
   subst e
   have:=mB hk2 (List.getElem_mem hj2)
   rw[hat] at this
   exact this
  rename_i e
  rw[←hoth t e]
  by_cases hex:∃x∈l1,x.s=t
  ·obtain⟨x,hx,rfl⟩:=hex
   have hx':x∈l2:=by
    obtain⟨i,hi,rfl⟩:=List.mem_iff_getElem.1 hx
    have hne:i≠j:=fun e2=>e (by subst e2;exact hjs)
    have:l2[i]'(by rw[hl2];simpa using hi)=l1[i]:=by simp[hl2,List.getElem_set,Ne.symm hne]
    rw[←this];exact List.getElem_mem _
   rw[mB hk2 hx',mB hk1 hx]
  refine(kY fun x hx e2=>?_).trans (kY fun x hx e2=>hex ⟨x,hx,e2⟩).symm
  rcases hmem hx with rfl|hx
  ·exact e e2.symm
  exact hex ⟨x,hx.1,e2⟩
 show l2.length≤_
 rw[hl2,List.length_set];exact hlen
def iP:List CE→Nat→List Cg→List CE×Nat
 |l,c,[]=>(l,c)
 |l,c,x::r=>iP (tR l c x.s x.d).1 (tR l c x.s x.d).2 r
theorem vQ(x:Cg):∀(r:List Cg) (l:List CE) (c:Nat),iP l c (r++[x])=tR (iP l c r).1 (iP l c r).2 x.s x.d
 | [],_,_=>rfl
 |y::r,l,c=>vQ x r _ _
def vZ(f:Sp→Int)(l:List Cg)(s:Sp):Int:=l.foldl (fun n x=>if x.s=s then IntKind.i64.wrap (n+x.d) else n) (f s)
theorem rA:∀(r:List Cg) {l:List CE} {c:Nat},mG l c→mG (iP l c r).1 (iP l c r).2∧(∀t,gP (iP l c r).1 t=vZ (gP l) r t)∧(iP l c r).1.length≤l.length+r.length
 | [],l,c,h=>⟨h,fun _=>rfl,by simp[iP]⟩
 |x::r,l,c,h=>by
  obtain⟨h1,h2,h3⟩:=aFV h x.s x.d
  obtain⟨q1,q2,q3⟩:=rA r h1
  refine⟨q1,fun t=>?_,?_⟩
  ·rw[iP,q2 t]
   unfold vZ
   rw[List.foldl_cons,h2 t]
   congr 1
   by_cases e:x.s=t
   ·subst e;simp
   rw[if_neg e,if_neg (fun e2=>e e2.symm)]
  rw[iP,List.length_cons]
  omega
end Go.Proofs.YthikfnmcjipobaaGreat
/-
Counts:contracts of package count's small functions and of the document's. No conditions.
-/
namespace Go.Proofs.YthikfnmcjipobaaGreat
open Go.Proofs.YthikfnmcjipobaaGreat renaming iB→uA,gG→uB,dY→uC,dZ→uD,cP→uE,iC→uF,fH→uG,eA→uH,eB→uI,cQ→uJ,fG→uK,fE→uL,gH→uM,iD→uN,fP→uO,bR→uP,jW→uQ,iJ→uR,fZ→uS
open Nat renaming reduceAdd→jA,reduceSub→jB,reduceLT→jC,reduceLeDiff→jD,reduceEqDiff→jE
open Int renaming reduceToNat→jF,toNat_natCast→jG,natCast_add→jH,natCast_one→jI,natCast_zero→jJ
open List renaming length_map→jK,length_cons→jL,length_nil→jM,replicate_succ→jN,replicate_zero→jO,cons_append→jP,nil_append→jQ
set_option linter.unusedSimpArgs false
set_option linter.unusedVariables false
set_option linter.unusedSectionVars false
open Go.RowKit
attribute [local irreducible] IntKind.wrap
attribute [local go_sem] Option.some.injEq Prod.mk.injEq false_and and_false Bool.true_eq_false mF iS iW gE iR if_true Bool.true_and lV dO gW gF dN aA.ok aA.next LOp.ok LOp.next aZ.ok aZ.out aM.ev bK iA cB bO cK V.undef Sh.size gA fS cH aA.dok aA.dres LOp.dok LOp.dout kZ gX gB eX List.take_succ_cons List.take_zero List.take_nil List.drop_succ_cons List.drop_zero List.drop_nil List.set_cons_succ List.set_cons_zero List.getD_cons_succ List.getD_cons_zero jL jM List.map_cons List.map_nil List.all_cons List.all_nil List.mem_cons List.not_mem_nil jN jO jP jQ List.append_nil List.isEmpty_cons List.isEmpty_nil dS fF gQ Option.getD_some Option.isSome_some Option.isSome_none Nat.add_eq Nat.zero_add Nat.add_zero true_and and_true and_self true_implies implies_true false_implies forall_const forall_eq forall_eq_or_imp ne_eq not_false_eq_true not_true_eq_false Bool.not_true Bool.not_false decide_true decide_false Bool.and_true Bool.true_and Bool.and_false Bool.false_and true_or or_true false_or or_false eq_self Bool.false_eq_true lY iH fY aG fC eV dX dQ cI dP bC aY dD jG Int.toNat_zero List.take_length Hp.set_app Hp.del_app gS fR aA.plain LOp.isCall aA.dplain LOp.isStop eO kK gT lP fL V.gd_true V.gd_false fK eL eM fJ bH bB aR fI eW beq_true beq_false dE dF dG cC cD bI bJ cU eT cF cN dI bL dJ dK eQ eR bM cT bG cE eS bP dH bQ bD gL gJ gK gI dL bU dW cV eH eG eF eE eD bX bW cZ cY cX cA bZ bY eK eJ eI dC dB dA cO cG bT kI Hp.turn fO Option.isNone_some Option.isNone_none oE gD fN aA.plain2 LOp.isApp oH lI lJ iL fU fT
def cgs(o:Own)(l:List Cg):V:= .sl (.agg 4) o (l.map Cg.v)
theorem tK(n:Int)(h:Hp):cJ Tryz.prog 76 [.int .i64 n] h (.bool (decide (-1000000≤n)&&decide (n≤1000000))):=by
 refine bF (fun L=>trivial) fun h' nx hh=>aF L.count_within_low fun hd=>?_
 simp only[jL,jM,jA,jB,jN,jO,jP,jQ,V.undef]
 by_cases h0:-1000000≤n
 all_goals
  have hc:=decide_eq_true h0
  (repeat' (first|(with_reducible first|refine stp ?_|refine uP (by decide) ?_|refine uQ (fun _=>?_) (fun _=>?_))|((first|(with_reducible refine uA ?_;first|refine uB rfl ?_ ?_|(first|refine uC rfl ?_|refine uD rfl ?_)|refine uE rfl ?_)|(with_reducible refine uF ?_;first|refine uG rfl ?_ ?_|(first|refine uH rfl ?_|refine uI rfl ?_)|refine uJ rfl ?_|refine uK (uL ?_)|refine uK (uM ?_))|(with_reducible refine uN ?_;refine uO rfl ?_))<;>try simp only[hc,go_sem,reduceIte,jA,jB,jC,jD,reduceCtorEq,jE,jF])|(with_reducible refine uR ?_;refine uS rfl ?_)|omega))
  all_goals refine aJ h' (by repeat (first|exact Hp.le_refl _|refine aU hd ?_ (by omega) _|refine aX hd ?_ (by omega))) ⟨?_,rfl⟩
  all_goals ((try simp_all [hc])<;>(try omega))
theorem oU{α:Type}(f:α→V)(d:V)(l:List α)(i:Nat)(h:i<l.length):(l.map f).getD i d=f l[i]:=by
 rw[List.getD_eq_getElem?_getD,List.getElem?_map,List.getElem?_eq_getElem h];rfl
/-
Counts:lists of changes:law23's Changes,the document's Same. No conditions.
-/
/-
Counts:a map's keys in order;count.Sum. No conditions.
-/
/-
Counts:the document's Sum. No conditions.
-/
end Go.Proofs.YthikfnmcjipobaaGreat
