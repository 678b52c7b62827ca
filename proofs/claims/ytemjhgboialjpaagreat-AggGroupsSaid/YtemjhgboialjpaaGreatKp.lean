/-
Texts of this proof,one behind the other. No conditions.
-/
import Derived.Test.YtemjhgboialjpaaGreatKd
import Derived.Test.YtemjhgboialjpaaGreatKo
open Nat renaming reduceAdd→jA,reduceSub→jB,reduceLT→jC,reduceLeDiff→jD,reduceEqDiff→jE
open Int renaming reduceToNat→jF,toNat_natCast→jG,natCast_add→jH,natCast_one→jI,natCast_zero→jJ
open List renaming length_map→jK,length_cons→jL,length_nil→jM,replicate_succ→jN,replicate_zero→jO,cons_append→jP,nil_append→jQ
set_option linter.unusedSimpArgs false
set_option linter.unusedVariables false
set_option linter.unusedSectionVars false
namespace Go.Proofs.YtemjhgboialjpaaGreat
open Go.RowKit Go.Sort
attribute [local irreducible] IntKind.wrap
theorem gs(l:List V)(i j:Nat)(v d:V):(l.set i v).getD j d=if i=j∧j<l.length then v else l.getD j d:=by
 rw[List.getD_eq_getElem?_getD,List.getD_eq_getElem?_getD,List.getElem?_set]
 split
 ·rename_i e;subst e
  split
  ·rename_i h;rw[if_pos ⟨rfl,h⟩];rfl
  rename_i h;rw[if_neg (fun k=>h k.2),List.getElem?_eq_none (by omega)]
 rename_i e;rw[if_neg (fun k=>e k.1)]
theorem mZ:∀(n k:Nat) (ps:List (Nat×V)) (sl:List V),sl.length=n→(∀p∈ps,k≤p.1→p.1<k+n→sl.getD (p.1-k) V.undef=p.2)→WkL sl (aC n k ps)
 |0,k,ps,sl,hl,_=>by
  have:sl=[]:=List.length_eq_zero_iff.1 hl
  subst this;trivial
 |n+1,k,ps,[],hl,_=>by simp at hl
 |n+1,k,ps,a::sl,hl,h=>by
  have hl:sl.length=n:=by simpa using hl
  cases ps with
  |nil=>exact⟨.inr rfl,mZ n (k+1) [] sl hl (by simp)⟩
  |cons q r=>
   obtain⟨j,v⟩:=q
   have tail:∀p∈(j,v)::r,k+1≤p.1→p.1<k+1+n→sl.getD (p.1-(k+1)) V.undef=p.2:=fun p hp h1 h2=>by
    have:=h p hp (by omega) (by omega)
    rw[show p.1-k=(p.1-(k+1))+1 by omega,List.getD_cons_succ] at this
    exact this
   unfold aC
   split
   ·rename_i e
    subst e
    have h0:=h (j,v) (by simp) (Nat.le_refl _) (Nat.lt_add_of_pos_right (Nat.succ_pos n))
    rw[Nat.sub_self,List.getD_cons_zero] at h0
    exact⟨.inl h0.symm,mZ n (j+1) r sl hl fun p hp=>tail p (by simp[hp])⟩
   exact⟨.inr rfl,mZ n (k+1) _ sl hl tail⟩
structure RI(A:V)(es:List V)(x:Vl)(g:V)(nx n1:Nat)(hp:Hp)(D:Nat→Bool)(b1 b2:Nat)(s:St):Prop where
 len:s.sl.length=126
 s0:s.sl.getD 0 V.undef=g
 s1:s.sl.getD 1 V.undef=A
 s4:s.sl.getD 4 V.undef= .ptr nx (.agg 3) 0 0
 d0:D 0=true→s.sl.getD 38 V.undef=A
 d1:D 1=true→s.sl.getD 39 V.undef= .ept (.agg 3) es 0 0
 d2:D 2=true→s.sl.getD 40 V.undef=x.v
 d3:D 3=true→s.sl.getD 41 V.undef=A
 d4:D 4=true→s.sl.getD 42 V.undef= .ept (.agg 3) es 0 0
 d5:D 5=true→s.sl.getD 43 V.undef=x.v
 d6:D 6=true→s.sl.getD 9 V.undef= .ptr b1 (.agg 3) 0 0
 d7:D 7=true→s.sl.getD 10 V.undef= .ptr b2 (.agg 3) 0 0
 d8:D 8=true→s.sl.getD 7 V.undef= .int .i64 0
 d9:D 9=true→s.sl.getD 8 V.undef= .int .i64 0
 n6:D 6=true→n1≤b1∧b1<s.nx
 n7:D 7=true→n1≤b2∧b2<s.nx
 ne:D 6=true→D 7=true→b1≠b2
 h6:D 6=true→s.h b1=some (bx (if D 10=true then x else dF))
 h7:D 7=true→s.h b2=some (bx (if D 11=true then x else dF))
 dm:aX s.h s.nx
 sm:Hp.same n1 hp s.h
 nn:n1≤s.nx
theorem RI.slot{A:V}{es:List V}{x:Vl}{g:V}{nx n1:Nat}{hp:Hp}{D:Nat→Bool}{b1 b2:Nat}{sl:List V}{h:Hp}{n2:Nat}(r:RI A es x g nx n1 hp D b1 b2 ⟨sl,h,n2⟩)(t i:Nat)(v:V)
 (hi:(i=0∧t=38∧v=A)∨(i=1∧t=39∧v= .ept (.agg 3) es 0 0)∨(i=2∧t=40∧v=x.v)∨(i=3∧t=41∧v=A)∨(i=4∧t=42∧v= .ept (.agg 3) es 0 0)∨(i=5∧t=43∧v=x.v)∨(i=8∧t=7∧v= .int .i64 0)∨(i=9∧t=8∧v= .int .i64 0)):
 RI A es x g nx n1 hp (fun j=>if j=i then true else D j) b1 b2 ⟨sl.set t v,h,n2⟩:=by
 obtain⟨len,s0,s1,s4,d0,d1,d2,d3,d4,d5,d6,d7,d8,d9,n6,n7,ne,h6,h7,dm,sm,nn⟩:=r
 dsimp only at*
 rcases hi with⟨rfl,rfl,rfl⟩|⟨rfl,rfl,rfl⟩|⟨rfl,rfl,rfl⟩|⟨rfl,rfl,rfl⟩|⟨rfl,rfl,rfl⟩|⟨rfl,rfl,rfl⟩|⟨rfl,rfl,rfl⟩|⟨rfl,rfl,rfl⟩<;>
  (constructor<;>(try simp only[gs,len,List.length_set])<;>first|(simp;done)|(simp;assumption)|assumption)
section
variable{A:V}{es:List V}{x:Vl}{g:V}{nx n1:Nat}{hp:Hp}{D:Nat→Bool}{b1 b2:Nat}{sl:List V}{h:Hp}{n2:Nat}
theorem RI.box1(r:RI A es x g nx n1 hp D b1 b2 ⟨sl,h,n2⟩)(n10:D 10=false):RI A es x g nx n1 hp (fun j=>if j=6 then true else D j) n2 b2 ⟨sl.set 9 (.ptr n2 (.agg 3) 0 0),h.set n2 (bx dF),n2+1⟩:=by
 obtain⟨len,s0,s1,s4,d0,d1,d2,d3,d4,d5,d6,d7,d8,d9,n6,n7,ne,h6,h7,dm,sm,nn⟩:=r
 dsimp only at*
 constructor
 case n6=>exact fun _=>⟨nn,Nat.lt_succ_self _⟩
 case n7=>exact fun e=>by have:=n7 e;exact⟨this.1,Nat.lt_succ_of_lt this.2⟩
 case ne=>exact fun _ e=>by have:=n7 e;omega
 case h6=>exact fun _=>by simp[Hp.set,n10]
 case h7=>exact fun e=>by have:=n7 e;dsimp only[Hp.set];rw[if_neg (by omega)];simpa using h7 e
 case dm=>exact aX.set dm (Nat.lt_succ_self _) (Nat.le_succ _) _
 case sm=>exact dG sm nn _
 case nn=>exact Nat.le_succ_of_le nn
 all_goals ((try simp only[gs,len,List.length_set])<;>first|(simp;done)|(simp;assumption)|assumption)
theorem RI.box2(r:RI A es x g nx n1 hp D b1 b2 ⟨sl,h,n2⟩)(n11:D 11=false):RI A es x g nx n1 hp (fun j=>if j=7 then true else D j) b1 n2 ⟨sl.set 10 (.ptr n2 (.agg 3) 0 0),h.set n2 (bx dF),n2+1⟩:=by
 obtain⟨len,s0,s1,s4,d0,d1,d2,d3,d4,d5,d6,d7,d8,d9,n6,n7,ne,h6,h7,dm,sm,nn⟩:=r
 dsimp only at*
 constructor
 case n7=>exact fun _=>⟨nn,Nat.lt_succ_self _⟩
 case n6=>exact fun e=>by have:=n6 e;exact⟨this.1,Nat.lt_succ_of_lt this.2⟩
 case ne=>exact fun e _=>by have:=n6 e;omega
 case h7=>exact fun _=>by simp[Hp.set,n11]
 case h6=>exact fun e=>by have:=n6 e;dsimp only[Hp.set];rw[if_neg (by omega)];simpa using h6 e
 case dm=>exact aX.set dm (Nat.lt_succ_self _) (Nat.le_succ _) _
 case sm=>exact dG sm nn _
 case nn=>exact Nat.le_succ_of_le nn
 all_goals ((try simp only[gs,len,List.length_set])<;>first|(simp;done)|(simp;assumption)|assumption)
theorem RI.st1(r:RI A es x g nx n1 hp D b1 b2 ⟨sl,h,n2⟩)(q6:D 6=true):RI A es x g nx n1 hp (fun j=>if j=10 then true else D j) b1 b2 ⟨sl,h.set b1 (bx x),n2+1⟩:=by
 obtain⟨len,s0,s1,s4,d0,d1,d2,d3,d4,d5,d6,d7,d8,d9,n6,n7,ne,h6,h7,dm,sm,nn⟩:=r
 dsimp only at*
 constructor
 case h6=>exact fun _=>by simp[Hp.set]
 case h7=>exact fun e=>by have:=ne q6 e;dsimp only[Hp.set];rw[if_neg (by omega)];simpa using h7 e
 case n6=>exact fun e=>by have:=n6 e;exact⟨this.1,Nat.lt_succ_of_lt this.2⟩
 case n7=>exact fun e=>by have:=n7 (by simpa using e);exact⟨this.1,Nat.lt_succ_of_lt this.2⟩
 case dm=>exact aX.set dm (Nat.lt_succ_of_lt (n6 q6).2) (Nat.le_succ _) _
 case nn=>exact Nat.le_succ_of_le nn
 case sm=>exact dG sm (n6 q6).1 _
 all_goals ((try simp only[gs,len,List.length_set])<;>first|(simp;done)|(simp;assumption)|assumption)
theorem RI.st2(r:RI A es x g nx n1 hp D b1 b2 ⟨sl,h,n2⟩)(q7:D 7=true):RI A es x g nx n1 hp (fun j=>if j=11 then true else D j) b1 b2 ⟨sl,h.set b2 (bx x),n2+1⟩:=by
 obtain⟨len,s0,s1,s4,d0,d1,d2,d3,d4,d5,d6,d7,d8,d9,n6,n7,ne,h6,h7,dm,sm,nn⟩:=r
 dsimp only at*
 constructor
 case h7=>exact fun _=>by simp[Hp.set]
 case h6=>exact fun e=>by have:=ne e q7;dsimp only[Hp.set];rw[if_neg (by omega)];simpa using h6 e
 case n6=>exact fun e=>by have:=n6 (by simpa using e);exact⟨this.1,Nat.lt_succ_of_lt this.2⟩
 case n7=>exact fun e=>by have:=n7 e;exact⟨this.1,Nat.lt_succ_of_lt this.2⟩
 case dm=>exact aX.set dm (Nat.lt_succ_of_lt (n7 q7).2) (Nat.le_succ _) _
 case nn=>exact Nat.le_succ_of_le nn
 case sm=>exact dG sm (n7 q7).1 _
 all_goals ((try simp only[gs,len,List.length_set])<;>first|(simp;done)|(simp;assumption)|assumption)
end
set_option maxRecDepth 100000 in
set_option maxHeartbeats 4000000 in
theorem zK(g:Int)(o:Own)(l:List Vl)(hl:l.length≤1000000)(hs:∀x∈l,x.sm)(h:Hp):bH Tryz.prog 63 [.int .i64 g,vls o l] h (.tup [(cH g l).1.v, .int .i64 (cH g l).2]):=by
 refine aT (fun L=>⟨Vl.names_v L _,trivial,trivial⟩) fun h' nx hh=>aF L.corollaryref16_Fold_low fun hd=>?_
 simp only[jL,jM,jA,jB,jN,jO,jP,jQ,V.undef]
 have hzf:V.fits (.agg 3) zvl=true:=rfl
 by_cases h1:g<1
 ·have c1:decide (g<1)=true:=dct
  refine aue c1 ?_
  refine aQ (by simp only[go_sem,reduceIte,jA,jB,jC,jD,reduceCtorEq,jE,jF]) h' (leo hd) ⟨?_,rfl⟩
  simp only[go_sem,reduceIte,jA,jB,jC,jD,reduceCtorEq,jE,jF]
  unfold cH;rw[if_pos (.inl h1)];rfl
 have c1:decide (g<1)=false:=dcf
 by_cases h2:4<g
 ·have c2:decide (4<g)=true:=dct
  refine aue (e2 c1 c2) ?_
  refine aQ (by simp only[go_sem,reduceIte,jA,jB,jC,jD,reduceCtorEq,jE,jF]) h' (leo hd) ⟨?_,rfl⟩
  simp only[go_sem,reduceIte,jA,jB,jC,jD,reduceCtorEq,jE,jF]
  unfold cH;rw[if_pos (.inr h2)];rfl
 have c2:decide (4<g)=false:=dcf
 have hgr:¬(g<1∨4<g):=by omega
 by_cases h3:l=[]
 ·have c3:((l.length:Int)==0)=true:=by rw[h3];rfl
  refine aue (e4 c1 c2 c3 (@jK Vl V)) ?_
  refine aQ (by simp only[go_sem,reduceIte,jA,jB,jC,jD,reduceCtorEq,jE,jF]) h' (leo hd) ⟨?_,rfl⟩
  simp only[go_sem,reduceIte,jA,jB,jC,jD,reduceCtorEq,jE,jF]
  unfold cH;rw[if_neg hgr,if_pos h3];rfl
 have hlp:0<l.length:=List.length_pos_iff.2 h3
 have c3:((l.length:Int)==0)=false:=bqf
 refine aue (e4 c1 c2 c3 (@jK Vl V)) ?_
 refine aY (fun i:Nat=>aC 126 0 [(0, .int .i64 g),(1,vls o l),(4, .ptr nx (.agg 3) 0 0),(6, .int .i64 i)])
  (fun i hp nx1=>i≤l.length∧nx+1≤nx1∧aX hp nx1∧Hp.same nx h' hp∧hp nx=some (.arr (.agg 3) [zvl])∧∀x∈l.take i,cY x=true)
  (fun i=>l.length-i) 0 ⟨Nat.zero_le _,by first|omega|(dsimp only;omega),dmo hd,kep Hp.same.rfl',by simp[Hp.set,zvl,Vl.v],by simp⟩ (by simp only[WkL,aC,jH,jI,jJ,go_sem,reduceIte,jA,jB,jC,jD,reduceCtorEq,jE,jF]) ?_
 rintro i hp nx1 ⟨hi,hnx,hdm,hsm,hbx,hright⟩
 generalize hQ:bU _ _ _ _ _=Q0
 simp only[aC,go_sem,reduceIte,jA,jB,jC,jD,reduceCtorEq,jE,jF]
 have hlt0:nx<nx1:=by omega
 rcases Nat.lt_or_ge i l.length with hlt|hge
 ·have hc:decide ((i:Int)<(l.length:Int))=true:=dct
  have hw:IntKind.i64.wrap ((i:Int)+1)=((i+1:Nat):Int):=wrp
  have hg:=aO Vl.v l i hlt
  have C1:=fun h=>vE l[i] (hs _ (List.getElem_mem _)) h
  cases hr:cY l[i] with
  |true=>
   rw[hr] at C1
   refine aue (e9 hc hw hg hlt (@jK Vl V) jG Vl.fits_v Bool.not_true Bool.not_false) ?_
   rw[←hQ]
   refine aM (i+1) (by omega) ⟨hlt,by omega,dmo hdm,kep hsm,hbx,fun y hy=>?_⟩ (by simp only[WkL,aC,jH,jI,jJ,hw,go_sem,reduceIte,jA,jB,jC,jD,reduceCtorEq,jE,jF])
   rw[List.take_succ_eq_append_getElem hlt] at hy
   rcases List.mem_append.1 hy with hy|hy
   ·exact hright y hy
   rw[List.mem_singleton.1 hy];exact hr
  |false=>
   rw[hr] at C1
   refine aue (e12 hc hw hg hlt (@jK Vl V) jG Vl.fits_v Bool.not_true Bool.not_false hbx hlt0 hzf) ?_
   rw[←hQ]
   refine au ?_
   refine aQ (by simp only[go_sem,reduceIte,jA,jB,jC,jD,reduceCtorEq,jE,jF]) h' (lef hd (hsm.le hd (Hp.le_refl _))) ⟨?_,rfl⟩
   simp only[go_sem,reduceIte,jA,jB,jC,jD,reduceCtorEq,jE,jF]
   unfold cH
   rw[if_neg hgr,if_neg h3,if_pos (fun k=>by rw[k _ (List.getElem_mem hlt)] at hr;cases hr)];rfl
 have hc:decide ((i:Int)<(l.length:Int))=false:=dcf
 rw[List.take_of_length_le hge] at hright
 refine aue hc ?_
 rw[←hQ]
 refine aus ?_
 clear hQ Q0 hge hi hc
 obtain⟨x0,l',hxl⟩:∃x l',l=x::l':=by
  cases l with
  |nil=>exact absurd rfl h3
  |cons a b=>exact⟨a,b,rfl⟩
 refine tR ?_
 have hfA:V.fits (.agg 3) x0.v=true:=x0.fits_v
 obtain⟨es,hes⟩:∃es,es=l.map Vl.v:=⟨_,rfl⟩
 have hel:0<es.length:=by rw[hes];simpa using hlp
 have he0:es.getD 0 V.undef=x0.v:=by rw[hes,hxl];rfl
 refine⟨fun D s=>∃b1 b2,RI (.sl (.agg 3) o es) es x0 (.int .i64 g) nx nx1 hp D b1 b2 s,⟨0,0,?_⟩,?_,?_⟩
 ·constructor<;>first|exact hdm|exact Hp.same.rfl'|exact Nat.le_refl _|(intro h;cases h)|(rw[hes];rfl)|rfl|skip
 ·rintro D i oo deps ⟨sl,hq,n2⟩ hi hDi hdeps hcl ⟨b1,b2,r⟩
  rcases i with _|_|_|_|_|_|_|_|_|_|_|_|i
  all_goals first|(injection hi with hi;injection hi with q1 q2;subst q1;subst q2)|skip
  all_goals try simp only[List.mem_cons,List.not_mem_nil,or_false,forall_eq_or_imp,forall_eq,false_implies,implies_true] at hdeps
  all_goals simp only[aW,LOp.run,LOp.sem,aS.sem,aG.ev,r.s1,bC]
  ·exact⟨b1,b2,r.slot 38 0 _ (by simp)⟩
  ·simp only[r.d0 hdeps]
   exact⟨trivial,Int.le_refl _,by omega,b1,b2,r.slot 39 1 _ (by simp)⟩
  ·simp only[r.d1 hdeps.2]
   exact⟨hel,by simp[bV],b1,b2,r.slot 40 2 _ (by rw[aL (by rw[he0];exact hfA),he0];simp)⟩
  ·exact⟨b1,b2,r.slot 41 3 _ (by simp)⟩
  ·simp only[r.d3 hdeps]
   exact⟨trivial,Int.le_refl _,by omega,b1,b2,r.slot 42 4 _ (by simp)⟩
  ·simp only[r.d4 hdeps.2]
   exact⟨hel,by simp[bV],b1,b2,r.slot 43 5 _ (by rw[aL (by rw[he0];exact hfA),he0];simp)⟩
  ·exact⟨rfl,n2,b2,r.box1 (by
    cases h:D 10 with
    |false=>rfl
    |true=>have:=hcl 10 _ _ rfl h 6 (by simp);rw[hDi] at this;cases this)⟩
  ·exact⟨rfl,b1,n2,r.box2 (by
    cases h:D 11 with
    |false=>rfl
    |true=>have:=hcl 11 _ _ rfl h 7 (by simp);rw[hDi] at this;cases this)⟩
  ·exact⟨b1,b2,r.slot 7 8 _ (by simp)⟩
  ·exact⟨b1,b2,r.slot 8 9 _ (by simp)⟩
  ·have q6:=hdeps.2.2.2.1
   have e1:=r.h6 q6
   have e2:=r.d2 hdeps.2.2.1
   dsimp only at e1 e2
   rw[hDi] at e1
   simp only[r.d6 q6,e1,e2]
   exact⟨trivial,Nat.zero_lt_one,by simp[bV],hfA,b1,b2,by
    have:=r.st1 q6
    simp only[Bool.false_eq_true,if_false,List.getD_cons_zero,List.set_cons_zero]
    rw[aN (show V.fits (.agg 3) dF.v=true from rfl) hfA]
    exact this⟩
  ·have q7:=hdeps.2.2.2.2.2.2.2.1
   have e1:=r.h7 q7
   have e2:=r.d5 hdeps.2.2.2.2.2.1
   dsimp only at e1 e2
   rw[hDi] at e1
   simp only[r.d7 q7,e1,e2]
   exact⟨trivial,Nat.zero_lt_one,by simp[bV],hfA,b1,b2,by
    have:=r.st2 q7
    simp only[Bool.false_eq_true,if_false,List.getD_cons_zero,List.set_cons_zero]
    rw[aN (show V.fits (.agg 3) dF.v=true from rfl) hfA]
    exact this⟩
  simp[L.corollaryref16_Fold_r10] at hi
 rintro D ⟨sl,hp2,n2⟩ hD ⟨b1,b2,r⟩
 have dd:=fun i (h:i<12)=>hD i h
 obtain⟨len,s0,s1,s4,_,_,_,_,_,_,d6,d7,d8,d9,n6,n7,ne,h6,h7,dm,sm,nn⟩:=r
 dsimp only at*
 have d6:=d6 (dd 6 (by omega))
 have d7:=d7 (dd 7 (by omega))
 have d8:=d8 (dd 8 (by omega))
 have d9:=d9 (dd 9 (by omega))
 have n6:=n6 (dd 6 (by omega))
 have n7:=n7 (dd 7 (by omega))
 have ne:=ne (dd 6 (by omega)) (dd 7 (by omega))
 have h6:=h6 (dd 6 (by omega))
 have h7:=h7 (dd 7 (by omega))
 rw[dd 10 (by omega),if_pos rfl] at h6
 rw[dd 11 (by omega),if_pos rfl] at h7
 refine dN ?_
 refine iR ⟨aC 126 0 [(0, .int .i64 g),(1,vls o l),(4, .ptr nx (.agg 3) 0 0),(7, .int .i64 0),(8, .int .i64 0),(9, .ptr b1 (.agg 3) 0 0),(10, .ptr b2 (.agg 3) 0 0)],hp2,n2⟩ ⟨mZ 126 0 _ sl len ?_,Hp.le_refl _,Nat.le_refl _⟩ ?_
 ·simp only[List.mem_cons,List.not_mem_nil,or_false,forall_eq_or_imp,forall_eq,Nat.sub_zero]
  rw[s0,s1,s4,d6,d7,d8,d9,hes]
  simp
 have hbx2:hp2 nx=some (.arr (.agg 3) [zvl]):=by rw[sm nx (by omega)];exact hbx
 have hsm2:Hp.same nx h' hp2:=fun m hm=>by rw[sm m (by omega)];exact hsm m hm
 clear hdm hsm hbx hD dd d6 d7 d8 d9 s0 s1 s4 len hnx sm
 exact zJ g o l hl h1 h2 h3 hright x0 (by rw[hxl];simp) h' nx hd hp2 n2 b1 b2 (by omega) (by omega) (by omega) ne h6 h7 dm hbx2 hsm2
end Go.Proofs.YtemjhgboialjpaaGreat
