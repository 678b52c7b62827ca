/-
Texts of this proof,one behind the other. No conditions.
-/
import Derived.Test.YtemjhgboialjpaaGreatKd
import Derived.Test.YtemjhgboialjpaaGreatKh
open Nat renaming reduceAdd→jA,reduceSub→jB,reduceLT→jC,reduceLeDiff→jD,reduceEqDiff→jE
open Int renaming reduceToNat→jF,toNat_natCast→jG,natCast_add→jH,natCast_one→jI,natCast_zero→jJ
open List renaming length_map→jK,length_cons→jL,length_nil→jM,replicate_succ→jN,replicate_zero→jO,cons_append→jP,nil_append→jQ
set_option linter.unusedSimpArgs false
set_option linter.unusedVariables false
set_option linter.unusedSectionVars false
namespace Go.Proofs.YtemjhgboialjpaaGreat
open Go.RowKit Go.Sort
attribute [local irreducible] IntKind.wrap
theorem aIx(x y:Pa):veq (.plain (.agg 2) [.bool, .int]) x.v y.v=some (decide (x=y)):=by
 obtain⟨n,a⟩:=x;obtain⟨n',a'⟩:=y
 simp only[Pa.v,go_sem,reduceIte,jA,jB,jC,jD,reduceCtorEq,jE,jF]
 simp only[Pa.mk.injEq,Option.some.injEq]
 rw[Bool.eq_iff_iff]
 simp
theorem Acc.keep{h h2:Hp}{n0:Nat}{o:Own}{es:List V}(a:Acc h n0 o es)(hk:∀id,o= .tok id→h2 id=h id):Acc h2 n0 o es:=by
 rcases a with a|⟨h1,id,h2',rfl,h3⟩
 ·exact .inl a
 exact .inr ⟨h1,id,h2',rfl,by rw[hk id rfl];exact h3⟩
theorem Acc.lt{h:Hp}{n0 nx:Nat}{o:Own}{es:List V}(a:Acc h n0 o es)(hd:aH h nx){id:Nat}(e:o= .tok id):id<nx:=by
 rcases a with⟨_,rfl⟩|⟨_,id',_,rfl,h3⟩
 ·cases e
 injection e with e;subst e;exact hd _ _ h3
theorem aJj{l:List Pa}{i:Nat}(h:i<l.length):(l.map Pa.v).getD i (.tup [])=(gP l i).v:=by
 have:=bE Pa.v l i h
 rw[this]
 unfold gP
 rw[List.getD_eq_getElem?_getD,List.getElem?_eq_getElem h]
 rfl
set_option maxRecDepth 100000 in
set_option maxHeartbeats 4000000 in
theorem aEf(o:Own)(l:List Pa)(hl:l.length≤100000)(h:Hp):aW Tryz.prog 226 [pas o l] h (lst (.agg 2) ((mX l).map Pa.v)):=by
 refine cK (fun L=>cE (fun L=>bI (Pa.names_v L) _) L) fun h' nx hh=>aD L.corollaryref22_Sieve_low fun hd=>?_
 simp only[jL,jM,jA,jB,jN,jO,jP,jQ,V.undef]
 refine aue trivial ?_
 refine aP (fun q:Nat×Own×Own=>aB 79 0 [(0,pas o l),(3,pas q.2.1 (sOf false l q.1)),(4,pas q.2.2 (sOf true l q.1)),(5, .int .i64 q.1)])
  (fun q hp nx1=>q.1≤l.length∧nx≤nx1∧aH hp nx1∧Hp.same nx h' hp∧Acc hp nx q.2.1 ((sOf false l q.1).map Pa.v)∧Acc hp nx q.2.2 ((sOf true l q.1).map Pa.v)∧∀id,q.2.1= .tok id→q.2.2≠ .tok id)
  (fun q=>l.length-q.1) (0, .nil, .nil) ⟨Nat.zero_le _,Nat.le_refl _,hd,Hp.same.rfl',Acc.nil,Acc.nil,fun id e=>by cases e⟩ ?_ ?_
 ·simp only[WkL,aB,jH,jI,jJ,pas,aIN,List.map_nil,go_sem,reduceIte,jA,jB,jC,jD,reduceCtorEq,jE,jF]
 rintro⟨i,o3,o4⟩ hp nx1 ⟨hi,hnx,hdm,hsm,ha3,ha4,hne⟩
 generalize hQ:bG _ _ _ _ _=Q0
 dsimp only at hi ha3 ha4 hne
 simp only[aB,go_sem,reduceIte,jA,jB,jC,jD,reduceCtorEq,jE,jF]
 have s3:=aEd false l i
 have s4:=aEd true l i
 have hl3:=aGO false l i
 have hl4:=aGO true l i
 rcases Nat.lt_or_ge i l.length with hlt|hge
 ·have hc:decide ((i:Int)<(l.length:Int))=true:=decide_eq_true (by omega)
  have hg:=aJj hlt
  have hw:IntKind.i64.wrap ((i:Int)+1)=((i+1:Nat):Int):=by rw[aV]<;>omega
  refine aue hc ?_
  refine aP (fun k:Nat=>aB 79 0 [(0,pas o l),(3,pas o3 (sOf false l i)),(4,pas o4 (sOf true l i)),(5, .int .i64 i),(6, .bool (mT l i k)),(7, .int .i64 k)])
   (fun k hq nx2=>k≤l.length∧nx1≤nx2∧hq=hp)
   (fun k=>l.length-k) 0 ⟨Nat.zero_le _,Nat.le_refl _,rfl⟩ ?_ ?_
  ·simp only[WkL,aB,jH,jI,jJ,pas,aGr,go_sem,reduceIte,jA,jB,jC,jD,reduceCtorEq,jE,jF]
  rintro k hq nx2 ⟨hk,hnx2,rfl⟩
  generalize hQ1:bG _ _ _ _ _=Q1
  simp only[aB,go_sem,reduceIte,jA,jB,jC,jD,reduceCtorEq,jE,jF]
  rcases Nat.lt_or_ge k l.length with hlk|hgk
  ·have hck:decide ((k:Int)<(l.length:Int))=true:=decide_eq_true (by omega)
   have hgk:=aJj hlk
   have hwk:IntKind.i64.wrap ((k:Int)+1)=((k+1:Nat):Int):=by rw[aV]<;>omega
   have hks:=aGs l i k
   have hbd:aGF l i k=((gP l k).le (gP l i)&&(decide (gP l k≠gP l i)||decide (k<i))):=rfl
   have hfi:=Pa.fits_v (gP l i)
   have hfk:=Pa.fits_v (gP l k)
   cases h1:(gP l k).le (gP l i) with
   |false=>
    have hn:mT l i (k+1)=mT l i k:=by rw[hks,hbd,h1];simp
    have D1:=fun h=>gQ (gP l k) (gP l i) h
    refine aue (ee9 hck hg hgk hlk hlt hwk hfi hfk h1) ?_
    rw[←hQ1]
    refine aC (k+1) (by omega) ⟨hlk,by omega,rfl⟩ ?_
    simp only[WkL,aB,jH,jI,jJ,pas,hn,go_sem,reduceIte,jA,jB,jC,jD,reduceCtorEq,jE,jF]
   |true=>
    by_cases h2:gP l k=gP l i
    ·have hv:veq (.plain (.agg 2) [.bool, .int]) (gP l k).v (gP l i).v=some true:=by rw[aIx];simp[h2]
     by_cases h3:k<i
     ·have hn:mT l i (k+1)=false:=by rw[hks,hbd,h1];simp[h3]
      have hci:decide ((k:Int)<(i:Int))=true:=decide_eq_true (by omega)
      have D1:=fun h=>gQ (gP l k) (gP l i) h
      refine aue (aDt hck hg hgk hlk hlt hwk hfi hfk h1 hv hci) ?_
      rw[←hQ1]
      refine aC (k+1) (by omega) ⟨hlk,by omega,rfl⟩ ?_
      simp only[WkL,aB,jH,jI,jJ,pas,hn,go_sem,reduceIte,jA,jB,jC,jD,reduceCtorEq,jE,jF]
     have hn:mT l i (k+1)=mT l i k:=by rw[hks,hbd,h1];simp[h2,h3]
     have hci:decide ((k:Int)<(i:Int))=false:=decide_eq_false (by omega)
     have D1:=fun h=>gQ (gP l k) (gP l i) h
     refine aue (aDt hck hg hgk hlk hlt hwk hfi hfk h1 hv hci) ?_
     rw[←hQ1]
     refine aC (k+1) (by omega) ⟨hlk,by omega,rfl⟩ ?_
     simp only[WkL,aB,jH,jI,jJ,pas,hn,go_sem,reduceIte,jA,jB,jC,jD,reduceCtorEq,jE,jF]
    have hv:veq (.plain (.agg 2) [.bool, .int]) (gP l k).v (gP l i).v=some false:=by rw[aIx];simp[h2]
    have hn:mT l i (k+1)=false:=by rw[hks,hbd,h1];simp[h2]
    have D1:=fun h=>gQ (gP l k) (gP l i) h
    refine aue (aJq hck hg hgk hlk hlt hwk hfi hfk h1 hv) ?_
    rw[←hQ1]
    refine aC (k+1) (by omega) ⟨hlk,by omega,rfl⟩ ?_
    simp only[WkL,aB,jH,jI,jJ,pas,hn,go_sem,reduceIte,jA,jB,jC,jD,reduceCtorEq,jE,jF]
  have hck:decide ((k:Int)<(l.length:Int))=false:=decide_eq_false (by omega)
  have hkl:k=l.length:=by omega
  subst hkl
  have hgv:(gP l i).v= .agg [.bool (gP l i).n, .int .i64 (gP l i).a]:=rfl
  have hgi:(l.map Pa.v).getD i (.tup [])= .agg [.bool (gP l i).n, .int .i64 (gP l i).a]:=hg
  have hb3:((sOf false l i).length+1)*16≤140737488355328:=by omega
  have hb4:((sOf true l i).length+1)*16≤140737488355328:=by omega
  refine aue hck ?_
  rw[←hQ1]
  have hkd:mT l i l.length=nT l i:=rfl
  rw[hkd]
  have hdm2:=hdm.up hnx2
  cases hkp:nT l i with
  |false=>
   rw[hkp] at s3 s4
   have e3:sOf false l (i+1)=sOf false l i:=by rw[s3];simp
   have e4:sOf true l (i+1)=sOf true l i:=by rw[s4];simp
   refine aue hw ?_
   rw[←hQ]
   refine aC (i+1,o3,o4) (by dsimp only;omega) ⟨hlt,by omega,(by(try dsimp only);repeat (first|exact aH.up hdm2 (by omega)|refine aH.set2 ?_ (by omega) _|refine aH.del ?_|refine aH.delO ?_ _)),hsm,by dsimp only;rw[e3];exact ha3,by dsimp only;rw[e4];exact ha4,hne⟩ ?_
   simp only[WkL,aB,jH,jI,jJ,pas,e3,e4,go_sem,reduceIte,jA,jB,jC,jD,reduceCtorEq,jE,jF]
  |true=>
   rw[hkp] at s3 s4
   cases hnn:(gP l i).n with
   |true=>
    rw[hnn] at s3 s4 hgi
    have e3:sOf false l (i+1)=sOf false l i:=by rw[s3];simp
    have e4:(sOf true l (i+1)).map Pa.v=(sOf true l i).map Pa.v++[.agg [.bool true, .int .i64 (gP l i).a]]:=by
     rw[s4]
     simp[Pa.v,hnn]
    rcases ha4 with⟨he,rfl⟩|⟨hne4,id,hid,rfl,htip⟩
    ·refine aue (ee5 hgi hlt hw he hb4) ?_
     rw[←hQ]
     refine aC (i+1,o3, .tok (nx2+1)) (by dsimp only;omega) ⟨hlt,by omega,(by(try dsimp only);repeat (first|exact aH.up hdm2 (by omega)|refine aH.set2 ?_ (by omega) _|refine aH.del ?_|refine aH.delO ?_ _)),(by(try dsimp only);repeat (first|exact hsm|refine aS ?_ (by omega) _|refine aT ?_ (by omega))),?_,?_,?_⟩ ?_
     ·dsimp only;rw[e3]
      refine ha3.keep fun id e=>?_
      have:=ha3.lt hdm2 e
      unfold Hp.set;rw[if_neg (by omega),if_neg (by omega)]
     ·dsimp only;rw[e4];exact Acc.new _ (by simp) (by omega)
     ·intro id e e2;injection e2 with e2;have:=ha3.lt hdm2 e;omega
     simp only[WkL,aB,jH,jI,jJ,pas,e3,e4,he,go_sem,reduceIte,jA,jB,jC,jD,reduceCtorEq,jE,jF]
    have hidn:id<nx2:=hdm2 id _ htip
    refine aue (ee6 hgi hlt hw htip hidn hb4) ?_
    rw[←hQ]
    refine aC (i+1,o3, .tok (nx2+1)) (by dsimp only;omega) ⟨hlt,by omega,(by(try dsimp only);repeat (first|exact aH.up hdm2 (by omega)|refine aH.set2 ?_ (by omega) _|refine aH.del ?_|refine aH.delO ?_ _)),(by(try dsimp only);repeat (first|exact hsm|refine aS ?_ (by omega) _|refine aT ?_ (by omega))),?_,?_,?_⟩ ?_
    ·dsimp only;rw[e3]
     refine ha3.keep fun id' e=>?_
     have:=ha3.lt hdm2 e
     have hq:id'≠id:=fun e2=>hne id' e (by rw[e2])
     have e1:(id'=nx2+1)=False:=eq_false (by omega)
     have e2:(id'=id)=False:=eq_false hq
     have e3:(id'=nx2)=False:=eq_false (by omega)
     simp only[Hp.set,Hp.del,e1,e2,e3,if_false]
    ·dsimp only;rw[e4];exact Acc.new _ (by simp) (by omega)
    ·intro id e e2;injection e2 with e2;have:=ha3.lt hdm2 e;omega
    simp only[WkL,aB,jH,jI,jJ,pas,e3,e4,go_sem,reduceIte,jA,jB,jC,jD,reduceCtorEq,jE,jF]
   |false=>
    rw[hnn] at s3 s4 hgi
    have e4:sOf true l (i+1)=sOf true l i:=by rw[s4];simp
    have e3:(sOf false l (i+1)).map Pa.v=(sOf false l i).map Pa.v++[.agg [.bool false, .int .i64 (gP l i).a]]:=by
     rw[s3]
     simp[Pa.v,hnn]
    rcases ha3 with⟨he,rfl⟩|⟨hne3,id,hid,rfl,htip⟩
    ·refine aue (ee5 hgi hlt hw he hb3) ?_
     rw[←hQ]
     refine aC (i+1, .tok (nx2+1),o4) (by dsimp only;omega) ⟨hlt,by omega,(by(try dsimp only);repeat (first|exact aH.up hdm2 (by omega)|refine aH.set2 ?_ (by omega) _|refine aH.del ?_|refine aH.delO ?_ _)),(by(try dsimp only);repeat (first|exact hsm|refine aS ?_ (by omega) _|refine aT ?_ (by omega))),?_,?_,?_⟩ ?_
     ·dsimp only;rw[e3];exact Acc.new _ (by simp) (by omega)
     ·dsimp only;rw[e4]
      refine ha4.keep fun id e=>?_
      have:=ha4.lt hdm2 e
      unfold Hp.set;rw[if_neg (by omega),if_neg (by omega)]
     ·intro id e e2;injection e with e;have:=ha4.lt hdm2 e2;omega
     simp only[WkL,aB,jH,jI,jJ,pas,e3,e4,he,go_sem,reduceIte,jA,jB,jC,jD,reduceCtorEq,jE,jF]
    have hidn:id<nx2:=hdm2 id _ htip
    refine aue (ee6 hgi hlt hw htip hidn hb3) ?_
    rw[←hQ]
    refine aC (i+1, .tok (nx2+1),o4) (by dsimp only;omega) ⟨hlt,by omega,(by(try dsimp only);repeat (first|exact aH.up hdm2 (by omega)|refine aH.set2 ?_ (by omega) _|refine aH.del ?_|refine aH.delO ?_ _)),(by(try dsimp only);repeat (first|exact hsm|refine aS ?_ (by omega) _|refine aT ?_ (by omega))),?_,?_,?_⟩ ?_
    ·dsimp only;rw[e3];exact Acc.new _ (by simp) (by omega)
    ·dsimp only;rw[e4]
     refine ha4.keep fun id' e=>?_
     have:=ha4.lt hdm2 e
     have hq:id'≠id:=fun e2=>hne id rfl (by rw[←e2];exact e)
     have e1:(id'=nx2+1)=False:=eq_false (by omega)
     have e2:(id'=id)=False:=eq_false hq
     have e3:(id'=nx2)=False:=eq_false (by omega)
     simp only[Hp.set,Hp.del,e1,e2,e3,if_false]
    ·intro id e e2;injection e with e;have:=ha4.lt hdm2 e2;omega
    simp only[WkL,aB,jH,jI,jJ,pas,e3,e4,go_sem,reduceIte,jA,jB,jC,jD,reduceCtorEq,jE,jF]
 have hc:decide ((i:Int)<(l.length:Int))=false:=decide_eq_false (by omega)
 have hil:i=l.length:=by omega
 subst hil
 have hsl:(mX l).map Pa.v=(sOf false l l.length).map Pa.v++(sOf true l l.length).map Pa.v:=by unfold mX;rw[List.map_append]
 refine aue hc ?_
 rw[←hQ]
 rw[hsl]
 dsimp only[pas]
 generalize hA:(sOf false l l.length).map Pa.v=A at*
 generalize hB:(sOf true l l.length).map Pa.v=B at*
 have hAl:A.length≤100000:=by rw[←hA,jK];omega
 have hBl:B.length≤100000:=by rw[←hB,jK];omega
 clear hA hB
 rcases ha4 with⟨rfl,rfl⟩|⟨hne4,id4,hid4,rfl,htip4⟩
 ·rcases ha3 with⟨rfl,rfl⟩|⟨hne3,id,hid,rfl,htip⟩
  ·refine aue hc ?_
   refine aF h' (hsm.le hd (Hp.le_refl _)) ⟨rfl,Hp.le_refl _⟩
  have hb:A.length*16≤140737488355328:=by omega
  refine aue (ee3 hc htip hb) ?_
  refine aF h' ((show Hp.same nx h' _ from(by(try dsimp only);repeat (first|exact hsm|refine aS ?_ (by omega) _|refine aT ?_ (by omega)))).le hd (Hp.le_refl _)) ⟨?_,Hp.le_refl _⟩
  cases A with
  |nil=>exact absurd rfl hne3
  |cons a A=>simp only[List.append_nil,go_sem,reduceIte,jA,jB,jC,jD,reduceCtorEq,jE,jF];rfl
 cases B with
 |nil=>exact absurd rfl hne4
 |cons b B=>
  rcases ha3 with⟨rfl,rfl⟩|⟨hne3,id,hid,rfl,htip⟩
  ·have hb:(B.length+1)*16≤140737488355328:=by simp at hBl;omega
   refine aue (ee2 hc hb) ?_
   refine aF h' ((show Hp.same nx h' _ from(by(try dsimp only);repeat (first|exact hsm|refine aS ?_ (by omega) _|refine aT ?_ (by omega)))).le hd (Hp.le_refl _)) ⟨?_,Hp.le_refl _⟩
   simp only[go_sem,reduceIte,jA,jB,jC,jD,reduceCtorEq,jE,jF];rfl
  have hb:(A.length+(B.length+1))*16≤140737488355328:=by simp at hBl;omega
  refine aue (ee3 hc htip hb) ?_
  refine aF h' ((show Hp.same nx h' _ from(by(try dsimp only);repeat (first|exact hsm|refine aS ?_ (by omega) _|refine aT ?_ (by omega)))).le hd (Hp.le_refl _)) ⟨?_,Hp.le_refl _⟩
  cases A with
  |nil=>exact absurd rfl hne3
  |cons a A=>simp only[go_sem,reduceIte,jA,jB,jC,jD,reduceCtorEq,jE,jF];rfl
end Go.Proofs.YtemjhgboialjpaaGreat
namespace Go.Proofs.YtemjhgboialjpaaGreat
open Go.RowKit Go.Sort
attribute [local irreducible] IntKind.wrap
def oI{α:Type}(f:Nat→α)(t:Nat)(v:α):Nat→α:=fun k=>if k=t then v else f k
theorem iZ{α:Type}(f:Nat→α)(t:Nat)(v:α):oI f t v t=v:=by simp[oI]
theorem iK{α:Type}{f:Nat→α}{t k:Nat}{v:α}(h:k≠t):oI f t v k=f k:=by simp[oI,h]
def eK(n:Nat)(ow:Nat→Own)(A:Nat→List Pa):List V:=fD n fun k=>pas (ow k) (A k)
theorem iT(n:Nat)(ow:Nat→Own)(A:Nat→List Pa):(eK n ow A).length=n:=eR _ _
theorem kI{n k:Nat}(ow:Nat→Own)(A:Nat→List Pa)(h:k<n):(eK n ow A).getD k (.tup [])= .sl (.agg 2) (ow k) ((A k).map Pa.v):=wH _ h
theorem tB(n t:Nat)(ow:Nat→Own)(A:Nat→List Pa)(o:Own)(L:List Pa):(eK n ow A).set t (.sl (.agg 2) o (L.map Pa.v))=eK n (oI ow t o) (oI A t L):=by
 unfold eK
 rw[pQ]
 refine iP fun i hi=>?_
 unfold oI
 split<;>rfl
theorem aGE(n:Nat):List.replicate n (V.sl (.agg 2) .nil [])=eK n (fun _=> .nil) (fun _=>[]):=lQ n _
theorem vS{n:Nat}{ow ow':Nat→Own}{A A':Nat→List Pa}(h:∀k,k<n→ow k=ow' k∧A k=A' k):eK n ow A=eK n ow' A':=iP fun k hk=>by rw[(h k hk).1,(h k hk).2]
theorem kM{n k:Nat}(A:Nat→List Pa)(h:k<n):(fD n A).getD k []=A k:=by
 unfold fD
 rw[List.getD_eq_getElem?_getD,List.getElem?_eq_getElem (by simpa using h)]
 simp
def aHI(l:List Pa):Own:=if l.isEmpty=true then .nil else .free
theorem aEK(l:List Pa):lst (.agg 2) (l.map Pa.v)= .sl (.agg 2) (aHI l) (l.map Pa.v):=by
 cases l with
 |nil=>rfl
 |cons=>rfl
structure aLe(h' hp:Hp)(nx nx1 n:Nat)(mv:V)(A:Nat→List Pa)(ow:Nat→Own):Prop where
 box:hp nx=some (.arr (.agg 2) [mv])
 tab:hp (nx+1)=some (.arr .leaf (eK n ow A))
 dom:aH hp nx1
 ge:nx+2≤nx1
 same:Hp.same nx h' hp
structure iX(h' hp:Hp)(nx b nx1 n:Nat)(mv:V)(A:Nat→List Pa)(ow:Nat→Own)(N:Nat→List Pa)(nw:Nat→Own):Prop where
 box:hp nx=some (.arr (.agg 2) [mv])
 tab:hp (nx+1)=some (.arr .leaf (eK n ow A))
 nxt:hp b=some (.arr .leaf (eK n nw N))
 hb:nx+2≤b
 lt:b<nx1
 tok:∀k,k<n→(N k=[]∧nw k= .nil)∨(N k≠ []∧∃id,nw k= .tok id∧b<id∧hp id=some .tip)
 apart:∀j k,j<n→k<n→j≠k→∀id,nw j= .tok id→nw k≠ .tok id
 dom:aH hp nx1
 same:Hp.same nx h' hp
section
variable{h' hp hq:Hp}{nx b nx1 nx2 n t:Nat}{mv:V}{A N:Nat→List Pa}{ow nw:Nat→Own}
theorem iX.tokAt(F:iX h' hp nx b nx1 n mv A ow N nw){k id:Nat}(hk:k<n)(e:nw k= .tok id):b<id∧id<nx1∧hp id=some .tip∧N k≠ []:=by
 rcases F.tok k hk with⟨_,h⟩|⟨h0,id',h1,h2,h3⟩
 ·rw[h] at e;cases e
 rw[h1] at e;injection e with e;subst e;exact⟨h2,F.dom _ _ h3,h3,h0⟩
theorem iX.start(F:aLe h' hp nx nx1 n mv A ow):iX h' (hp.set nx1 (.arr .leaf (List.replicate n (.sl (.agg 2) .nil [])))) nx nx1 (nx1+1) n mv A ow (fun _=>[]) (fun _=> .nil):=by
 have hge:=F.ge
 have hs:∀y,y≠nx1→∀c,(hp.set nx1 c) y=hp y:=fun y h1 c=>by unfold Hp.set;rw[if_neg h1]
 refine⟨by rw[hs _ (by omega)];exact F.box,by rw[hs _ (by omega)];exact F.tab,?_,hge,by omega,fun k hk=> .inl ⟨rfl,rfl⟩,fun j k _ _ _ id e=>(by cases e),F.dom.set (by omega) (by omega) _,fun y hy=>by rw[hs _ (by omega)];exact F.same y hy⟩
 rw[aGE]
 unfold Hp.set;rw[if_pos rfl]
theorem iX.keep(F:iX h' hp nx b nx1 n mv A ow N nw)(hk:∀y,y<nx1→hq y=hp y)(hd:aH hq nx2)(hle:nx1≤nx2):iX h' hq nx b nx2 n mv A ow N nw:=by
 have h1:=F.hb
 have h2:=F.lt
 refine⟨by rw[hk _ (by omega)];exact F.box,by rw[hk _ (by omega)];exact F.tab,by rw[hk _ (by omega)];exact F.nxt,h1,by omega,fun k hkn=>?_,F.apart,hd,fun y hy=>by rw[hk _ (by omega)];exact F.same y hy⟩
 rcases F.tok k hkn with h|⟨h0,id,q1,q2,q3⟩
 ·exact .inl h
 exact .inr ⟨h0,id,q1,q2,by rw[hk _ (F.dom _ _ q3)];exact q3⟩
theorem iX.put(F:iX h' hp nx b nx1 n mv A ow N nw)(ht:t<n){L':List Pa}(hL:L'≠ []){id':Nat}(hi:nx1≤id')(hi2:id'<nx2)(h1:hq id'=some .tip)(h2:hq b=some (.arr .leaf ((eK n nw N).set t (.sl (.agg 2) (.tok id') (L'.map Pa.v)))))
 (h3:∀y,y<nx1→y≠b→nw t≠ .tok y→hq y=hp y) (hd:aH hq nx2):iX h' hq nx b nx2 n mv A ow (oI N t L') (oI nw t (.tok id')):=by
 have g1:=F.hb
 have g2:=F.lt
 have notok:∀y,y<b→nw t≠ .tok y:=fun y hy e=>by have:=(F.tokAt ht e).1;omega
 refine⟨by rw[h3 _ (by omega) (by omega) (notok _ (by omega))];exact F.box,by rw[h3 _ (by omega) (by omega) (notok _ (by omega))];exact F.tab,by rw[h2,tB],g1,by omega,fun k hk=>?_,fun j k hj hk hjk id e e2=>?_,hd,fun y hy=>by rw[h3 _ (by omega) (by omega) (notok _ (by omega))];exact F.same y hy⟩
 ·by_cases e:k=t
  ·subst e
   rw[iZ,iZ]
   exact .inr ⟨hL,id',rfl,by omega,h1⟩
  rw[iK e,iK e]
  rcases F.tok k hk with h|⟨h0,id,q1,q2,q3⟩
  ·exact .inl h
  exact .inr ⟨h0,id,q1,q2,by rw[h3 _ (F.dom _ _ q3) (by omega) (F.apart k t hk ht e id q1)];exact q3⟩
 by_cases e3:j=t
 ·subst e3
  rw[iZ] at e
  injection e with e;subst e
  rw[iK (fun h=>hjk h.symm)] at e2
  have:=(F.tokAt hk e2).2.1;omega
 rw[iK e3] at e
 by_cases e4:k=t
 ·subst e4
  rw[iZ] at e2
  injection e2 with e2;subst e2
  have:=(F.tokAt hj e).2.1;omega
 rw[iK e4] at e2
 exact F.apart j k hj hk hjk id e e2
theorem iX.putA(F:iX h' hp nx b nx1 n mv A ow N nw)(ht:t<n)(L:List Pa)(o:Own):iX h' (hp.set (nx+1) (.arr .leaf ((eK n ow A).set t (.sl (.agg 2) o (L.map Pa.v))))) nx b nx1 n mv (oI A t L) (oI ow t o) N nw:=by
 have g1:=F.hb
 have g2:=F.lt
 have hs:∀y,y≠nx+1→∀c,(hp.set (nx+1) c) y=hp y:=fun y h1 c=>by unfold Hp.set;rw[if_neg h1]
 refine⟨by rw[hs _ (by omega)];exact F.box,?_,by rw[hs _ (by omega)];exact F.nxt,g1,g2,fun k hk=>?_,F.apart,F.dom.set2 (by omega) _,fun y hy=>by rw[hs _ (by omega)];exact F.same y hy⟩
 ·rw[tB];unfold Hp.set;rw[if_pos rfl]
 rcases F.tok k hk with h|⟨h0,id,q1,q2,q3⟩
 ·exact .inl h
 exact .inr ⟨h0,id,q1,q2,by rw[hs _ (by omega)];exact q3⟩
theorem iX.congr{N':Nat→List Pa}{nw':Nat→Own}(F:iX h' hp nx b nx1 n mv A ow N nw)(h:∀k,k<n→N k=N' k∧nw k=nw' k):iX h' hp nx b nx1 n mv A ow N' nw':=by
 refine⟨F.box,F.tab,by rw[F.nxt,vS fun k hk=>⟨(h k hk).2,(h k hk).1⟩],F.hb,F.lt,fun k hk=>?_,fun j k hj hk=>?_,F.dom,F.same⟩
 ·have:=F.tok k hk
  rw[(h k hk).1,(h k hk).2] at this
  exact this
 have:=F.apart j k hj hk
 rw[(h j hj).2,(h k hk).2] at this
 exact this
theorem iX.putNil(F:iX h' hp nx b nx1 n mv A ow N nw)(ht:t<n)(hN:N t=[]):iX h' (hp.set b (.arr .leaf ((eK n nw N).set t (.sl (.agg 2) .nil [])))) nx b nx1 n mv A ow N nw:=by
 have hw:nw t= .nil:=by
  rcases F.tok t ht with⟨_,h⟩|⟨h,_⟩
  ·exact h
  exact absurd hN h
 have e:(eK n nw N).set t (.sl (.agg 2) .nil [])=eK n nw N:=by
  rw[show V.sl (.agg 2) .nil []=V.sl (.agg 2) .nil (([]:List Pa).map Pa.v) from rfl,tB]
  refine vS fun k hk=>?_
  by_cases ek:k=t
  ·subst ek;rw[iZ,iZ];exact⟨hw.symm,hN.symm⟩
  rw[iK ek,iK ek];exact⟨rfl,rfl⟩
 have e2:hp.set b (.arr .leaf ((eK n nw N).set t (.sl (.agg 2) .nil [])))=hp:=by
  funext y
  unfold Hp.set
  by_cases ey:y=b
  ·subst ey;rw[if_pos rfl,e,F.nxt]
  rw[if_neg ey]
 rw[e2]
 exact F
theorem iX.toA(F:iX h' hp nx b nx1 n mv A ow N nw):aLe h' hp nx nx1 n mv A ow:=⟨F.box,F.tab,F.dom,by have:=F.hb;have:=F.lt;omega,F.same⟩
theorem iX.up(F:iX h' hp nx b nx1 n mv A ow N nw)(h:nx1≤nx2):iX h' hp nx b nx2 n mv A ow N nw:=F.keep (fun _ _=>rfl) (F.dom.up h) h
end
def aBn(l:List We)(A:Nat→List Pa)(n j:Nat)(N:Nat→List Pa):Prop:=∀k,k<n→(N k).length≤2+2*j∧∀q,q∈N k↔(q∈A k∨∃w∈l.take j,w.t=k∧∃p∈A w.f,p.thn w.p=some q)
def kJ(l:List We)(A:Nat→List Pa)(n j:Nat)(w:We)(m:Nat)(N:Nat→List Pa):Prop:=∀k,k<n→(N k).length≤2+2*j+m∧∀q,q∈N k↔(q∈A k∨(∃w∈l.take j,w.t=k∧∃p∈A w.f,p.thn w.p=some q)∨(w.t=k∧∃p∈(A w.f).take m,p.thn w.p=some q))
theorem aBn.start{l:List We}{A N:Nat→List Pa}{n j:Nat}{w:We}(h:aBn l A n j N):kJ l A n j w 0 N:=fun k hk=>by
 obtain⟨h1,h2⟩:=h k hk
 refine⟨by omega,fun q=>?_⟩
 rw[h2]
 simp
theorem kJ.finish{l:List We}{A N:Nat→List Pa}{n j:Nat}(hj:j<l.length)(hc:(A l[j].f).length≤2)(h:kJ l A n j l[j] (A l[j].f).length N):aBn l A n (j+1) N:=fun k hk=>by
 obtain⟨h1,h2⟩:=h k hk
 refine⟨by omega,fun q=>?_⟩
 rw[h2,List.take_length,List.take_succ_eq_append_getElem hj]
 constructor
 ·rintro(h|⟨w,h,h'⟩|⟨h,h'⟩)
  ·exact .inl h
  ·exact .inr ⟨w,List.mem_append_left _ h,h'⟩
  exact .inr ⟨l[j],List.mem_append_right _ (List.mem_singleton.2 rfl),h,h'⟩
 rintro(h|⟨w,h,h'⟩)
 ·exact .inl h
 rcases List.mem_append.1 h with h|h
 ·exact .inr (.inl ⟨w,h,h'⟩)
 have:=List.mem_singleton.1 h
 subst this
 exact .inr (.inr h')
theorem kJ.skip{l:List We}{A N:Nat→List Pa}{n j m:Nat}{w:We}(h:kJ l A n j w m N)(hm:m<(A w.f).length)(e:(A w.f)[m].thn w.p=none):kJ l A n j w (m+1) N:=fun k hk=>by
 obtain⟨h1,h2⟩:=h k hk
 refine⟨by omega,fun q=>?_⟩
 rw[h2,List.take_succ_eq_append_getElem hm]
 constructor
 ·rintro(h|h|⟨h,p,hp,h'⟩)
  ·exact .inl h
  ·exact .inr (.inl h)
  exact .inr (.inr ⟨h,p,List.mem_append_left _ hp,h'⟩)
 rintro(h|h|⟨h,p,hp,h'⟩)
 ·exact .inl h
 ·exact .inr (.inl h)
 rcases List.mem_append.1 hp with hp|hp
 ·exact .inr (.inr ⟨h,p,hp,h'⟩)
 have:=List.mem_singleton.1 hp
 subst this
 rw[e] at h';cases h'
theorem kJ.more{l:List We}{A N:Nat→List Pa}{n j m:Nat}{w:We}{r:Pa}(h:kJ l A n j w m N)(hm:m<(A w.f).length)(e:(A w.f)[m].thn w.p=some r):kJ l A n j w (m+1) (oI N w.t (N w.t++[r])):=fun k hk=>by
 obtain⟨h1,h2⟩:=h k hk
 by_cases ek:k=w.t
 ·subst ek
  rw[iZ]
  refine⟨by simp;omega,fun q=>?_⟩
  rw[List.mem_append,h2,List.take_succ_eq_append_getElem hm,List.mem_singleton]
  constructor
  ·rintro((h|h|⟨h,p,hp,h'⟩)|h)
   ·exact .inl h
   ·exact .inr (.inl h)
   ·exact .inr (.inr ⟨h,p,List.mem_append_left _ hp,h'⟩)
   subst h;exact .inr (.inr ⟨rfl,_,List.mem_append_right _ (List.mem_singleton.2 rfl),e⟩)
  rintro(h|h|⟨h,p,hp,h'⟩)
  ·exact .inl (.inl h)
  ·exact .inl (.inr (.inl h))
  rcases List.mem_append.1 hp with hp|hp
  ·exact .inl (.inr (.inr ⟨h,p,hp,h'⟩))
  have:=List.mem_singleton.1 hp
  subst this
  rw[e] at h';injection h' with h'
  exact .inr h'.symm
 rw[iK ek]
 refine⟨by omega,fun q=>?_⟩
 rw[h2,List.take_succ_eq_append_getElem hm]
 constructor
 ·rintro(h|h|⟨h,_⟩)
  ·exact .inl h
  ·exact .inr (.inl h)
  exact absurd h.symm ek
 rintro(h|h|⟨h,_⟩)
 ·exact .inl h
 ·exact .inr (.inl h)
 exact absurd h.symm ek
theorem aEi{l:List We}{n a r:Nat}{A N A':Nat→List Pa}(hfit:wC n l)(h:kV l n a r (fD n A))(hN:aBn l A n l.length N)(hA:∀k,k<n→A' k=mX (N k)):kV l n a (r+1) (fD n A'):=by
 have hv:∀k,k<n→∀p∈N k,0≤p.a:=fun k hk p hp=>by
  rcases((hN k hk).2 p).1 hp with h1|⟨w,hw,e,q,hq,e2⟩
  ·have:=(h.val k hk p (by rw[kM A hk];exact h1)).ok
   simp only[Pa.ok,Bool.and_eq_true,decide_eq_true_eq] at this
   exact this.1
  have:=(Pa.thn_ok e2).1
  simp only[Pa.ok,Bool.and_eq_true,decide_eq_true_eq] at this
  exact this.1
 refine kV.next (nx:=fD n N) (fun w hw=>(hfit w hw).1) h (eR _ _) (fun k hk q=>?_) fun k hk=>?_
 ·rw[kM N hk,kM A hk,(hN k hk).2 q,List.take_length]
  constructor
  ·rintro(h|⟨w,hw,e,p,hp,e2⟩)
   ·exact .inl h
   exact .inr ⟨w,hw,e,p,by rw[kM A (hfit w hw).1];exact hp,e2⟩
  rintro(h|⟨w,hw,e,p,hp,e2⟩)
  ·exact .inl h
  exact .inr ⟨w,hw,e,p,by rw[kM A (hfit w hw).1] at hp;exact hp,e2⟩
 rw[kM N hk,kM A' hk,hA k hk]
 exact aEa (hv k hk)
end Go.Proofs.YtemjhgboialjpaaGreat
namespace Go.Proofs.YtemjhgboialjpaaGreat
open Go.Proofs.YtemjhgboialjpaaGreat renaming fE→uA,dU→uB,cM→uC,cN→uD,bV→uE,fF→uF,bQ→uG,cO→uH,cP→uI,bW→uJ,bX→uK,cG→uL,dP→uM,fG→uN,dG→uO,aZ→uP,gR→uQ,fS→uR,dA→uS
open Go.RowKit Go.Sort
attribute [local irreducible] IntKind.wrap
set_option maxRecDepth 100000 in
set_option maxHeartbeats 8000000 in
theorem aGd(ow0:Own)(n:Nat)(l:List We)(a:Nat)(hfit:wC n l)(hturn:tE l)(ha:a<n)(hn:n≤200)(hl:l.length≤1000)(h':Hp)(nx:Nat):
 aX Tryz.prog 195 [.agg [.int .i64 n,wes ow0 l], .int .i64 a] h' nx fun v h'' _=>∃m es,nx≤m∧v= .rs m .leaf 0 es.length∧h''=h'.set m (.arr .leaf es)∧es=(kB n l a).map (fun m=>lst (.agg 2) (m.map Pa.v)):=by
 refine aD L.corollaryref22_From_low fun hd=>?_
 have hmf:(V.agg [V.int .i64 (n:Int),wes ow0 l]).fits (.agg 2)=true:=by simp[V.fits,V.leafy]
 have hst:∀k o es k' o' es',bO .leaf 0 (V.sl k o es) (V.sl k' o' es')=V.sl k' o' es':=fun _ _ _ _ _ _=>rfl
 have hg0:(List.replicate n (V.sl (.agg 2) .nil [])).getD a (.tup [])= .sl (.agg 2) .nil []:=by
  rw[List.getD_eq_getElem?_getD,List.getElem?_replicate,if_pos ha];rfl
 have hal:a<n:=ha
 simp only[jL,jM,jA,jB,jN,jO,jP,jQ,V.undef]
 obtain⟨mv,hmv⟩:∃mv:V,mv= .agg [.int .i64 (n:Int),wes ow0 l]:=⟨_,rfl⟩
 (repeat' (first|(with_reducible first|refine stp ?_|refine uP (by decide) ?_|refine uQ (fun _=>?_) (fun _=>?_))|((first|(with_reducible refine uA ?_;first|refine uB rfl ?_ ?_|(first|refine uC rfl ?_|refine uD rfl ?_)|refine uE rfl ?_)|(with_reducible refine uF ?_;first|refine uG rfl ?_ ?_|(first|refine uH rfl ?_|refine uI rfl ?_)|refine uJ rfl ?_|refine uK (uL ?_)|refine uK (uM ?_))|(with_reducible refine uN ?_;refine uO rfl ?_))<;>try simp only[hmf,hg0,hst,hal,List.length_replicate,jG,go_sem,reduceIte,jA,jB,jC,jD,reduceCtorEq,jE,jF])|(with_reducible refine uR ?_;refine uS rfl ?_)|omega))
 refine aP (fun q:Nat×(Nat→List Pa)×(Nat→Own)=>aB 116 0 [(2, .ptr nx (.agg 2) 0 0),(5, .rs (nx+1) .leaf 0 n),(6, .int .i64 q.1)])
  (fun q hp nx1=>q.1≤2*n+1∧aLe h' hp nx nx1 n mv q.2.1 q.2.2∧kV l n a q.1 (fD n q.2.1)∧(q.1=0∨∀k,k<n→q.2.2 k=aHI (q.2.1 k)))
  (fun q=>2*n+1-q.1) (0,(fun k=>if k=a then [Pa.nought] else []),(fun k=>if k=a then .tok (nx+2) else .nil)) ⟨Nat.zero_le _,?_,?_, .inl rfl⟩ ?_ ?_
 ·refine⟨?_,?_,(by(try dsimp only);repeat (first|exact aH.up hd (by omega)|refine aH.set2 ?_ (by omega) _|refine aH.del ?_|refine aH.delO ?_ _)),by dsimp only;omega,(by(try dsimp only);repeat (first|exact Hp.same.rfl'|refine aS ?_ (by omega) _|refine aT ?_ (by omega)))⟩
  ·simp only[hmv,go_sem,reduceIte,jA,jB,jC,jD,reduceCtorEq,jE,jF]
  simp only[go_sem,reduceIte,jA,jB,jC,jD,reduceCtorEq,jE,jF]
  congr 1
  congr 1
  rw[lQ,pQ]
  refine iP fun i hi=>?_
  by_cases e:i=a
  ·simp[e,Pa.v,Pa.nought]
  simp[e]
 ·have e:fD n (fun k=>if k=a then [Pa.nought] else [])=(List.replicate n []).set a [Pa.nought]:=by
   rw[lQ,pQ]
  dsimp only
  rw[e]
  exact kV.first ha
 ·simp only[WkL,aB,jH,jI,jJ,go_sem,reduceIte,jA,jB,jC,jD,reduceCtorEq,jE,jF]
 rintro⟨r,A,ow⟩ hp nx1 ⟨hr,F,R,how⟩
 generalize hQ:bG _ _ _ _ _=Q0
 dsimp only at hr F R how
 simp only[aB,go_sem,reduceIte,jA,jB,jC,jD,reduceCtorEq,jE,jF]
 have hbox:=F.box
 rw[hmv] at hbox
 have hge:=F.ge
 have l1:nx<nx1:=by omega
 have hw2:IntKind.i64.wrap (2*(n:Int))=((2*n:Nat):Int):=by rw[aV]<;>omega
 have hcan:∀k,k<n→(A k).length≤2:=fun k hk=>by have:=pC (R.can k hk);rwa [kM A hk] at this
 rcases Nat.lt_or_ge (2*n) r with hbig|hsml
 ·have hc:decide ((r:Int)≤((2*n:Nat):Int))=false:=decide_eq_false (by omega)
  refine aue (ee4 hbox hc hw2 l1) ?_
  rw[←hQ]
  refine aue hc ?_
  have hlow:∀k,k<n→ow k=aHI (A k):=how.elim (fun h=>absurd h (by omega)) id
  have hfl:kB n l a=fD n A:=aFj (eR _ _) fun k hk=>R.done (fun w hw=>(hfit w hw).2.1) hturn ha (by omega) k hk
  have htab:=F.tab
  refine aF (h'.set (nx+1) (.arr .leaf (eK n ow A))) ?_ ⟨nx+1,eK n ow A,by omega,?_,rfl,?_⟩
  ·intro m b hm
   by_cases e:m=nx+1
   ·subst e
    unfold Hp.set at hm
    rw[if_pos rfl] at hm
    rw[←hm]
    exact htab
   unfold Hp.set at hm
   rw[if_neg e] at hm
   have:=hd m b hm
   exact(F.same m (by omega)).trans hm
  ·simp only[iT,go_sem,reduceIte,jA,jB,jC,jD,reduceCtorEq,jE,jF]
  rw[hfl]
  unfold eK fD
  rw[List.map_map]
  refine List.map_congr_left fun k hk=>?_
  have hk':k<n:=by simpa using hk
  show pas (ow k) (A k)=lst (.agg 2) ((A k).map Pa.v)
  rw[hlow k hk',aEK]
 have hc:decide ((r:Int)≤((2*n:Nat):Int))=true:=decide_eq_true (by omega)
 have hw:IntKind.i64.wrap ((r:Int)+1)=((r+1:Nat):Int):=by rw[aV]<;>omega
 refine aue (ee4 hbox hc hw2 l1) ?_
 have N0:=iX.start F
 obtain⟨b,hb⟩:∃b,b=nx1:=⟨_,rfl⟩
 rw[←hb] at N0 l1⊢
 clear hbox l1 hc hw2
 --what is known goes over
 refine aP (fun q:Nat×(Nat→Own)=>aB 116 0 [(2, .ptr nx (.agg 2) 0 0),(5, .rs (nx+1) .leaf 0 n),(6, .int .i64 r),(7, .rs b .leaf 0 n),(8, .int .i64 q.1)])
  (fun q hq nx2=>q.1≤n∧iX h' hq nx b nx2 n mv A ow (fun k=>if k<q.1 then A k else []) q.2)
  (fun q=>n-q.1) (0,fun _=> .nil) ⟨Nat.zero_le _,?_⟩ ?_ ?_
 ·simp only[Nat.not_lt_zero,if_false]
  exact N0.up (by first|omega|(dsimp only;omega))
 ·simp only[WkL,aB,jH,jI,jJ,go_sem,reduceIte,jA,jB,jC,jD,reduceCtorEq,jE,jF]
 clear N0
 rintro⟨i,nw⟩ hq nx2 ⟨hi,M⟩
 generalize hQ1:bG _ _ _ _ _=Q1
 dsimp only at hi M
 simp only[aB,go_sem,reduceIte,jA,jB,jC,jD,reduceCtorEq,jE,jF]
 have hbox:=M.box
 rw[hmv] at hbox
 have htab:=M.tab
 have hnxt:=M.nxt
 have m1:=M.hb
 have m2:=M.lt
 have l1:nx<nx2:=by omega
 have l2:nx+1<nx2:=by omega
 have len1:=iT n ow A
 have len2:=iT n nw (fun k=>if k<i then A k else [])
 rcases Nat.lt_or_ge i n with hlt|hge2
 ·have hc:decide ((i:Int)<(n:Int))=true:=decide_eq_true (by omega)
  have hwi:IntKind.i64.wrap ((i:Int)+1)=((i+1:Nat):Int):=by rw[aV]<;>omega
  have g1:=kI ow A hlt
  have hni:nw i= .nil:=by
   rcases M.tok i hlt with⟨_,h⟩|⟨h,_⟩
   ·exact h
   simp at h
  have g2:(eK n nw (fun k=>if k<i then A k else [])).getD i (.tup [])= .sl (.agg 2) .nil []:=by
   rw[kI nw _ hlt,hni];simp
  have hAi:=hcan i hlt
  by_cases he:A i=[]
  ·have g1':(eK n ow A).getD i (.tup [])= .sl (.agg 2) (ow i) []:=by rw[g1,he];rfl
   refine aue (aLr hbox htab hnxt hc hwi g1' g2 len1 len2 hlt m2 hst l1 l2) ?_
   rw[←hQ1]
   refine aC (i+1,nw) (by dsimp only;omega) ⟨hlt,?_⟩ ?_
   ·refine((M.putNil hlt (by simp)).up (by first|omega|(dsimp only;omega))).congr fun k hk=>⟨?_,rfl⟩
    by_cases ek:k=i
    ·subst ek;simp[he]
    by_cases ek2:k<i
    ·simp[ek2,show k<i+1 by omega]
    simp[ek2,show¬k<i+1 by omega]
   simp only[WkL,aB,jH,jI,jJ,go_sem,reduceIte,jA,jB,jC,jD,reduceCtorEq,jE,jF]
  have hb16:(A i).length*16≤140737488355328:=by omega
  have hemp:((A i).map Pa.v).isEmpty=false:=by
   cases e:A i with
   |nil=>exact absurd e he
   |cons=>rfl
  have m3:b<nx2+10:=by omega
  refine aue (aKW hbox htab hnxt hc hwi g1 g2 len1 len2 hlt m2 m3 hst hb16 hemp l1 l2) ?_
  rw[←hQ1]
  refine aC (i+1,oI nw i (.tok (nx2+10))) (by dsimp only;omega) ⟨hlt,?_⟩ ?_
  ·have e0:(nx2+10=b)=False:=eq_false (by omega)
   refine(M.put hlt he (id':=nx2+10) (by omega) (nx2:=_) ?_ ?_ ?_ ?_ ?_).congr fun k hk=>⟨?_,rfl⟩
   ·first|omega|(dsimp only;omega)
   ·simp only[Hp.set,e0,if_true,if_false]
   ·simp only[Hp.set,if_true]
   ·intro y hy hyb _
    have e1:(y=b)=False:=eq_false hyb
    have e2:(y=nx2+10)=False:=eq_false (by omega)
    simp only[Hp.set,e1,e2,if_false]
   ·exact(M.dom.set (by omega) (by first|omega|(dsimp only;omega)) _).set2 (by first|omega|(dsimp only;omega)) _
   by_cases ek:k=i
   ·subst ek;rw[iZ];simp
   rw[iK ek]
   by_cases ek2:k<i
   ·simp[ek2,show k<i+1 by omega]
   simp[ek2,show¬k<i+1 by omega]
  simp only[WkL,aB,jH,jI,jJ,go_sem,reduceIte,jA,jB,jC,jD,reduceCtorEq,jE,jF]
 have hc:decide ((i:Int)<(n:Int))=false:=decide_eq_false (by omega)
 have hin:i=n:=by omega
 subst hin
 refine aue (ee3 hbox hc l1) ?_
 rw[←hQ1]
 refine aue hc ?_
 have M1:iX h' hq nx b nx2 i mv A ow A nw:=M.congr fun k hk=>⟨by simp[hk],rfl⟩
 clear M htab hnxt len1 len2 hbox hge2 hc hQ1 l1 l2
 refine aP (fun q:Nat×(Nat→List Pa)×(Nat→Own)=>aB 116 0 [(2, .ptr nx (.agg 2) 0 0),(5, .rs (nx+1) .leaf 0 i),(6, .int .i64 r),(7, .rs b .leaf 0 i),(9, .int .i64 q.1)])
  (fun q hq nx2=>q.1≤l.length∧iX h' hq nx b nx2 i mv A ow q.2.1 q.2.2∧aBn l A i q.1 q.2.1)
  (fun q=>l.length-q.1) (0,A,nw) ⟨Nat.zero_le _,M1,fun k hk=>⟨by have:=hcan k hk;omega,fun q=>by simp⟩⟩ ?_ ?_
 ·simp only[WkL,aB,jH,jI,jJ,go_sem,reduceIte,jA,jB,jC,jD,reduceCtorEq,jE,jF]
 clear M1
 rintro⟨j,N,nw⟩ hq nx2 ⟨hj,M,NX⟩
 generalize hQ1:bG _ _ _ _ _=Q1
 dsimp only at hj M NX
 simp only[aB,go_sem,reduceIte,jA,jB,jC,jD,reduceCtorEq,jE,jF]
 have hbox:=M.box
 rw[hmv] at hbox
 have m1:=M.hb
 have m2:=M.lt
 have l1:nx<nx2:=by omega
 rcases Nat.lt_or_ge j l.length with hlt|hge2
 ·have hc:decide ((j:Int)<(l.length:Int))=true:=decide_eq_true (by omega)
  have hg:(l.map We.v).getD j (.tup [])= .agg [.int .i64 l[j].f, .int .i64 l[j].t, .bool l[j].p.n, .int .i64 l[j].p.a]:=bE We.v l j hlt
  have hwj:IntKind.i64.wrap ((j:Int)+1)=((j+1:Nat):Int):=by rw[aV]<;>omega
  have hwf:=hfit l[j] (List.getElem_mem _)
  have hwl:l[j]∈l:=List.getElem_mem _
  have hfin:=fun N'=>kJ.finish (N:=N') (A:=A) (n:=i) hlt (hcan _ hwf.1)
  obtain⟨w,hw0⟩:∃w,w=l[j]:=⟨_,rfl⟩
  rw[←hw0] at hg hwf hwl hfin
  have f1:=hwf.1
  have f2:=hwf.2.1
  have hwv:(V.agg [.int .i64 w.f, .int .i64 w.t, .bool w.p.n, .int .i64 w.p.a]).fits (.agg 4)=true:=rfl
  refine aue (ee5 hbox hc hg hlt l1) ?_
  have e0:(b=nx2)=False:=eq_false (by omega)
  have hbn2:b<nx2:=m2
  refine aP (fun q:Nat×(Nat→List Pa)×(Nat→Own)=>aB 116 0 [(2, .ptr nx (.agg 2) 0 0),(5, .rs (nx+1) .leaf 0 i),(6, .int .i64 r),(7, .rs b .leaf 0 i),(9, .int .i64 j),(10, .ptr nx2 (.agg 4) 0 0),(11, .int .i64 q.1)])
   (fun q hq nx3=>q.1≤(A w.f).length∧iX h' hq nx b nx3 i mv A ow q.2.1 q.2.2∧nx2<nx3∧hq nx2=some (.arr (.agg 4) [.agg [.int .i64 w.f, .int .i64 w.t, .bool w.p.n, .int .i64 w.p.a]])∧kJ l A i j w q.1 q.2.1)
   (fun q=>(A w.f).length-q.1) (0,N,nw) ⟨Nat.zero_le _,?_,by dsimp only;omega,by simp only[go_sem,reduceIte,jA,jB,jC,jD,reduceCtorEq,jE,jF],NX.start⟩ ?_ ?_
  ·refine M.keep (fun y hy=>?_) (by(try dsimp only);repeat (first|exact aH.up M.dom (by omega)|refine aH.set2 ?_ (by omega) _|refine aH.del ?_|refine aH.delO ?_ _)) (by first|omega|(dsimp only;omega))
   have e1:(y=nx2)=False:=eq_false (by omega)
   simp only[Hp.set,e1,if_false]
  ·simp only[WkL,aB,jH,jI,jJ,go_sem,reduceIte,jA,jB,jC,jD,reduceCtorEq,jE,jF]
  clear M NX hbox l1 e0 m2
  rintro⟨m,N,nw⟩ hs nx3 ⟨hm,M,hlt23,hbw,NI⟩
  generalize hQ2:bG _ _ _ _ _=Q2
  dsimp only at hm M hbw NI
  simp only[aB,go_sem,reduceIte,jA,jB,jC,jD,reduceCtorEq,jE,jF]
  have hbox:=M.box
  rw[hmv] at hbox
  have htab:=M.tab
  have hnxt:=M.nxt
  have m2:=M.lt
  have l1:nx<nx3:=by omega
  have l2:nx+1<nx3:=by omega
  have len1:=iT i ow A
  have len2:=iT i nw N
  have g1:=kI ow A f1
  have g2:=kI nw N f2
  have hcf:=hcan w.f f1
  rcases Nat.lt_or_ge m (A w.f).length with hml|hgm
  ·have hcm:decide ((m:Int)<((A w.f).length:Int))=true:=decide_eq_true (by omega)
   have hwm:IntKind.i64.wrap ((m:Int)+1)=((m+1:Nat):Int):=by rw[aV]<;>omega
   have hgp:((A w.f).map Pa.v).getD m (.tup [])=(A w.f)[m].v:=bE Pa.v (A w.f) m hml
   have hthn:=Pa.then_thn (A w.f)[m] w.p
   have hskip:=fun e=>kJ.skip NI hml e
   have hmore:=fun r e=>kJ.more (r:=r) NI hml e
   obtain⟨p,hp0⟩:∃p,p=(A w.f)[m]:=⟨_,rfl⟩
   rw[←hp0] at hgp hthn hskip hmore
   obtain⟨rr,hrr⟩:∃rr,rr=(p.then w.p).1:=⟨_,rfl⟩
   have hfp:=Pa.fits_v p
   have hfr:=Pa.fits_v rr
   have ct:∀h,aW Tryz.prog 225 [p.v, .agg [.bool w.p.n, .int .i64 w.p.a]] h (.tup [rr.v, .int .i64 (p.then w.p).2]):=fun h=>by rw[hrr];exact aEh p w.p h
   by_cases he:(p.then w.p).2=0
   ·have hce:((p.then w.p).2==0)=true:=by simp[he]
    rw[if_pos he,←hrr] at hthn
    have NI2:=hmore rr hthn
    have hNl:=(NI w.t f2).1
    have hb16:((N w.t).length+1)*16≤140737488355328:=by omega
    rcases M.tok w.t f2 with⟨t1,t2⟩|⟨t1,id,t2,t3,t4⟩
    ·have g2':(eK i nw N).getD w.t (.tup [])= .sl (.agg 2) .nil []:=by rw[g2,t1,t2];rfl
     have m3:b<nx3+26:=by omega
     have m4:b<nx3+27:=by omega
     have m5:b<nx3+14:=by omega
     (repeat' (first|(with_reducible first|refine stp ?_|refine uP (by decide) ?_|refine uQ (fun _=>?_) (fun _=>?_))|((first|(with_reducible refine uA ?_;first|refine uB rfl ?_ ?_|(first|refine uC rfl ?_|refine uD rfl ?_)|refine uE rfl ?_)|(with_reducible refine uF ?_;first|refine uG rfl ?_ ?_|refine mE (ct _) rfl (bH _) ?_|refine mD rfl rfl (by decide) (by(simp only[cJ,go_sem,reduceIte,jA,jB,jC,jD,reduceCtorEq,jE,jF])<;>try omega) (by simp only[go_sem,reduceIte,jA,jB,jC,jD,reduceCtorEq,jE,jF]) (by simp only[go_sem,reduceIte,jA,jB,jC,jD,reduceCtorEq,jE,jF]) (by simp only[hfr,hbox,htab,hnxt,hbw,hcm,hgp,hml,g1,g2',len1,len2,hfp,hfr,hce,f1,f2,m2,m3,m4,m5,hlt23,hst,l1,l2,jK,jG,go_sem,reduceIte,jA,jB,jC,jD,reduceCtorEq,jE,jF]) ?_|(first|refine uH rfl ?_|refine uI rfl ?_)|refine uJ rfl ?_|refine uK (uL ?_)|refine uK (uM ?_))|(with_reducible refine uN ?_;refine uO rfl ?_))<;>try simp only[hbox,htab,hnxt,hbw,hcm,hgp,hml,g1,g2',len1,len2,hfp,hfr,hce,f1,f2,m2,m3,m4,m5,hlt23,hst,l1,l2,jK,jG,go_sem,reduceIte,jA,jB,jC,jD,reduceCtorEq,jE,jF])|(with_reducible refine uR ?_;refine uS rfl ?_)|omega))
     rw[←hQ2]
     have hne:N w.t++[rr]≠ []:=by simp
     have k1:(nx3+27=b)=False:=eq_false (by omega)
     have k2:(nx2=b)=False:=eq_false (by omega)
     have k3:(nx2=nx3+14)=False:=eq_false (by omega)
     have k4:(nx2=nx3+26)=False:=eq_false (by omega)
     have k5:(nx2=nx3+27)=False:=eq_false (by omega)
     refine aC (m+1,oI N w.t (N w.t++[rr]),oI nw w.t (.tok (nx3+27))) (by dsimp only;omega) ⟨hml,?_,?_,?_,NI2⟩ ?_
     ·refine M.put f2 hne (id':=nx3+27) (by omega) (by first|omega|(dsimp only;omega)) ?_ ?_ ?_ (by(try dsimp only);repeat (first|exact aH.up M.dom (by omega)|refine aH.set2 ?_ (by omega) _|refine aH.del ?_|refine aH.delO ?_ _))
      ·simp only[Hp.set,k1,if_true,if_false]
      ·simp only[Hp.set,if_true,t1,jQ,List.map_cons,List.map_nil]
      intro y hy hyb hyt
      have e1:(y=b)=False:=eq_false hyb
      have e2:(y=nx3+27)=False:=eq_false (by omega)
      have e3:(y=nx3+26)=False:=eq_false (by omega)
      have e4:(y=nx3+14)=False:=eq_false (by omega)
      simp only[Hp.set,e1,e2,e3,e4,if_false]
     ·first|omega|(dsimp only;omega)
     ·simp only[Hp.set,k2,k3,k4,k5,if_false]
      exact hbw
     simp only[WkL,aB,jH,jI,jJ,hwm,go_sem,reduceIte,jA,jB,jC,jD,reduceCtorEq,jE,jF]
    have g2':=g2
    rw[t2] at g2'
    have hidn:id<nx3:=M.dom _ _ t4
    have m3:b<nx3+26:=by omega
    have m4:b<nx3+27:=by omega
    have m5:b<nx3+14:=by omega
    have n1:(b=id)=False:=eq_false (by omega)
    have n2:(id=nx3+14)=False:=eq_false (by omega)
    have ca:iV ((hs.set (nx3+14) (Blk.arr (Sh.agg 2) [V.agg [V.bool false,V.int IntKind.i64 0]])).set (nx3+14) (Blk.arr (Sh.agg 2) [rr.v])) (nx3+17) [3,4,5,6,7,8,9] [none,none,none,none,none,none,none,none,none,some Blk.tip] [none,none,none,none,none,none,none,none,none,none] id Blk.tip:=
     ⟨by simp[cJ], .inl ⟨by omega,by simp only[Hp.set,n2,if_false];exact t4⟩⟩
    have z1:((0:Int)≤(w.t:Int))=True:=eq_true (by omega)
    have z2:((w.t:Int)<(i:Int))=True:=eq_true (by omega)
    (repeat' (first|(with_reducible first|refine stp ?_|refine uP (by decide) ?_|refine uQ (fun _=>?_) (fun _=>?_))|((first|(with_reducible refine uA ?_;first|refine uB rfl ?_ ?_|(first|refine uC rfl ?_|refine uD rfl ?_)|refine uE rfl ?_)|(with_reducible refine uF ?_;first|refine uG rfl ?_ ?_|refine mE (ct _) rfl (bH _) ?_|refine mD rfl rfl (by decide) (by(simp only[cJ,go_sem,reduceIte,jA,jB,jC,jD,reduceCtorEq,jE,jF])<;>try omega) (by simp only[go_sem,reduceIte,jA,jB,jC,jD,reduceCtorEq,jE,jF]) (by simp only[go_sem,reduceIte,jA,jB,jC,jD,reduceCtorEq,jE,jF]) (by simp only[hfr,hbox,htab,hnxt,hbw,hcm,hgp,hml,g1,g2',len1,len2,hfp,hfr,hce,f1,f2,m2,m3,m4,m5,n1,n2,t4,hidn,hb16,hlt23,ca,z1,z2,hst,l1,l2,jK,jG,go_sem,reduceIte,jA,jB,jC,jD,reduceCtorEq,jE,jF]) ?_|(first|refine uH rfl ?_|refine uI rfl ?_)|refine uJ rfl ?_|refine uK (uL ?_)|refine uK (uM ?_))|(with_reducible refine uN ?_;refine uO rfl ?_))<;>try simp only[hbox,htab,hnxt,hbw,hcm,hgp,hml,g1,g2',len1,len2,hfp,hfr,hce,f1,f2,m2,m3,m4,m5,n1,n2,t4,hidn,hb16,hlt23,ca,z1,z2,hst,l1,l2,jK,jG,go_sem,reduceIte,jA,jB,jC,jD,reduceCtorEq,jE,jF])|(with_reducible refine uR ?_;refine uS rfl ?_)|omega))
    rw[←hQ2]
    have hne:N w.t++[rr]≠ []:=by simp
    have k1:(nx3+27=b)=False:=eq_false (by omega)
    have k2:(nx2=b)=False:=eq_false (by omega)
    have k3:(nx2=nx3+14)=False:=eq_false (by omega)
    have k4:(nx2=nx3+26)=False:=eq_false (by omega)
    have k5:(nx2=nx3+27)=False:=eq_false (by omega)
    have k6:(nx2=id)=False:=eq_false (fun e=>by rw[e,t4] at hbw;cases hbw)
    have k7:(nx3+27=id)=False:=eq_false (by omega)
    refine aC (m+1,oI N w.t (N w.t++[rr]),oI nw w.t (.tok (nx3+27))) (by dsimp only;omega) ⟨hml,?_,?_,?_,NI2⟩ ?_
    ·refine M.put f2 hne (id':=nx3+27) (by omega) (by first|omega|(dsimp only;omega)) ?_ ?_ ?_ (by(try dsimp only);repeat (first|exact aH.up M.dom (by omega)|refine aH.set2 ?_ (by omega) _|refine aH.del ?_|refine aH.delO ?_ _))
     ·simp only[Hp.set,Hp.del,k1,k7,if_true,if_false]
     ·simp only[Hp.set,if_true,List.map_append,List.map_cons,List.map_nil]
     intro y hy hyb hyt
     have e1:(y=b)=False:=eq_false hyb
     have e2:(y=nx3+27)=False:=eq_false (by omega)
     have e3:(y=nx3+26)=False:=eq_false (by omega)
     have e4:(y=nx3+14)=False:=eq_false (by omega)
     have e5:(y=id)=False:=eq_false (fun e=>hyt (by rw[t2,e]))
     simp only[Hp.set,Hp.del,e1,e2,e3,e4,e5,if_false]
    ·first|omega|(dsimp only;omega)
    ·simp only[Hp.set,Hp.del,k2,k3,k4,k5,k6,if_false]
     exact hbw
    simp only[WkL,aB,jH,jI,jJ,hwm,go_sem,reduceIte,jA,jB,jC,jD,reduceCtorEq,jE,jF]
   have hce:((p.then w.p).2==0)=false:=by simp[he]
   rw[if_neg he] at hthn
   have NI2:=hskip hthn
   (repeat' (first|(with_reducible first|refine stp ?_|refine uP (by decide) ?_|refine uQ (fun _=>?_) (fun _=>?_))|((first|(with_reducible refine uA ?_;first|refine uB rfl ?_ ?_|(first|refine uC rfl ?_|refine uD rfl ?_)|refine uE rfl ?_)|(with_reducible refine uF ?_;first|refine uG rfl ?_ ?_|refine mE (ct _) rfl (bH _) ?_|refine mD rfl rfl (by decide) (by(simp only[cJ,go_sem,reduceIte,jA,jB,jC,jD,reduceCtorEq,jE,jF])<;>try omega) (by simp only[go_sem,reduceIte,jA,jB,jC,jD,reduceCtorEq,jE,jF]) (by simp only[go_sem,reduceIte,jA,jB,jC,jD,reduceCtorEq,jE,jF]) (by simp only[hfr,hbox,htab,hbw,hcm,hgp,hwm,hml,g1,len1,hfp,hfr,hce,f1,hlt23,l1,l2,jK,jG,go_sem,reduceIte,jA,jB,jC,jD,reduceCtorEq,jE,jF]) ?_|(first|refine uH rfl ?_|refine uI rfl ?_)|refine uJ rfl ?_|refine uK (uL ?_)|refine uK (uM ?_))|(with_reducible refine uN ?_;refine uO rfl ?_))<;>try simp only[hbox,htab,hbw,hcm,hgp,hwm,hml,g1,len1,hfp,hfr,hce,f1,hlt23,l1,l2,jK,jG,go_sem,reduceIte,jA,jB,jC,jD,reduceCtorEq,jE,jF])|(with_reducible refine uR ?_;refine uS rfl ?_)|omega))
   rw[←hQ2]
   refine aC (m+1,N,nw) (by dsimp only;omega) ⟨hml,?_,?_,?_,NI2⟩ ?_
   ·refine M.keep (fun y hy=>?_) (by(try dsimp only);repeat (first|exact aH.up M.dom (by omega)|refine aH.set2 ?_ (by omega) _|refine aH.del ?_|refine aH.delO ?_ _)) (by first|omega|(dsimp only;omega))
    have e1:(y=nx3+14)=False:=eq_false (by omega)
    simp only[Hp.set,e1,if_false]
   ·first|omega|(dsimp only;omega)
   ·have e1:(nx2=nx3+14)=False:=eq_false (by omega)
    simp only[Hp.set,e1,if_false]
    exact hbw
   simp only[WkL,aB,jH,jI,jJ,go_sem,reduceIte,jA,jB,jC,jD,reduceCtorEq,jE,jF]
  have hcm:decide ((m:Int)<((A w.f).length:Int))=false:=decide_eq_false (by omega)
  have hml:m=(A w.f).length:=by omega
  subst hml
  refine aue (aJq hbox htab hbw hcm g1 len1 f1 hlt23 l1 l2) ?_
  rw[←hQ2]
  refine aue hwj ?_
  rw[←hQ1]
  refine aC (j+1,N,nw) (by dsimp only;omega) ⟨hlt,M,hfin N NI⟩ ?_
  simp only[WkL,aB,jH,jI,jJ,go_sem,reduceIte,jA,jB,jC,jD,reduceCtorEq,jE,jF]
 have hc:decide ((j:Int)<(l.length:Int))=false:=decide_eq_false (by omega)
 have hjl:j=l.length:=by omega
 subst hjl
 refine aue (ee3 hbox hc l1) ?_
 rw[←hQ1]
 refine aue hc ?_
 clear hbox hge2 hc hQ1 l1
 refine aP (fun q:Nat×(Nat→List Pa)×(Nat→Own)=>aB 116 0 [(2, .ptr nx (.agg 2) 0 0),(5, .rs (nx+1) .leaf 0 i),(6, .int .i64 r),(7, .rs b .leaf 0 i),(14, .int .i64 q.1)])
  (fun q hq nx2=>q.1≤i∧iX h' hq nx b nx2 i mv q.2.1 q.2.2 N nw∧(∀k,k<i→q.2.1 k=if k<q.1 then mX (N k) else A k)∧∀k,k<q.1→q.2.2 k=aHI (q.2.1 k))
  (fun q=>i-q.1) (0,A,ow) ⟨Nat.zero_le _,M,fun k hk=>by simp,fun k hk=>absurd hk (by dsimp only;omega)⟩ ?_ ?_
 ·simp only[WkL,aB,jH,jI,jJ,go_sem,reduceIte,jA,jB,jC,jD,reduceCtorEq,jE,jF]
 clear M
 rintro⟨x,A',ow'⟩ hq nx2 ⟨hx,M,hA,hO⟩
 generalize hQ1:bG _ _ _ _ _=Q1
 dsimp only at hx M hA hO
 simp only[aB,go_sem,reduceIte,jA,jB,jC,jD,reduceCtorEq,jE,jF]
 have hbox:=M.box
 rw[hmv] at hbox
 have htab:=M.tab
 have hnxt:=M.nxt
 have m1:=M.hb
 have m2:=M.lt
 have l1:nx<nx2:=by omega
 have l2:nx+1<nx2:=by omega
 have len1:=iT i ow' A'
 have len2:=iT i nw N
 rcases Nat.lt_or_ge x i with hlt|hge3
 ·have hc:decide ((x:Int)<(i:Int))=true:=decide_eq_true (by omega)
  have hwx:IntKind.i64.wrap ((x:Int)+1)=((x+1:Nat):Int):=by rw[aV]<;>omega
  have g1:=kI ow' A' hlt
  have g2:=kI nw N hlt
  have hNl:=(NX x hlt).1
  have cs:∀h,aW Tryz.prog 226 [.sl (.agg 2) (nw x) ((N x).map Pa.v)] h (.sl (.agg 2) (aHI (mX (N x))) ((mX (N x)).map Pa.v)):=fun h=>by
   have e:=aEf (nw x) (N x) (by omega) h
   rw[aEK] at e
   exact e
  have C1:=fun h=>cs h
  refine aue (aLr hbox htab hnxt hc hwx g1 g2 len1 len2 hlt m2 hst l1 l2) ?_
  rw[←hQ1]
  refine aC (x+1,oI A' x (mX (N x)),oI ow' x (aHI (mX (N x)))) (by dsimp only;omega) ⟨hlt,(M.putA hlt _ _).up (by first|omega|(dsimp only;omega)),fun k hk=>?_,fun k hk=>?_⟩ ?_
  ·dsimp only
   by_cases ek:k=x
   ·subst ek;rw[iZ,if_pos (by omega)]
   rw[iK ek,hA k hk]
   by_cases ek2:k<x
   ·rw[if_pos ek2,if_pos (by omega)]
   rw[if_neg ek2,if_neg (by omega)]
  ·dsimp only at hk⊢
   by_cases ek:k=x
   ·subst ek;rw[iZ,iZ]
   rw[iK ek,iK ek];exact hO k (by omega)
  simp only[WkL,aB,jH,jI,jJ,go_sem,reduceIte,jA,jB,jC,jD,reduceCtorEq,jE,jF]
 have hc:decide ((x:Int)<(i:Int))=false:=decide_eq_false (by omega)
 have hxi:x=i:=by omega
 subst hxi
 refine aue (ee3 hbox hc l1) ?_
 rw[←hQ1]
 refine aue hw ?_
 rw[←hQ]
 refine aC (r+1,A',ow') (by dsimp only;omega) ⟨by dsimp only;omega,M.toA,aEi hfit R NX (fun k hk=>by dsimp only;rw[hA k hk,if_pos hk]), .inr fun k hk=>hO k hk⟩ ?_
 simp only[WkL,aB,jH,jI,jJ,go_sem,reduceIte,jA,jB,jC,jD,reduceCtorEq,jE,jF]
theorem aDf(o:Own)(n:Nat)(l:List We)(a:Nat)(hfit:wC n l)(hturn:tE l)(ha:a<n)(hn:n≤200)(hl:l.length≤1000)(h:Hp):
 aW Tryz.prog 195 [.agg [.int .i64 n,wes o l], .int .i64 a] h (mB n l a):=by
 refine cK (fun L=>?_) fun h' nx hh=>?_
 ·unfold mB
  simp only[V.names,true_and,and_true]
  refine⟨fun n e=>(by cases e),?_⟩
  exact bI (f:=fun m:List Pa=>lst (.agg 2) (m.map Pa.v)) (fun m=>cE (fun L=>bI (Pa.names_v L) m) L) _
 have c:=aBK (G:=fun es=>es=(kB n l a).map (fun m=>lst (.agg 2) (m.map Pa.v))) (aGd o n l a hfit hturn ha hn hl h' nx)
 refine⟨c.1,fun K cargs hlv hr hv=>(c.mono (R':=fun v' h'' _=>v'.loose=mB n l a∧h'.le h'') ?_).2 K cargs hlv hr hv⟩
 rintro v h'' nx2 hnx ⟨id,es,hid,rfl,rfl,rfl⟩
 have hd:aH h' nx:=fun m b hm=>hlv m (hr.lt m b hm)
 exact⟨rfl,dW (Hp.le_refl _) (hd.none hid) _⟩
end Go.Proofs.YtemjhgboialjpaaGreat
