/-
Texts of this proof,one behind the other. No conditions.
-/
import Derived.Test.YtecepaehmojpgaaGreatKd
import Derived.Test.YtecepaehmojpgaaGreatKh
open Go.Proofs.YtecepaehmojpgaaGreat.Pa renaming v→Ka,aAC→Kf,aAQ→Kg
open Go.Proofs.YtecepaehmojpgaaGreat.Hp renaming set→Kb,le_refl→Kc,same→Kd,del→Ke
open List renaming take_succ_eq_append_getElem→Kh,mem_singleton→Ki,getD_eq_getElem?_getD→Kk,mem_append_left→Ko,mem_append→Kp,replicate→Kq,getElem?_eq_getElem→Ks,mem_append_right→Kt,map_nil→Ku,take_length→Kv,getElem_mem→Kx,map_append→Ky,map_cons→Kz
open Nat renaming lt_or_ge→Kj,zero_le→Km,le_refl→KB
open Bool renaming and_eq_true→Kw
open Nat renaming reduceAdd→jA,reduceSub→jB,reduceLT→jC,reduceLeDiff→jD,reduceEqDiff→jE
open Int renaming reduceToNat→jF,toNat_natCast→jG,natCast_add→jH,natCast_one→jI,natCast_zero→jJ
open List renaming length_map→jK,length_cons→jL,length_nil→jM,replicate_succ→jN,replicate_zero→jO,cons_append→jP,nil_append→jQ
set_option linter.unusedSimpArgs false
set_option linter.unusedVariables false
set_option linter.unusedSectionVars false
set_option maxHeartbeats 8000000
namespace Go.Proofs.YtecepaehmojpgaaGreat
open Go.RowKit Go.Sort
attribute [local irreducible] IntKind.wrap
theorem CP(x y:Pa):veq (.plain (.agg 2) [.bool, .int]) x.v y.v=some (decide (x=y)):=by
 obtain⟨n,a⟩:=x;obtain⟨n',a'⟩:=y;simp only[Ka,go_sem,reduceIte,jA,jB,jC,jD,reduceCtorEq,jE,jF];simp only[Pa.mk.injEq,Option.some.injEq];rw[Bool.eq_iff_iff];simp
theorem Acc.aBB{h h2:Hp}{n0:Nat}{o:Own}{es:List V}(a:Acc h n0 o es)(hk:∀id,o= .tok id→h2 id=h id):Acc h2 n0 o es:=by
 rcases a with a|⟨h1,id,h2',rfl,h3⟩
 ·exact .inl a
 exact .inr ⟨h1,id,h2',rfl,by rw[hk id rfl];exact h3⟩
theorem Acc.lt{h:Hp}{n0 nx:Nat}{o:Own}{es:List V}(a:Acc h n0 o es)(hd:aI h nx){id:Nat}(e:o= .tok id):id<nx:=by
 rcases a with⟨_,rfl⟩|⟨_,id',_,rfl,h3⟩
 ·cases e
 injection e with e;subst e;exact hd _ _ h3
theorem DE{l:List Pa}{i:Nat}(h:i<l.length):(l.map Ka).getD i (.tup [])=(gP l i).v:=by
 have:=bO Ka l i h;rw[this];unfold gP;rw[Kk,Ks h];rfl
set_option maxRecDepth 100000 in
set_option maxHeartbeats 4000000 in
theorem uj(o:Own)(l:List Pa)(hl:l.length≤100000)(h:Hp):aY Tryz.prog 144 [pas o l] h (lst (.agg 2) ((oK l).map Ka)):=by
 refine dB (fun L=>cP (fun L=>bG (Pa.aAN L) _) L) fun h' nx hh=>aF L.aVG fun hd=>?_;simp only[jL,jM,jA,jB,jN,jO,jP,jQ,V.undef];refine aue trivial ?_;refine aO (fun q:Nat×Own×Own=>aB 79 0 [(0,pas o l),(3,pas q.2.1 (sOf false l q.1)),(4,pas q.2.2 (sOf true l q.1)),(5, .int .i64 q.1)])
  (fun q hp nx1=>q.1≤l.length∧nx≤nx1∧aI hp nx1∧Kd nx h' hp∧Acc hp nx q.2.1 ((sOf false l q.1).map Ka)∧Acc hp nx q.2.2 ((sOf true l q.1).map Ka)∧∀id,q.2.1= .tok id→q.2.2≠ .tok id)
  (fun q=>l.length-q.1) (0, .nil, .nil) ⟨Km _,KB _,hd,Hp.same.aBG,Acc.nil,Acc.nil,fun id e=>by cases e⟩ ?_ ?_
 ·simp only[WkL,aB,jH,jI,jJ,pas,Dc,Ku,go_sem,reduceIte,jA,jB,jC,jD,reduceCtorEq,jE,jF]
 rintro⟨i,o3,o4⟩ hp nx1 ⟨hi,hnx,hdm,hsm,ha3,ha4,hne⟩;generalize hQ:bH _ _ _ _ _=Q0;dsimp only at hi ha3 ha4 hne;simp only[aB,go_sem,reduceIte,jA,jB,jC,jD,reduceCtorEq,jE,jF];have s3:=ug false l i;have s4:=ug true l i;have hl3:=A0 false l i;have hl4:=A0 true l i;rcases Kj i l.length with hlt|hge
 ·have hc:decide ((i:Int)<(l.length:Int))=true:=decide_eq_true or;have hg:=DE hlt;have hw:IntKind.i64.wrap ((i:Int)+1)=((i+1:Nat):Int):=by rw[bB]<;>omega
  refine aue hc ?_;refine aO (fun k:Nat=>aB 79 0 [(0,pas o l),(3,pas o3 (sOf false l i)),(4,pas o4 (sOf true l i)),(5, .int .i64 i),(6, .bool (oF l i k)),(7, .int .i64 k)])
   (fun k hq nx2=>k≤l.length∧nx1≤nx2∧hq=hp)
   (fun k=>l.length-k) 0 ⟨Km _,KB _,rfl⟩ ?_ ?_
  ·simp only[WkL,aB,jH,jI,jJ,pas,Ar,go_sem,reduceIte,jA,jB,jC,jD,reduceCtorEq,jE,jF]
  rintro k hq nx2 ⟨hk,aBs,rfl⟩;generalize hQ1:bH _ _ _ _ _=Q1;simp only[aB,go_sem,reduceIte,jA,jB,jC,jD,reduceCtorEq,jE,jF];rcases Kj k l.length with hlk|hgk
  ·have hck:decide ((k:Int)<(l.length:Int))=true:=decide_eq_true or;have hgk:=DE hlk;have hwk:IntKind.i64.wrap ((k:Int)+1)=((k+1:Nat):Int):=by rw[bB]<;>omega
   have hks:=As l i k;have hbd:AK l i k=((gP l k).le (gP l i)&&(decide (gP l k≠gP l i)||decide (k<i))):=rfl;have hfi:=Kf (gP l i);have hfk:=Kf (gP l k);cases h1:(gP l k).le (gP l i) with
   |false=>
    have hn:oF l i (k+1)=oF l i k:=by rw[hks,hbd,h1];simp
    have D1:=fun h=>iN (gP l k) (gP l i) h;refine aue (ee9 hck hg hgk hlk hlt hwk hfi hfk h1) ?_;rw[←hQ1];refine aD (k+1) or ⟨hlk,or,rfl⟩ ?_;simp only[WkL,aB,jH,jI,jJ,pas,hn,go_sem,reduceIte,jA,jB,jC,jD,reduceCtorEq,jE,jF]
   |true=>
    by_cases h2:gP l k=gP l i
    ·have hv:veq (.plain (.agg 2) [.bool, .int]) (gP l k).v (gP l i).v=some true:=by rw[CP];simp[h2]
     by_cases h3:k<i
     ·have hn:oF l i (k+1)=false:=by rw[hks,hbd,h1];simp[h3]
      have hci:decide ((k:Int)<(i:Int))=true:=decide_eq_true or;have D1:=fun h=>iN (gP l k) (gP l i) h;refine aue (i5 hck hg hgk hlk hlt hwk hfi hfk h1 hv hci) ?_;rw[←hQ1];refine aD (k+1) or ⟨hlk,or,rfl⟩ ?_;simp only[WkL,aB,jH,jI,jJ,pas,hn,go_sem,reduceIte,jA,jB,jC,jD,reduceCtorEq,jE,jF]
     have hn:oF l i (k+1)=oF l i k:=by rw[hks,hbd,h1];simp[h2,h3]
     have hci:decide ((k:Int)<(i:Int))=false:=decide_eq_false or;have D1:=fun h=>iN (gP l k) (gP l i) h;refine aue (i5 hck hg hgk hlk hlt hwk hfi hfk h1 hv hci) ?_;rw[←hQ1];refine aD (k+1) or ⟨hlk,or,rfl⟩ ?_;simp only[WkL,aB,jH,jI,jJ,pas,hn,go_sem,reduceIte,jA,jB,jC,jD,reduceCtorEq,jE,jF]
    have hv:veq (.plain (.agg 2) [.bool, .int]) (gP l k).v (gP l i).v=some false:=by rw[CP];simp[h2]
    have hn:oF l i (k+1)=false:=by rw[hks,hbd,h1];simp[h2]
    have D1:=fun h=>iN (gP l k) (gP l i) h;refine aue (xp hck hg hgk hlk hlt hwk hfi hfk h1 hv) ?_;rw[←hQ1];refine aD (k+1) or ⟨hlk,or,rfl⟩ ?_;simp only[WkL,aB,jH,jI,jJ,pas,hn,go_sem,reduceIte,jA,jB,jC,jD,reduceCtorEq,jE,jF]
  have hck:decide ((k:Int)<(l.length:Int))=false:=decide_eq_false or;have hkl:k=l.length:=or;subst hkl;have hgv:(gP l i).v= .agg [.bool (gP l i).n, .int .i64 (gP l i).a]:=rfl;have hgi:(l.map Ka).getD i (.tup [])= .agg [.bool (gP l i).n, .int .i64 (gP l i).a]:=hg;have hb3:((sOf false l i).length+1)*16≤140737488355328:=or;have hb4:((sOf true l i).length+1)*16≤140737488355328:=or;refine aue hck ?_;rw[←hQ1];have hkd:oF l i l.length=pO l i:=rfl;rw[hkd];have aBU:=hdm.up aBs;cases hkp:pO l i with
  |false=>
   rw[hkp] at s3 s4;have e3:sOf false l (i+1)=sOf false l i:=by rw[s3];simp
   have e4:sOf true l (i+1)=sOf true l i:=by rw[s4];simp
   refine aue hw ?_;rw[←hQ];refine aD (i+1,o3,o4) Zw ⟨hlt,or,(by(try dsimp only);repeat (first|exact aI.up aBU or|refine aI.aAh ?_ or _|refine aI.del ?_|refine aI.aAb ?_ _)),hsm,by dsimp only;rw[e3];exact ha3,by dsimp only;rw[e4];exact ha4,hne⟩ ?_;simp only[WkL,aB,jH,jI,jJ,pas,e3,e4,go_sem,reduceIte,jA,jB,jC,jD,reduceCtorEq,jE,jF]
  |true=>
   rw[hkp] at s3 s4;cases hnn:(gP l i).n with
   |true=>
    rw[hnn] at s3 s4 hgi;have e3:sOf false l (i+1)=sOf false l i:=by rw[s3];simp
    have e4:(sOf true l (i+1)).map Ka=(sOf true l i).map Ka++[.agg [.bool true, .int .i64 (gP l i).a]]:=by
     rw[s4];simp[Ka,hnn]
    rcases ha4 with⟨he,rfl⟩|⟨aDm,id,hid,rfl,aBH⟩
    ·refine aue (ee5 hgi hlt hw he hb4) ?_;rw[←hQ];refine aD (i+1,o3, .tok (nx2+1)) Zw ⟨hlt,or,(by(try dsimp only);repeat (first|exact aI.up aBU or|refine aI.aAh ?_ or _|refine aI.del ?_|refine aI.aAb ?_ _)),(by(try dsimp only);repeat (first|exact hsm|refine aW ?_ or _|refine aX ?_ or)),?_,?_,?_⟩ ?_
     ·dsimp only;rw[e3];refine ha3.aBB fun id e=>?_;have:=ha3.lt aBU e;unfold Kb;rw[if_neg or,if_neg or]
     ·dsimp only;rw[e4];exact Acc.new _ Zm or
     ·intro id e e2;injection e2 with e2;have:=ha3.lt aBU e;omega
     simp only[WkL,aB,jH,jI,jJ,pas,e3,e4,he,go_sem,reduceIte,jA,jB,jC,jD,reduceCtorEq,jE,jF]
    have aB1:id<nx2:=aBU id _ aBH;refine aue (ee6 hgi hlt hw aBH aB1 hb4) ?_;rw[←hQ];refine aD (i+1,o3, .tok (nx2+1)) Zw ⟨hlt,or,(by(try dsimp only);repeat (first|exact aI.up aBU or|refine aI.aAh ?_ or _|refine aI.del ?_|refine aI.aAb ?_ _)),(by(try dsimp only);repeat (first|exact hsm|refine aW ?_ or _|refine aX ?_ or)),?_,?_,?_⟩ ?_
    ·dsimp only;rw[e3];refine ha3.aBB fun id' e=>?_;have:=ha3.lt aBU e;have hq:id'≠id:=fun e2=>hne id' e (by rw[e2]);have e1:(id'=nx2+1)=False:=eq_false or;have e2:(id'=id)=False:=eq_false hq;have e3:(id'=nx2)=False:=eq_false or;simp only[Kb,Ke,e1,e2,e3,if_false]
    ·dsimp only;rw[e4];exact Acc.new _ Zm or
    ·intro id e e2;injection e2 with e2;have:=ha3.lt aBU e;omega
    simp only[WkL,aB,jH,jI,jJ,pas,e3,e4,go_sem,reduceIte,jA,jB,jC,jD,reduceCtorEq,jE,jF]
   |false=>
    rw[hnn] at s3 s4 hgi;have e4:sOf true l (i+1)=sOf true l i:=by rw[s4];simp
    have e3:(sOf false l (i+1)).map Ka=(sOf false l i).map Ka++[.agg [.bool false, .int .i64 (gP l i).a]]:=by
     rw[s3];simp[Ka,hnn]
    rcases ha3 with⟨he,rfl⟩|⟨aNv,id,hid,rfl,aBH⟩
    ·refine aue (ee5 hgi hlt hw he hb3) ?_;rw[←hQ];refine aD (i+1, .tok (nx2+1),o4) Zw ⟨hlt,or,(by(try dsimp only);repeat (first|exact aI.up aBU or|refine aI.aAh ?_ or _|refine aI.del ?_|refine aI.aAb ?_ _)),(by(try dsimp only);repeat (first|exact hsm|refine aW ?_ or _|refine aX ?_ or)),?_,?_,?_⟩ ?_
     ·dsimp only;rw[e3];exact Acc.new _ Zm or
     ·dsimp only;rw[e4];refine ha4.aBB fun id e=>?_;have:=ha4.lt aBU e;unfold Kb;rw[if_neg or,if_neg or]
     ·intro id e e2;injection e with e;have:=ha4.lt aBU e2;omega
     simp only[WkL,aB,jH,jI,jJ,pas,e3,e4,he,go_sem,reduceIte,jA,jB,jC,jD,reduceCtorEq,jE,jF]
    have aB1:id<nx2:=aBU id _ aBH;refine aue (ee6 hgi hlt hw aBH aB1 hb3) ?_;rw[←hQ];refine aD (i+1, .tok (nx2+1),o4) Zw ⟨hlt,or,(by(try dsimp only);repeat (first|exact aI.up aBU or|refine aI.aAh ?_ or _|refine aI.del ?_|refine aI.aAb ?_ _)),(by(try dsimp only);repeat (first|exact hsm|refine aW ?_ or _|refine aX ?_ or)),?_,?_,?_⟩ ?_
    ·dsimp only;rw[e3];exact Acc.new _ Zm or
    ·dsimp only;rw[e4];refine ha4.aBB fun id' e=>?_;have:=ha4.lt aBU e;have hq:id'≠id:=fun e2=>hne id rfl (by rw[←e2];exact e);have e1:(id'=nx2+1)=False:=eq_false or;have e2:(id'=id)=False:=eq_false hq;have e3:(id'=nx2)=False:=eq_false or;simp only[Kb,Ke,e1,e2,e3,if_false]
    ·intro id e e2;injection e with e;have:=ha4.lt aBU e2;omega
    simp only[WkL,aB,jH,jI,jJ,pas,e3,e4,go_sem,reduceIte,jA,jB,jC,jD,reduceCtorEq,jE,jF]
 have hc:decide ((i:Int)<(l.length:Int))=false:=decide_eq_false or;have hil:i=l.length:=or;subst hil;have hsl:(oK l).map Ka=(sOf false l l.length).map Ka++(sOf true l l.length).map Ka:=by unfold oK;rw[Ky]
 refine aue hc ?_;rw[←hQ];rw[hsl];dsimp only[pas];generalize hA:(sOf false l l.length).map Ka=A at*;generalize hB:(sOf true l l.length).map Ka=B at*;have hAl:A.length≤100000:=by rw[←hA,jK];omega
 have hBl:B.length≤100000:=by rw[←hB,jK];omega
 clear hA hB;rcases ha4 with⟨rfl,rfl⟩|⟨aDm,id4,aZJ,rfl,aWC⟩
 ·rcases ha3 with⟨rfl,rfl⟩|⟨aNv,id,hid,rfl,aBH⟩
  ·refine aue hc ?_;refine aG h' (hsm.le hd (Kc _)) ⟨rfl,Kc _⟩
  have hb:A.length*16≤140737488355328:=or;refine aue (ee3 hc aBH hb) ?_;refine aG h' ((show Kd nx h' _ from(by(try dsimp only);repeat (first|exact hsm|refine aW ?_ or _|refine aX ?_ or))).le hd (Kc _)) ⟨?_,Kc _⟩;cases A with
  |nil=>exact absurd rfl aNv
  |cons a A=>simp only[List.append_nil,go_sem,reduceIte,jA,jB,jC,jD,reduceCtorEq,jE,jF];rfl
 cases B with
 |nil=>exact absurd rfl aDm
 |cons b B=>
  rcases ha3 with⟨rfl,rfl⟩|⟨aNv,id,hid,rfl,aBH⟩
  ·have hb:(B.length+1)*16≤140737488355328:=by simp at hBl;omega
   refine aue (ee2 hc hb) ?_;refine aG h' ((show Kd nx h' _ from(by(try dsimp only);repeat (first|exact hsm|refine aW ?_ or _|refine aX ?_ or))).le hd (Kc _)) ⟨?_,Kc _⟩;simp only[go_sem,reduceIte,jA,jB,jC,jD,reduceCtorEq,jE,jF];rfl
  have hb:(A.length+(B.length+1))*16≤140737488355328:=by simp at hBl;omega
  refine aue (ee3 hc aBH hb) ?_;refine aG h' ((show Kd nx h' _ from(by(try dsimp only);repeat (first|exact hsm|refine aW ?_ or _|refine aX ?_ or))).le hd (Kc _)) ⟨?_,Kc _⟩;cases A with
  |nil=>exact absurd rfl aNv
  |cons a A=>simp only[go_sem,reduceIte,jA,jB,jC,jD,reduceCtorEq,jE,jF];rfl
end Go.Proofs.YtecepaehmojpgaaGreat
namespace Go.Proofs.YtecepaehmojpgaaGreat
open Go.RowKit Go.Sort
attribute [local irreducible] IntKind.wrap
def qB{α:Type}(f:Nat→α)(t:Nat)(v:α):Nat→α:=fun k=>if k=t then v else f k
theorem kP{α:Type}(f:Nat→α)(t:Nat)(v:α):qB f t v t=v:=by simp[qB]
theorem jZ{α:Type}{f:Nat→α}{t k:Nat}{v:α}(h:k≠t):qB f t v k=f k:=by simp[qB,h]
def eX(n:Nat)(ow:Nat→Own)(A:Nat→List Pa):List V:=fS n fun k=>pas (ow k) (A k)
theorem kK(n:Nat)(ow:Nat→Own)(A:Nat→List Pa):(eX n ow A).length=n:=fH _ _
theorem lP{n k:Nat}(ow:Nat→Own)(A:Nat→List Pa)(h:k<n):(eX n ow A).getD k (.tup [])= .sl (.agg 2) (ow k) ((A k).map Ka):=yX _ h
theorem wD(n t:Nat)(ow:Nat→Own)(A:Nat→List Pa)(o:Own)(L:List Pa):(eX n ow A).set t (.sl (.agg 2) o (L.map Ka))=eX n (qB ow t o) (qB A t L):=by
 unfold eX;rw[rT];refine kE fun i hi=>?_;unfold qB;split<;>rfl
theorem AJ(n:Nat):Kq n (V.sl (.agg 2) .nil [])=eX n (fun _=> .nil) (fun _=>[]):=mW n _
theorem yI{n:Nat}{ow ow':Nat→Own}{A A':Nat→List Pa}(h:∀k,k<n→ow k=ow' k∧A k=A' k):eX n ow A=eX n ow' A':=kE fun k hk=>by rw[(h k hk).1,(h k hk).2]
theorem lT{n k:Nat}(A:Nat→List Pa)(h:k<n):(fS n A).getD k []=A k:=by
 unfold fS;rw[Kk,Ks (by simpa using h)];simp
def BY(l:List Pa):Own:=if l.isEmpty=true then .nil else .free
theorem v7(l:List Pa):lst (.agg 2) (l.map Ka)= .sl (.agg 2) (BY l) (l.map Ka):=by
 cases l with
 |nil=>rfl
 |cons=>rfl
structure FG(h' hp:Hp)(nx nx1 n:Nat)(mv:V)(A:Nat→List Pa)(ow:Nat→Own):Prop where
 box:hp nx=some (.arr (.agg 2) [mv])
 tab:hp (nx+1)=some (.arr .leaf (eX n ow A))
 dom:aI hp nx1
 ge:nx+2≤nx1
 same:Kd nx h' hp
structure kO(h' hp:Hp)(nx b nx1 n:Nat)(mv:V)(A:Nat→List Pa)(ow:Nat→Own)(N:Nat→List Pa)(nw:Nat→Own):Prop where
 box:hp nx=some (.arr (.agg 2) [mv])
 tab:hp (nx+1)=some (.arr .leaf (eX n ow A))
 nxt:hp b=some (.arr .leaf (eX n nw N))
 hb:nx+2≤b
 lt:b<nx1
 tok:∀k,k<n→(N k=[]∧nw k= .nil)∨(N k≠ []∧∃id,nw k= .tok id∧b<id∧hp id=some .tip)
 apart:∀j k,j<n→k<n→j≠k→∀id,nw j= .tok id→nw k≠ .tok id
 dom:aI hp nx1
 same:Kd nx h' hp
section
variable{h' hp hq:Hp}{nx b nx1 nx2 n t:Nat}{mv:V}{A N:Nat→List Pa}{ow nw:Nat→Own}
theorem kO.aHo(F:kO h' hp nx b nx1 n mv A ow N nw){k id:Nat}(hk:k<n)(e:nw k= .tok id):b<id∧id<nx1∧hp id=some .tip∧N k≠ []:=by
 rcases F.tok k hk with⟨_,h⟩|⟨h0,id',h1,h2,h3⟩
 ·rw[h] at e;cases e
 rw[h1] at e;injection e with e;subst e;exact⟨h2,F.dom _ _ h3,h3,h0⟩
theorem kO.start(F:FG h' hp nx nx1 n mv A ow):kO h' (hp.set nx1 (.arr .leaf (Kq n (.sl (.agg 2) .nil [])))) nx nx1 (nx1+1) n mv A ow (fun _=>[]) (fun _=> .nil):=by
 have hge:=F.ge;have hs:∀y,y≠nx1→∀c,(hp.set nx1 c) y=hp y:=fun y h1 c=>by unfold Kb;rw[if_neg h1]
 refine⟨by rw[hs _ or];exact F.box,by rw[hs _ or];exact F.tab,?_,hge,or,fun k hk=> .inl ⟨rfl,rfl⟩,fun j k _ _ _ id e=>(by cases e),F.dom.set or or _,fun y hy=>by rw[hs _ or];exact F.same y hy⟩;rw[AJ];unfold Kb;rw[if_pos rfl]
theorem kO.aBB(F:kO h' hp nx b nx1 n mv A ow N nw)(hk:∀y,y<nx1→hq y=hp y)(hd:aI hq nx2)(hle:nx1≤nx2):kO h' hq nx b nx2 n mv A ow N nw:=by
 have h1:=F.hb;have h2:=F.lt;refine⟨by rw[hk _ or];exact F.box,by rw[hk _ or];exact F.tab,by rw[hk _ or];exact F.nxt,h1,or,fun k hkn=>?_,F.apart,hd,fun y hy=>by rw[hk _ or];exact F.same y hy⟩;rcases F.tok k hkn with h|⟨h0,id,q1,q2,q3⟩
 ·exact .inl h
 exact .inr ⟨h0,id,q1,q2,by rw[hk _ (F.dom _ _ q3)];exact q3⟩
theorem kO.put(F:kO h' hp nx b nx1 n mv A ow N nw)(ht:t<n){L':List Pa}(hL:L'≠ []){id':Nat}(hi:nx1≤id')(hi2:id'<nx2)(h1:hq id'=some .tip)(h2:hq b=some (.arr .leaf ((eX n nw N).set t (.sl (.agg 2) (.tok id') (L'.map Ka)))))
 (h3:∀y,y<nx1→y≠b→nw t≠ .tok y→hq y=hp y) (hd:aI hq nx2):kO h' hq nx b nx2 n mv A ow (qB N t L') (qB nw t (.tok id')):=by
 have g1:=F.hb;have g2:=F.lt;have aHw:∀y,y<b→nw t≠ .tok y:=fun y hy e=>by have:=(F.aHo ht e).1;omega
 refine⟨by rw[h3 _ or or (aHw _ or)];exact F.box,by rw[h3 _ or or (aHw _ or)];exact F.tab,by rw[h2,wD],g1,or,fun k hk=>?_,fun j k hj hk hjk id e e2=>?_,hd,fun y hy=>by rw[h3 _ or or (aHw _ or)];exact F.same y hy⟩
 ·by_cases e:k=t
  ·subst e;rw[kP,kP];exact .inr ⟨hL,id',rfl,or,h1⟩
  rw[jZ e,jZ e];rcases F.tok k hk with h|⟨h0,id,q1,q2,q3⟩
  ·exact .inl h
  exact .inr ⟨h0,id,q1,q2,by rw[h3 _ (F.dom _ _ q3) or (F.apart k t hk ht e id q1)];exact q3⟩
 by_cases e3:j=t
 ·subst e3;rw[kP] at e;injection e with e;subst e;rw[jZ (fun h=>hjk h.symm)] at e2;have:=(F.aHo hk e2).2.1;omega
 rw[jZ e3] at e;by_cases e4:k=t
 ·subst e4;rw[kP] at e2;injection e2 with e2;subst e2;have:=(F.aHo hj e).2.1;omega
 rw[jZ e4] at e2;exact F.apart j k hj hk hjk id e e2
theorem kO.aV2(F:kO h' hp nx b nx1 n mv A ow N nw)(ht:t<n)(L:List Pa)(o:Own):kO h' (hp.set (nx+1) (.arr .leaf ((eX n ow A).set t (.sl (.agg 2) o (L.map Ka))))) nx b nx1 n mv (qB A t L) (qB ow t o) N nw:=by
 have g1:=F.hb;have g2:=F.lt;have hs:∀y,y≠nx+1→∀c,(hp.set (nx+1) c) y=hp y:=fun y h1 c=>by unfold Kb;rw[if_neg h1]
 refine⟨by rw[hs _ or];exact F.box,?_,by rw[hs _ or];exact F.nxt,g1,g2,fun k hk=>?_,F.apart,F.dom.aAh or _,fun y hy=>by rw[hs _ or];exact F.same y hy⟩
 ·rw[wD];unfold Kb;rw[if_pos rfl]
 rcases F.tok k hk with h|⟨h0,id,q1,q2,q3⟩
 ·exact .inl h
 exact .inr ⟨h0,id,q1,q2,by rw[hs _ or];exact q3⟩
theorem kO.congr{N':Nat→List Pa}{nw':Nat→Own}(F:kO h' hp nx b nx1 n mv A ow N nw)(h:∀k,k<n→N k=N' k∧nw k=nw' k):kO h' hp nx b nx1 n mv A ow N' nw':=by
 refine⟨F.box,F.tab,by rw[F.nxt,yI fun k hk=>⟨(h k hk).2,(h k hk).1⟩],F.hb,F.lt,fun k hk=>?_,fun j k hj hk=>?_,F.dom,F.same⟩
 ·have:=F.tok k hk;rw[(h k hk).1,(h k hk).2] at this;exact this
 have:=F.apart j k hj hk;rw[(h j hj).2,(h k hk).2] at this;exact this
theorem kO.aJV(F:kO h' hp nx b nx1 n mv A ow N nw)(ht:t<n)(hN:N t=[]):kO h' (hp.set b (.arr .leaf ((eX n nw N).set t (.sl (.agg 2) .nil [])))) nx b nx1 n mv A ow N nw:=by
 have hw:nw t= .nil:=by
  rcases F.tok t ht with⟨_,h⟩|⟨h,_⟩
  ·exact h
  exact absurd hN h
 have e:(eX n nw N).set t (.sl (.agg 2) .nil [])=eX n nw N:=by
  rw[show V.sl (.agg 2) .nil []=V.sl (.agg 2) .nil (([]:List Pa).map Ka) from rfl,wD];refine yI fun k hk=>?_;by_cases ek:k=t
  ·subst ek;rw[kP,kP];exact⟨hw.symm,hN.symm⟩
  rw[jZ ek,jZ ek];exact⟨rfl,rfl⟩
 have e2:hp.set b (.arr .leaf ((eX n nw N).set t (.sl (.agg 2) .nil [])))=hp:=by
  funext y;unfold Kb;by_cases ey:y=b
  ·subst ey;rw[if_pos rfl,e,F.nxt]
  rw[if_neg ey]
 rw[e2];exact F
theorem kO.toA(F:kO h' hp nx b nx1 n mv A ow N nw):FG h' hp nx nx1 n mv A ow:=⟨F.box,F.tab,F.dom,by have:=F.hb;have:=F.lt;omega,F.same⟩
theorem kO.up(F:kO h' hp nx b nx1 n mv A ow N nw)(h:nx1≤nx2):kO h' hp nx b nx2 n mv A ow N nw:=F.aBB (fun _ _=>rfl) (F.dom.up h) h
end
def jz(l:List We)(A:Nat→List Pa)(n j:Nat)(N:Nat→List Pa):Prop:=∀k,k<n→(N k).length≤2+2*j∧∀q,q∈N k↔(q∈A k∨∃w∈l.take j,w.t=k∧∃p∈A w.f,p.thn w.p=some q)
def lR(l:List We)(A:Nat→List Pa)(n j:Nat)(w:We)(m:Nat)(N:Nat→List Pa):Prop:=∀k,k<n→(N k).length≤2+2*j+m∧∀q,q∈N k↔(q∈A k∨(∃w∈l.take j,w.t=k∧∃p∈A w.f,p.thn w.p=some q)∨(w.t=k∧∃p∈(A w.f).take m,p.thn w.p=some q))
theorem jz.start{l:List We}{A N:Nat→List Pa}{n j:Nat}{w:We}(h:jz l A n j N):lR l A n j w 0 N:=fun k hk=>by
 obtain⟨h1,h2⟩:=h k hk;refine⟨or,fun q=>?_⟩;rw[h2];simp
theorem lR.finish{l:List We}{A N:Nat→List Pa}{n j:Nat}(hj:j<l.length)(hc:(A l[j].f).length≤2)(h:lR l A n j l[j] (A l[j].f).length N):jz l A n (j+1) N:=fun k hk=>by
 obtain⟨h1,h2⟩:=h k hk;refine⟨or,fun q=>?_⟩;rw[h2,Kv,Kh hj];constructor
 ·rintro(h|⟨w,h,h'⟩|⟨h,h'⟩)
  ·exact .inl h
  ·exact .inr ⟨w,Ko _ h,h'⟩
  exact .inr ⟨l[j],Kt _ (Ki.2 rfl),h,h'⟩
 rintro(h|⟨w,h,h'⟩)
 ·exact .inl h
 rcases Kp.1 h with h|h
 ·exact .inr (.inl ⟨w,h,h'⟩)
 have:=Ki.1 h;subst this;exact .inr (.inr h')
theorem lR.skip{l:List We}{A N:Nat→List Pa}{n j m:Nat}{w:We}(h:lR l A n j w m N)(hm:m<(A w.f).length)(e:(A w.f)[m].thn w.p=none):lR l A n j w (m+1) N:=fun k hk=>by
 obtain⟨h1,h2⟩:=h k hk;refine⟨or,fun q=>?_⟩;rw[h2,Kh hm];constructor
 ·rintro(h|h|⟨h,p,hp,h'⟩)
  ·exact .inl h
  ·exact .inr (.inl h)
  exact .inr (.inr ⟨h,p,Ko _ hp,h'⟩)
 rintro(h|h|⟨h,p,hp,h'⟩)
 ·exact .inl h
 ·exact .inr (.inl h)
 rcases Kp.1 hp with hp|hp
 ·exact .inr (.inr ⟨h,p,hp,h'⟩)
 have:=Ki.1 hp;subst this;rw[e] at h';cases h'
theorem lR.more{l:List We}{A N:Nat→List Pa}{n j m:Nat}{w:We}{r:Pa}(h:lR l A n j w m N)(hm:m<(A w.f).length)(e:(A w.f)[m].thn w.p=some r):lR l A n j w (m+1) (qB N w.t (N w.t++[r])):=fun k hk=>by
 obtain⟨h1,h2⟩:=h k hk;by_cases ek:k=w.t
 ·subst ek;rw[kP];refine⟨by simp;omega,fun q=>?_⟩;rw[Kp,h2,Kh hm,Ki];constructor
  ·rintro((h|h|⟨h,p,hp,h'⟩)|h)
   ·exact .inl h
   ·exact .inr (.inl h)
   ·exact .inr (.inr ⟨h,p,Ko _ hp,h'⟩)
   subst h;exact .inr (.inr ⟨rfl,_,Kt _ (Ki.2 rfl),e⟩)
  rintro(h|h|⟨h,p,hp,h'⟩)
  ·exact .inl (.inl h)
  ·exact .inl (.inr (.inl h))
  rcases Kp.1 hp with hp|hp
  ·exact .inl (.inr (.inr ⟨h,p,hp,h'⟩))
  have:=Ki.1 hp;subst this;rw[e] at h';injection h' with h';exact .inr h'.symm
 rw[jZ ek];refine⟨or,fun q=>?_⟩;rw[h2,Kh hm];constructor
 ·rintro(h|h|⟨h,_⟩)
  ·exact .inl h
  ·exact .inr (.inl h)
  exact absurd h.symm ek
 rintro(h|h|⟨h,_⟩)
 ·exact .inl h
 ·exact .inr (.inl h)
 exact absurd h.symm ek
theorem ul{l:List We}{n a r:Nat}{A N A':Nat→List Pa}(aAG:yR n l)(h:mC l n a r (fS n A))(hN:jz l A n l.length N)(hA:∀k,k<n→A' k=oK (N k)):mC l n a (r+1) (fS n A'):=by
 have hv:∀k,k<n→∀p∈N k,0≤p.a:=fun k hk p hp=>by
  rcases((hN k hk).2 p).1 hp with h1|⟨w,hw,e,q,hq,e2⟩
  ·have:=(h.val k hk p (by rw[lT A hk];exact h1)).ok;simp only[Pa.ok,Kw,decide_eq_true_eq] at this;exact this.1
  have:=(Pa.aCf e2).1;simp only[Pa.ok,Kw,decide_eq_true_eq] at this;exact this.1
 refine mC.next (nx:=fS n N) (fun w hw=>(aAG w hw).1) h (fH _ _) (fun k hk q=>?_) fun k hk=>?_
 ·rw[lT N hk,lT A hk,(hN k hk).2 q,Kv];constructor
  ·rintro(h|⟨w,hw,e,p,hp,e2⟩)
   ·exact .inl h
   exact .inr ⟨w,hw,e,p,by rw[lT A (aAG w hw).1];exact hp,e2⟩
  rintro(h|⟨w,hw,e,p,hp,e2⟩)
  ·exact .inl h
  exact .inr ⟨w,hw,e,p,by rw[lT A (aAG w hw).1] at hp;exact hp,e2⟩
 rw[lT N hk,lT A' hk,hA k hk];exact uc (hv k hk)
end Go.Proofs.YtecepaehmojpgaaGreat
namespace Go.Proofs.YtecepaehmojpgaaGreat
open Go.RowKit Go.Sort
attribute [local irreducible] IntKind.wrap
set_option maxRecDepth 100000 in
set_option maxHeartbeats 8000000 in
theorem zy(ow0:Own)(n:Nat)(l:List We)(a:Nat)(aAG:yR n l)(aDD:wG l)(ha:a<n)(hn:n≤200)(hl:l.length≤1000)(h':Hp)(nx:Nat):
 bD Tryz.prog 119 [.agg [.int .i64 n,wes ow0 l], .int .i64 a] h' nx fun v h'' _=>∃m es,nx≤m∧v= .rs m .leaf 0 es.length∧h''=h'.set m (.arr .leaf es)∧es=(lH n l a).map (fun m=>lst (.agg 2) (m.map Ka)):=by
 refine aF L.aW4 fun hd=>?_;have hmf:(V.agg [V.int .i64 (n:Int),wes ow0 l]).fits (.agg 2)=true:=by simp[V.fits,V.aAD]
 have hst:∀k o es k' o' es',bW .leaf 0 (V.sl k o es) (V.sl k' o' es')=V.sl k' o' es':=fun _ _ _ _ _ _=>rfl;have hg0:(Kq n (V.sl (.agg 2) .nil [])).getD a (.tup [])= .sl (.agg 2) .nil []:=by
  rw[Kk,List.getElem?_replicate,if_pos ha];rfl
 have hal:a<n:=ha;simp only[jL,jM,jA,jB,jN,jO,jP,jQ,V.undef];obtain⟨mv,hmv⟩:∃mv:V,mv= .agg [.int .i64 (n:Int),wes ow0 l]:=⟨_,rfl⟩
 (repeat' (first|(with_reducible first|refine stp ?_|refine bJ ZM ?_|refine iQ (fun _=>?_) (fun _=>?_))|((first|(with_reducible refine fV ?_;first|refine eJ rfl ?_ ?_|refine Zx ?_)|(with_reducible refine fW ?_;first|refine cB rfl ?_ ?_|refine ZX ?_)|refine Zy ?_)<;>try simp only[hmf,hg0,hst,hal,List.length_replicate,jG,go_sem,reduceIte,jA,jB,jC,jD,reduceCtorEq,jE,jF])|refine ZY ?_|omega))
 refine aO (fun q:Nat×(Nat→List Pa)×(Nat→Own)=>aB 116 0 [(2, .ptr nx (.agg 2) 0 0),(5, .rs (nx+1) .leaf 0 n),(6, .int .i64 q.1)])
  (fun q hp nx1=>q.1≤2*n+1∧FG h' hp nx nx1 n mv q.2.1 q.2.2∧mC l n a q.1 (fS n q.2.1)∧(q.1=0∨∀k,k<n→q.2.2 k=BY (q.2.1 k)))
  (fun q=>2*n+1-q.1) (0,(fun k=>if k=a then [Kg] else []),(fun k=>if k=a then .tok (nx+2) else .nil)) ⟨Km _,?_,?_, .inl rfl⟩ ?_ ?_
 ·refine⟨?_,?_,(by(try dsimp only);repeat (first|exact aI.up hd or|refine aI.aAh ?_ or _|refine aI.del ?_|refine aI.aAb ?_ _)),Zw,(by(try dsimp only);repeat (first|exact Hp.same.aBG|refine aW ?_ or _|refine aX ?_ or))⟩
  ·simp only[hmv,go_sem,reduceIte,jA,jB,jC,jD,reduceCtorEq,jE,jF]
  refine Zn ?_;congr 1;congr 1;rw[mW,rT];refine kE fun i hi=>?_;by_cases e:i=a
  ·simp[e,Ka,Kg]
  simp[e]
 ·have e:fS n (fun k=>if k=a then [Kg] else [])=(Kq n []).set a [Kg]:=by
   rw[mW,rT]
  dsimp only;rw[e];exact mC.first ha
 ·simp only[WkL,aB,jH,jI,jJ,go_sem,reduceIte,jA,jB,jC,jD,reduceCtorEq,jE,jF]
 rintro⟨r,A,ow⟩ hp nx1 ⟨hr,F,R,how⟩;generalize hQ:bH _ _ _ _ _=Q0;dsimp only at hr F R how;simp only[aB,go_sem,reduceIte,jA,jB,jC,jD,reduceCtorEq,jE,jF];have aAg:=F.box;rw[hmv] at aAg;have hge:=F.ge;have l1:nx<nx1:=or;have hw2:IntKind.i64.wrap (2*(n:Int))=((2*n:Nat):Int):=by rw[bB]<;>omega
 have aN3:∀k,k<n→(A k).length≤2:=fun k hk=>by have:=rF (R.can k hk);rwa [lT A hk] at this
 rcases Kj (2*n) r with aOq|aWE
 ·have hc:decide ((r:Int)≤((2*n:Nat):Int))=false:=decide_eq_false or;refine aue (ee4 aAg hc hw2 l1) ?_;rw[←hQ];refine aue hc ?_;have aGS:∀k,k<n→ow k=BY (A k):=how.elim (fun h=>absurd h or) id;have hfl:lH n l a=fS n A:=xd (fH _ _) fun k hk=>R.done (fun w hw=>(aAG w hw).2.1) aDD ha or k hk;have aBP:=F.tab;refine aG (h'.set (nx+1) (.arr .leaf (eX n ow A))) ?_ ⟨nx+1,eX n ow A,or,?_,rfl,?_⟩
  ·intro m b hm;by_cases e:m=nx+1
   ·subst e;unfold Kb at hm;rw[if_pos rfl] at hm;rw[←hm];exact aBP
   unfold Kb at hm;rw[if_neg e] at hm;have:=hd m b hm;exact(F.same m or).trans hm
  ·simp only[kK,go_sem,reduceIte,jA,jB,jC,jD,reduceCtorEq,jE,jF]
  rw[hfl];unfold eX fS;rw[List.map_map];refine List.map_congr_left fun k hk=>?_;have hk':k<n:=by simpa using hk
  show pas (ow k) (A k)=lst (.agg 2) ((A k).map Ka);rw[aGS k hk',v7]
 have hc:decide ((r:Int)≤((2*n:Nat):Int))=true:=decide_eq_true or;have hw:IntKind.i64.wrap ((r:Int)+1)=((r+1:Nat):Int):=by rw[bB]<;>omega
 refine aue (ee4 aAg hc hw2 l1) ?_;have N0:=kO.start F;obtain⟨b,hb⟩:∃b,b=nx1:=⟨_,rfl⟩;rw[←hb] at N0 l1⊢;clear aAg l1 hc hw2
 --what is known goes over
 refine aO (fun q:Nat×(Nat→Own)=>aB 116 0 [(2, .ptr nx (.agg 2) 0 0),(5, .rs (nx+1) .leaf 0 n),(6, .int .i64 r),(7, .rs b .leaf 0 n),(8, .int .i64 q.1)])
  (fun q hq nx2=>q.1≤n∧kO h' hq nx b nx2 n mv A ow (fun k=>if k<q.1 then A k else []) q.2)
  (fun q=>n-q.1) (0,fun _=> .nil) ⟨Km _,?_⟩ ?_ ?_
 ·simp only[Nat.not_lt_zero,if_false];exact N0.up ZN
 ·simp only[WkL,aB,jH,jI,jJ,go_sem,reduceIte,jA,jB,jC,jD,reduceCtorEq,jE,jF]
 clear N0;rintro⟨i,nw⟩ hq nx2 ⟨hi,M⟩;generalize hQ1:bH _ _ _ _ _=Q1;dsimp only at hi M;simp only[aB,go_sem,reduceIte,jA,jB,jC,jD,reduceCtorEq,jE,jF];have aAg:=M.box;rw[hmv] at aAg;have aBP:=M.tab;have aGB:=M.nxt;have m1:=M.hb;have m2:=M.lt;have l1:nx<nx2:=or;have l2:nx+1<nx2:=or;have aD0:=kK n ow A;have aGA:=kK n nw (fun k=>if k<i then A k else []);rcases Kj i n with hlt|aDA
 ·have hc:decide ((i:Int)<(n:Int))=true:=decide_eq_true or;have hwi:IntKind.i64.wrap ((i:Int)+1)=((i+1:Nat):Int):=by rw[bB]<;>omega
  have g1:=lP ow A hlt;have hni:nw i= .nil:=by
   rcases M.tok i hlt with⟨_,h⟩|⟨h,_⟩
   ·exact h
   simp at h
  have g2:(eX n nw (fun k=>if k<i then A k else [])).getD i (.tup [])= .sl (.agg 2) .nil []:=by
   rw[lP nw _ hlt,hni];simp
  have hAi:=aN3 i hlt;by_cases he:A i=[]
  ·have g1':(eX n ow A).getD i (.tup [])= .sl (.agg 2) (ow i) []:=by rw[g1,he];rfl
   refine aue (DK aAg aBP aGB hc hwi g1' g2 aD0 aGA hlt m2 hst l1 l2) ?_;rw[←hQ1];refine aD (i+1,nw) Zw ⟨hlt,?_⟩ ?_
   ·refine((M.aJV hlt Zm).up ZN).congr fun k hk=>⟨?_,rfl⟩;by_cases ek:k=i
    ·subst ek;simp[he]
    by_cases ek2:k<i
    ·simp[ek2,show k<i+1 by omega]
    simp[ek2,show¬k<i+1 by omega]
   simp only[WkL,aB,jH,jI,jJ,go_sem,reduceIte,jA,jB,jC,jD,reduceCtorEq,jE,jF]
  have aN4:(A i).length*16≤140737488355328:=or;have aB2:((A i).map Ka).isEmpty=false:=by
   cases e:A i with
   |nil=>exact absurd e he
   |cons=>rfl
  have m3:b<nx2+10:=or;refine aue (Fw aAg aBP aGB hc hwi g1 g2 aD0 aGA hlt m2 m3 hst aN4 aB2 l1 l2) ?_;rw[←hQ1];refine aD (i+1,qB nw i (.tok (nx2+10))) Zw ⟨hlt,?_⟩ ?_
  ·have e0:(nx2+10=b)=False:=eq_false or;refine(M.put hlt he (id':=nx2+10) or (nx2:=_) ?_ ?_ ?_ ?_ ?_).congr fun k hk=>⟨?_,rfl⟩
   ·first|omega|(dsimp only;omega)
   ·simp only[Kb,e0,if_true,if_false]
   ·simp only[Kb,if_true]
   ·intro y hy hyb _;have e1:(y=b)=False:=eq_false hyb;have e2:(y=nx2+10)=False:=eq_false or;simp only[Kb,e1,e2,if_false]
   ·exact(M.dom.set or ZN _).aAh ZN _
   by_cases ek:k=i
   ·subst ek;rw[kP];simp
   rw[jZ ek];by_cases ek2:k<i
   ·simp[ek2,show k<i+1 by omega]
   simp[ek2,show¬k<i+1 by omega]
  simp only[WkL,aB,jH,jI,jJ,go_sem,reduceIte,jA,jB,jC,jD,reduceCtorEq,jE,jF]
 have hc:decide ((i:Int)<(n:Int))=false:=decide_eq_false or;have hin:i=n:=or;subst hin;refine aue (ee3 aAg hc l1) ?_;rw[←hQ1];refine aue hc ?_;have M1:kO h' hq nx b nx2 i mv A ow A nw:=M.congr fun k hk=>⟨by simp[hk],rfl⟩;clear M aBP aGB aD0 aGA aAg aDA hc hQ1 l1 l2;refine aO (fun q:Nat×(Nat→List Pa)×(Nat→Own)=>aB 116 0 [(2, .ptr nx (.agg 2) 0 0),(5, .rs (nx+1) .leaf 0 i),(6, .int .i64 r),(7, .rs b .leaf 0 i),(9, .int .i64 q.1)])
  (fun q hq nx2=>q.1≤l.length∧kO h' hq nx b nx2 i mv A ow q.2.1 q.2.2∧jz l A i q.1 q.2.1)
  (fun q=>l.length-q.1) (0,A,nw) ⟨Km _,M1,fun k hk=>⟨by have:=aN3 k hk;omega,fun q=>Zm⟩⟩ ?_ ?_
 ·simp only[WkL,aB,jH,jI,jJ,go_sem,reduceIte,jA,jB,jC,jD,reduceCtorEq,jE,jF]
 clear M1;rintro⟨j,N,nw⟩ hq nx2 ⟨hj,M,NX⟩;generalize hQ1:bH _ _ _ _ _=Q1;dsimp only at hj M NX;simp only[aB,go_sem,reduceIte,jA,jB,jC,jD,reduceCtorEq,jE,jF];have aAg:=M.box;rw[hmv] at aAg;have m1:=M.hb;have m2:=M.lt;have l1:nx<nx2:=or;rcases Kj j l.length with hlt|aDA
 ·have hc:decide ((j:Int)<(l.length:Int))=true:=decide_eq_true or;have hg:(l.map We.v).getD j (.tup [])= .agg [.int .i64 l[j].f, .int .i64 l[j].t, .bool l[j].p.n, .int .i64 l[j].p.a]:=bO We.v l j hlt;have hwj:IntKind.i64.wrap ((j:Int)+1)=((j+1:Nat):Int):=by rw[bB]<;>omega
  have hwf:=aAG l[j] (Kx _);have hwl:l[j]∈l:=Kx _;have aA9:=fun N'=>lR.finish (N:=N') (A:=A) (n:=i) hlt (aN3 _ hwf.1);obtain⟨w,hw0⟩:∃w,w=l[j]:=⟨_,rfl⟩;rw[←hw0] at hg hwf hwl aA9;have f1:=hwf.1;have f2:=hwf.2.1;have hwv:(V.agg [.int .i64 w.f, .int .i64 w.t, .bool w.p.n, .int .i64 w.p.a]).fits (.agg 4)=true:=rfl;refine aue (ee5 aAg hc hg hlt l1) ?_;have e0:(b=nx2)=False:=eq_false or;have aZP:b<nx2:=m2;refine aO (fun q:Nat×(Nat→List Pa)×(Nat→Own)=>aB 116 0 [(2, .ptr nx (.agg 2) 0 0),(5, .rs (nx+1) .leaf 0 i),(6, .int .i64 r),(7, .rs b .leaf 0 i),(9, .int .i64 j),(10, .ptr nx2 (.agg 4) 0 0),(11, .int .i64 q.1)])
   (fun q hq nx3=>q.1≤(A w.f).length∧kO h' hq nx b nx3 i mv A ow q.2.1 q.2.2∧nx2<nx3∧hq nx2=some (.arr (.agg 4) [.agg [.int .i64 w.f, .int .i64 w.t, .bool w.p.n, .int .i64 w.p.a]])∧lR l A i j w q.1 q.2.1)
   (fun q=>(A w.f).length-q.1) (0,N,nw) ⟨Km _,?_,Zw,by simp only[go_sem,reduceIte,jA,jB,jC,jD,reduceCtorEq,jE,jF],NX.start⟩ ?_ ?_
  ·refine M.aBB (fun y hy=>?_) (by(try dsimp only);repeat (first|exact aI.up M.dom or|refine aI.aAh ?_ or _|refine aI.del ?_|refine aI.aAb ?_ _)) ZN;have e1:(y=nx2)=False:=eq_false or;simp only[Kb,e1,if_false]
  ·simp only[WkL,aB,jH,jI,jJ,go_sem,reduceIte,jA,jB,jC,jD,reduceCtorEq,jE,jF]
  clear M NX aAg l1 e0 m2;rintro⟨m,N,nw⟩ hs nx3 ⟨hm,M,aDJ,hbw,NI⟩;generalize hQ2:bH _ _ _ _ _=Q2;dsimp only at hm M hbw NI;simp only[aB,go_sem,reduceIte,jA,jB,jC,jD,reduceCtorEq,jE,jF];have aAg:=M.box;rw[hmv] at aAg;have aBP:=M.tab;have aGB:=M.nxt;have m2:=M.lt;have l1:nx<nx3:=or;have l2:nx+1<nx3:=or;have aD0:=kK i ow A;have aGA:=kK i nw N;have g1:=lP ow A f1;have g2:=lP nw N f2;have hcf:=aN3 w.f f1;rcases Kj m (A w.f).length with hml|hgm
  ·have hcm:decide ((m:Int)<((A w.f).length:Int))=true:=decide_eq_true or;have hwm:IntKind.i64.wrap ((m:Int)+1)=((m+1:Nat):Int):=by rw[bB]<;>omega
   have hgp:((A w.f).map Ka).getD m (.tup [])=(A w.f)[m].v:=bO Ka (A w.f) m hml;have aDE:=Pa.aDh (A w.f)[m] w.p;have aGO:=fun e=>lR.skip NI hml e;have aCH:=fun r e=>lR.more (r:=r) NI hml e;obtain⟨p,hp0⟩:∃p,p=(A w.f)[m]:=⟨_,rfl⟩;rw[←hp0] at hgp aDE aGO aCH;obtain⟨rr,hrr⟩:∃rr,rr=(p.then w.p).1:=⟨_,rfl⟩;have hfp:=Kf p;have hfr:=Kf rr;have ct:∀h,aY Tryz.prog 143 [p.v, .agg [.bool w.p.n, .int .i64 w.p.a]] h (.tup [rr.v, .int .i64 (p.then w.p).2]):=fun h=>by rw[hrr];exact uk p w.p h
   by_cases he:(p.then w.p).2=0
   ·have hce:((p.then w.p).2==0)=true:=by simp[he]
    rw[if_pos he,←hrr] at aDE;have NI2:=aCH rr aDE;have hNl:=(NI w.t f2).1;have aN4:((N w.t).length+1)*16≤140737488355328:=or;rcases M.tok w.t f2 with⟨t1,t2⟩|⟨t1,id,t2,t3,t4⟩
    ·have g2':(eX i nw N).getD w.t (.tup [])= .sl (.agg 2) .nil []:=by rw[g2,t1,t2];rfl
     have m3:b<nx3+26:=or;have m4:b<nx3+27:=or;have m5:b<nx3+14:=or
     (repeat' (first|(with_reducible first|refine stp ?_|refine bJ ZM ?_|refine iQ (fun _=>?_) (fun _=>?_))|((first|(with_reducible refine fV ?_;first|refine eJ rfl ?_ ?_|refine Zx ?_)|(with_reducible refine fW ?_;first|refine cB rfl ?_ ?_|refine iI (ct _) rfl (bM _) ?_|refine nN rfl rfl ZM (by(simp only[cS,go_sem,reduceIte,jA,jB,jC,jD,reduceCtorEq,jE,jF])<;>try omega) (by simp only[go_sem,reduceIte,jA,jB,jC,jD,reduceCtorEq,jE,jF]) (by simp only[go_sem,reduceIte,jA,jB,jC,jD,reduceCtorEq,jE,jF]) (by simp only[hfr,aAg,aBP,aGB,hbw,hcm,hgp,hml,g1,g2',aD0,aGA,hfp,hfr,hce,f1,f2,m2,m3,m4,m5,aDJ,hst,l1,l2,jK,jG,go_sem,reduceIte,jA,jB,jC,jD,reduceCtorEq,jE,jF]) ?_|refine ZX ?_)|refine Zy ?_)<;>try simp only[aAg,aBP,aGB,hbw,hcm,hgp,hml,g1,g2',aD0,aGA,hfp,hfr,hce,f1,f2,m2,m3,m4,m5,aDJ,hst,l1,l2,jK,jG,go_sem,reduceIte,jA,jB,jC,jD,reduceCtorEq,jE,jF])|refine ZY ?_|omega))
     rw[←hQ2];have hne:N w.t++[rr]≠ []:=Zm;have k1:(nx3+27=b)=False:=eq_false or;have k2:(nx2=b)=False:=eq_false or;have k3:(nx2=nx3+14)=False:=eq_false or;have k4:(nx2=nx3+26)=False:=eq_false or;have k5:(nx2=nx3+27)=False:=eq_false or;refine aD (m+1,qB N w.t (N w.t++[rr]),qB nw w.t (.tok (nx3+27))) Zw ⟨hml,?_,?_,?_,NI2⟩ ?_
     ·refine M.put f2 hne (id':=nx3+27) or ZN ?_ ?_ ?_ (by(try dsimp only);repeat (first|exact aI.up M.dom or|refine aI.aAh ?_ or _|refine aI.del ?_|refine aI.aAb ?_ _))
      ·simp only[Kb,k1,if_true,if_false]
      ·simp only[Kb,if_true,t1,jQ,Kz,Ku]
      intro y hy hyb hyt;have e1:(y=b)=False:=eq_false hyb;have e2:(y=nx3+27)=False:=eq_false or;have e3:(y=nx3+26)=False:=eq_false or;have e4:(y=nx3+14)=False:=eq_false or;simp only[Kb,e1,e2,e3,e4,if_false]
     ·first|omega|(dsimp only;omega)
     ·simp only[Kb,k2,k3,k4,k5,if_false];exact hbw
     simp only[WkL,aB,jH,jI,jJ,hwm,go_sem,reduceIte,jA,jB,jC,jD,reduceCtorEq,jE,jF]
    have g2':=g2;rw[t2] at g2';have aB1:id<nx3:=M.dom _ _ t4;have m3:b<nx3+26:=or;have m4:b<nx3+27:=or;have m5:b<nx3+14:=or;have n1:(b=id)=False:=eq_false or;have n2:(id=nx3+14)=False:=eq_false or;have ca:iW ((hs.set (nx3+14) (Blk.arr (Sh.agg 2) [V.agg [V.bool false,V.int IntKind.i64 0]])).set (nx3+14) (Blk.arr (Sh.agg 2) [rr.v])) (nx3+17) [3,4,5,6,7,8,9] [none,none,none,none,none,none,none,none,none,some Blk.tip] [none,none,none,none,none,none,none,none,none,none] id Blk.tip:=
     ⟨by simp[cS], .inl ⟨or,by simp only[Kb,n2,if_false];exact t4⟩⟩
    have z1:((0:Int)≤(w.t:Int))=True:=eq_true or;have z2:((w.t:Int)<(i:Int))=True:=eq_true or
    (repeat' (first|(with_reducible first|refine stp ?_|refine bJ ZM ?_|refine iQ (fun _=>?_) (fun _=>?_))|((first|(with_reducible refine fV ?_;first|refine eJ rfl ?_ ?_|refine Zx ?_)|(with_reducible refine fW ?_;first|refine cB rfl ?_ ?_|refine iI (ct _) rfl (bM _) ?_|refine nN rfl rfl ZM (by(simp only[cS,go_sem,reduceIte,jA,jB,jC,jD,reduceCtorEq,jE,jF])<;>try omega) (by simp only[go_sem,reduceIte,jA,jB,jC,jD,reduceCtorEq,jE,jF]) (by simp only[go_sem,reduceIte,jA,jB,jC,jD,reduceCtorEq,jE,jF]) (by simp only[hfr,aAg,aBP,aGB,hbw,hcm,hgp,hml,g1,g2',aD0,aGA,hfp,hfr,hce,f1,f2,m2,m3,m4,m5,n1,n2,t4,aB1,aN4,aDJ,ca,z1,z2,hst,l1,l2,jK,jG,go_sem,reduceIte,jA,jB,jC,jD,reduceCtorEq,jE,jF]) ?_|refine ZX ?_)|refine Zy ?_)<;>try simp only[aAg,aBP,aGB,hbw,hcm,hgp,hml,g1,g2',aD0,aGA,hfp,hfr,hce,f1,f2,m2,m3,m4,m5,n1,n2,t4,aB1,aN4,aDJ,ca,z1,z2,hst,l1,l2,jK,jG,go_sem,reduceIte,jA,jB,jC,jD,reduceCtorEq,jE,jF])|refine ZY ?_|omega))
    rw[←hQ2];have hne:N w.t++[rr]≠ []:=Zm;have k1:(nx3+27=b)=False:=eq_false or;have k2:(nx2=b)=False:=eq_false or;have k3:(nx2=nx3+14)=False:=eq_false or;have k4:(nx2=nx3+26)=False:=eq_false or;have k5:(nx2=nx3+27)=False:=eq_false or;have k6:(nx2=id)=False:=eq_false (fun e=>by rw[e,t4] at hbw;cases hbw);have k7:(nx3+27=id)=False:=eq_false or;refine aD (m+1,qB N w.t (N w.t++[rr]),qB nw w.t (.tok (nx3+27))) Zw ⟨hml,?_,?_,?_,NI2⟩ ?_
    ·refine M.put f2 hne (id':=nx3+27) or ZN ?_ ?_ ?_ (by(try dsimp only);repeat (first|exact aI.up M.dom or|refine aI.aAh ?_ or _|refine aI.del ?_|refine aI.aAb ?_ _))
     ·simp only[Kb,Ke,k1,k7,if_true,if_false]
     ·simp only[Kb,if_true,Ky,Kz,Ku]
     intro y hy hyb hyt;have e1:(y=b)=False:=eq_false hyb;have e2:(y=nx3+27)=False:=eq_false or;have e3:(y=nx3+26)=False:=eq_false or;have e4:(y=nx3+14)=False:=eq_false or;have e5:(y=id)=False:=eq_false (fun e=>hyt (by rw[t2,e]));simp only[Kb,Ke,e1,e2,e3,e4,e5,if_false]
    ·first|omega|(dsimp only;omega)
    ·simp only[Kb,Ke,k2,k3,k4,k5,k6,if_false];exact hbw
    simp only[WkL,aB,jH,jI,jJ,hwm,go_sem,reduceIte,jA,jB,jC,jD,reduceCtorEq,jE,jF]
   have hce:((p.then w.p).2==0)=false:=by simp[he]
   rw[if_neg he] at aDE;have NI2:=aGO aDE
   (repeat' (first|(with_reducible first|refine stp ?_|refine bJ ZM ?_|refine iQ (fun _=>?_) (fun _=>?_))|((first|(with_reducible refine fV ?_;first|refine eJ rfl ?_ ?_|refine Zx ?_)|(with_reducible refine fW ?_;first|refine cB rfl ?_ ?_|refine iI (ct _) rfl (bM _) ?_|refine nN rfl rfl ZM (by(simp only[cS,go_sem,reduceIte,jA,jB,jC,jD,reduceCtorEq,jE,jF])<;>try omega) (by simp only[go_sem,reduceIte,jA,jB,jC,jD,reduceCtorEq,jE,jF]) (by simp only[go_sem,reduceIte,jA,jB,jC,jD,reduceCtorEq,jE,jF]) (by simp only[hfr,aAg,aBP,hbw,hcm,hgp,hwm,hml,g1,aD0,hfp,hfr,hce,f1,aDJ,l1,l2,jK,jG,go_sem,reduceIte,jA,jB,jC,jD,reduceCtorEq,jE,jF]) ?_|refine ZX ?_)|refine Zy ?_)<;>try simp only[aAg,aBP,hbw,hcm,hgp,hwm,hml,g1,aD0,hfp,hfr,hce,f1,aDJ,l1,l2,jK,jG,go_sem,reduceIte,jA,jB,jC,jD,reduceCtorEq,jE,jF])|refine ZY ?_|omega))
   rw[←hQ2];refine aD (m+1,N,nw) Zw ⟨hml,?_,?_,?_,NI2⟩ ?_
   ·refine M.aBB (fun y hy=>?_) (by(try dsimp only);repeat (first|exact aI.up M.dom or|refine aI.aAh ?_ or _|refine aI.del ?_|refine aI.aAb ?_ _)) ZN;have e1:(y=nx3+14)=False:=eq_false or;simp only[Kb,e1,if_false]
   ·first|omega|(dsimp only;omega)
   ·have e1:(nx2=nx3+14)=False:=eq_false or;simp only[Kb,e1,if_false];exact hbw
   simp only[WkL,aB,jH,jI,jJ,go_sem,reduceIte,jA,jB,jC,jD,reduceCtorEq,jE,jF]
  have hcm:decide ((m:Int)<((A w.f).length:Int))=false:=decide_eq_false or;have hml:m=(A w.f).length:=or;subst hml;refine aue (xp aAg aBP hbw hcm g1 aD0 f1 aDJ l1 l2) ?_;rw[←hQ2];refine aue hwj ?_;rw[←hQ1];refine aD (j+1,N,nw) Zw ⟨hlt,M,aA9 N NI⟩ ?_;simp only[WkL,aB,jH,jI,jJ,go_sem,reduceIte,jA,jB,jC,jD,reduceCtorEq,jE,jF]
 have hc:decide ((j:Int)<(l.length:Int))=false:=decide_eq_false or;have hjl:j=l.length:=or;subst hjl;refine aue (ee3 aAg hc l1) ?_;rw[←hQ1];refine aue hc ?_;clear aAg aDA hc hQ1 l1;refine aO (fun q:Nat×(Nat→List Pa)×(Nat→Own)=>aB 116 0 [(2, .ptr nx (.agg 2) 0 0),(5, .rs (nx+1) .leaf 0 i),(6, .int .i64 r),(7, .rs b .leaf 0 i),(14, .int .i64 q.1)])
  (fun q hq nx2=>q.1≤i∧kO h' hq nx b nx2 i mv q.2.1 q.2.2 N nw∧(∀k,k<i→q.2.1 k=if k<q.1 then oK (N k) else A k)∧∀k,k<q.1→q.2.2 k=BY (q.2.1 k))
  (fun q=>i-q.1) (0,A,ow) ⟨Km _,M,fun k hk=>Zm,fun k hk=>absurd hk Zw⟩ ?_ ?_
 ·simp only[WkL,aB,jH,jI,jJ,go_sem,reduceIte,jA,jB,jC,jD,reduceCtorEq,jE,jF]
 clear M;rintro⟨x,A',ow'⟩ hq nx2 ⟨hx,M,hA,hO⟩;generalize hQ1:bH _ _ _ _ _=Q1;dsimp only at hx M hA hO;simp only[aB,go_sem,reduceIte,jA,jB,jC,jD,reduceCtorEq,jE,jF];have aAg:=M.box;rw[hmv] at aAg;have aBP:=M.tab;have aGB:=M.nxt;have m1:=M.hb;have m2:=M.lt;have l1:nx<nx2:=or;have l2:nx+1<nx2:=or;have aD0:=kK i ow' A';have aGA:=kK i nw N;rcases Kj x i with hlt|aHG
 ·have hc:decide ((x:Int)<(i:Int))=true:=decide_eq_true or;have hwx:IntKind.i64.wrap ((x:Int)+1)=((x+1:Nat):Int):=by rw[bB]<;>omega
  have g1:=lP ow' A' hlt;have g2:=lP nw N hlt;have hNl:=(NX x hlt).1;have cs:∀h,aY Tryz.prog 144 [.sl (.agg 2) (nw x) ((N x).map Ka)] h (.sl (.agg 2) (BY (oK (N x))) ((oK (N x)).map Ka)):=fun h=>by
   have e:=uj (nw x) (N x) or h;rw[v7] at e;exact e
  have C1:=fun h=>cs h;refine aue (DK aAg aBP aGB hc hwx g1 g2 aD0 aGA hlt m2 hst l1 l2) ?_;rw[←hQ1];refine aD (x+1,qB A' x (oK (N x)),qB ow' x (BY (oK (N x)))) Zw ⟨hlt,(M.aV2 hlt _ _).up ZN,fun k hk=>?_,fun k hk=>?_⟩ ?_
  ·dsimp only;by_cases ek:k=x
   ·subst ek;rw[kP,if_pos or]
   rw[jZ ek,hA k hk];by_cases ek2:k<x
   ·rw[if_pos ek2,if_pos or]
   rw[if_neg ek2,if_neg or]
  ·dsimp only at hk⊢;by_cases ek:k=x
   ·subst ek;rw[kP,kP]
   rw[jZ ek,jZ ek];exact hO k or
  simp only[WkL,aB,jH,jI,jJ,go_sem,reduceIte,jA,jB,jC,jD,reduceCtorEq,jE,jF]
 have hc:decide ((x:Int)<(i:Int))=false:=decide_eq_false or;have hxi:x=i:=or;subst hxi;refine aue (ee3 aAg hc l1) ?_;rw[←hQ1];refine aue hw ?_;rw[←hQ];refine aD (r+1,A',ow') Zw ⟨Zw,M.toA,ul aAG R NX (fun k hk=>by dsimp only;rw[hA k hk,if_pos hk]), .inr fun k hk=>hO k hk⟩ ?_;simp only[WkL,aB,jH,jI,jJ,go_sem,reduceIte,jA,jB,jC,jD,reduceCtorEq,jE,jF]
theorem rb(o:Own)(n:Nat)(l:List We)(a:Nat)(aAG:yR n l)(aDD:wG l)(ha:a<n)(hn:n≤200)(hl:l.length≤1000)(h:Hp):
 aY Tryz.prog 119 [.agg [.int .i64 n,wes o l], .int .i64 a] h (nK n l a):=by
 refine dB (fun L=>?_) fun h' nx hh=>?_
 ·unfold nK;simp only[V.names,true_and,and_true];refine⟨fun n e=>(by cases e),?_⟩;exact bG (f:=fun m:List Pa=>lst (.agg 2) (m.map Ka)) (fun m=>cP (fun L=>bG (Pa.aAN L) m) L) _
 have c:=mb (G:=fun es=>es=(lH n l a).map (fun m=>lst (.agg 2) (m.map Ka))) (zy o n l a aAG aDD ha hn hl h' nx);refine⟨c.1,fun K aAK hlv hr hv=>(c.mono (R':=fun v' h'' _=>v'.loose=nK n l a∧h'.le h'') ?_).2 K aAK hlv hr hv⟩;rintro v h'' nx2 hnx ⟨id,es,hid,rfl,rfl,rfl⟩;have hd:aI h' nx:=fun m b hm=>hlv m (hr.lt m b hm);exact⟨rfl,eV (Kc _) (hd.none hid) _⟩
end Go.Proofs.YtecepaehmojpgaaGreat
