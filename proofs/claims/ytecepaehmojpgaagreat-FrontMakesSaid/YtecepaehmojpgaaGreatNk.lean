/-
Texts of this proof,one behind the other. No conditions.
-/
import Derived.Test.YtecepaehmojpgaaGreatNd
import Derived.Test.YtecepaehmojpgaaGreatNh
open Go.Proofs.YtecepaehmojpgaaGreat.Pa renaming v→Ka,aAC→Kf,aAO→Kg
open Go.Proofs.YtecepaehmojpgaaGreat.Hp renaming set→Kb,le_refl→Kc,same→Kd,del→Ke
open List renaming take_succ_eq_append_getElem→Kh,mem_singleton→Ki,getD_eq_getElem?_getD→Kk,mem_append_left→Ko,mem_append→Kp,replicate→Kq,getElem?_eq_getElem→Ks,mem_append_right→Kt,map_nil→Ku,take_length→Kv,getElem_mem→Kx,map_append→Ky,map_cons→Kz
open Nat renaming lt_or_ge→Kj,zero_le→Km,le_refl→KB
open Bool renaming and_eq_true→Kw
open Nat renaming reduceAdd→jA,reduceSub→jB,reduceLT→jC,reduceLeDiff→jD,reduceEqDiff→jE
open Int renaming reduceToNat→jF,toNat_natCast→jG,natCast_add→jH,natCast_one→jI,natCast_zero→jJ
open List renaming length_map→jK,length_cons→jL,length_nil→jM,replicate_succ→jN,replicate_zero→jO,cons_append→jP,nil_append→jQ
set_option linter.unusedSimpArgs false
set_option linter.unusedVariables false
set_option linter.unusedSectionVars false
set_option maxHeartbeats 8000000
namespace Go.Proofs.YtecepaehmojpgaaGreat
open Go.RowKit Go.Sort
attribute [local irreducible] IntKind.wrap
theorem A4(x y:Pa):veq (.plain (.agg 2) [.bool, .int]) x.v y.v=some (decide (x=y)):=by
 obtain⟨n,a⟩:=x;obtain⟨n',a'⟩:=y;simp only[Ka,go_sem,reduceIte,jA,jB,jC,jD,reduceCtorEq,jE,jF];simp only[Pa.mk.injEq,Option.some.injEq];rw[Bool.eq_iff_iff];simp
theorem Acc.aBP{h h2:Hp}{n0:Nat}{o:Own}{es:List V}(a:Acc h n0 o es)(hk:∀id,o= .tok id→h2 id=h id):Acc h2 n0 o es:=by
 rcases a with a|⟨h1,id,h2',rfl,h3⟩
 ·exact .inl a
 exact .inr ⟨h1,id,h2',rfl,by rw[hk id rfl];exact h3⟩
theorem Acc.lt{h:Hp}{n0 nx:Nat}{o:Own}{es:List V}(a:Acc h n0 o es)(hd:aK h nx){id:Nat}(e:o= .tok id):id<nx:=by
 rcases a with⟨_,rfl⟩|⟨_,id',_,rfl,h3⟩
 ·cases e
 injection e with e;subst e;exact hd _ _ h3
theorem BO{l:List Pa}{i:Nat}(h:i<l.length):(l.map Ka).getD i (.tup [])=(gP l i).v:=by
 have:=bI Ka l i h;rw[this];unfold gP;rw[Kk,Ks h];rfl
set_option maxRecDepth 100000 in
set_option maxHeartbeats 4000000 in
theorem pz(o:Own)(l:List Pa)(hl:l.length≤100000)(h:Hp):aX Tryz.prog 144 [pas o l] h (lst (.agg 2) ((nP l).map Ka)):=by
 refine dI (fun L=>cP (fun L=>bE (Pa.aAM L) _) L) fun h' nx hh=>aD L.aUQ fun hd=>?_;simp only[jL,jM,jA,jB,jN,jO,jP,jQ,V.undef];refine aue trivial ?_
 refine aT (fun q:Nat×Own×Own=>aB 79 0 [(0,pas o l),(3,pas q.2.1 (sOf false l q.1)),(4,pas q.2.2 (sOf true l q.1)),(5, .int .i64 q.1)])
  (fun q hp nx1=>q.1≤l.length∧nx≤nx1∧aK hp nx1∧Kd nx h' hp∧Acc hp nx q.2.1 ((sOf false l q.1).map Ka)∧Acc hp nx q.2.2 ((sOf true l q.1).map Ka)∧∀id,q.2.1= .tok id→q.2.2≠ .tok id)
  (fun q=>l.length-q.1) (0, .nil, .nil) ⟨Km _,KB _,hd,Hp.same.aBI,Acc.nil,Acc.nil,fun id e=>by cases e⟩ ?_ ?_
 ·simp only[WkL,aB,jH,jI,jJ,pas,Bl,Ku,go_sem,reduceIte,jA,jB,jC,jD,reduceCtorEq,jE,jF]
 rintro⟨i,o3,o4⟩ hp nx1 ⟨hi,hnx,hdm,hsm,ha3,ha4,hne⟩;generalize hQ:bO _ _ _ _ _=Q0;dsimp only at hi ha3 ha4 hne;simp only[aB,go_sem,reduceIte,jA,jB,jC,jD,reduceCtorEq,jE,jF];have s3:=px false l i;have s4:=px true l i;have hl3:=yc false l i;have hl4:=yc true l i;rcases Kj i l.length with hlt|hge
 ·have hc:decide ((i:Int)<(l.length:Int))=true:=decide_eq_true or;have hg:=BO hlt;have hw:IntKind.i64.wrap ((i:Int)+1)=((i+1:Nat):Int):=by rw[aY]<;>omega
  refine aue hc ?_
  refine aT (fun k:Nat=>aB 79 0 [(0,pas o l),(3,pas o3 (sOf false l i)),(4,pas o4 (sOf true l i)),(5, .int .i64 i),(6, .bool (nL l i k)),(7, .int .i64 k)])
   (fun k hq nx2=>k≤l.length∧nx1≤nx2∧hq=hp)
   (fun k=>l.length-k) 0 ⟨Km _,KB _,rfl⟩ ?_ ?_
  ·simp only[WkL,aB,jH,jI,jJ,pas,wu,go_sem,reduceIte,jA,jB,jC,jD,reduceCtorEq,jE,jF]
  rintro k hq nx2 ⟨hk,aBZ,rfl⟩;generalize hQ1:bO _ _ _ _ _=Q1;simp only[aB,go_sem,reduceIte,jA,jB,jC,jD,reduceCtorEq,jE,jF];rcases Kj k l.length with hlk|hgk
  ·have hck:decide ((k:Int)<(l.length:Int))=true:=decide_eq_true or;have hgk:=BO hlk;have hwk:IntKind.i64.wrap ((k:Int)+1)=((k+1:Nat):Int):=by rw[aY]<;>omega
   have hks:=ww l i k;have hbd:xu l i k=((gP l k).le (gP l i)&&(decide (gP l k≠gP l i)||decide (k<i))):=rfl;have hfi:=Kf (gP l i);have hfk:=Kf (gP l k);cases h1:(gP l k).le (gP l i) with
   |false=>
    have hn:nL l i (k+1)=nL l i k:=by rw[hks,hbd,h1];simp
    have D1:=fun h=>iG (gP l k) (gP l i) h;refine aue (ee9 hck hg hgk hlk hlt hwk hfi hfk h1) ?_;rw[←hQ1];refine aF (k+1) or ⟨hlk,or,rfl⟩ ?_;simp only[WkL,aB,jH,jI,jJ,pas,hn,go_sem,reduceIte,jA,jB,jC,jD,reduceCtorEq,jE,jF]
   |true=>
    by_cases h2:gP l k=gP l i
    ·have hv:veq (.plain (.agg 2) [.bool, .int]) (gP l k).v (gP l i).v=some true:=by rw[A4];simp[h2]
     by_cases h3:k<i
     ·have hn:nL l i (k+1)=false:=by rw[hks,hbd,h1];simp[h3]
      have hci:decide ((k:Int)<(i:Int))=true:=decide_eq_true or;have D1:=fun h=>iG (gP l k) (gP l i) h;refine aue (ei hck hg hgk hlk hlt hwk hfi hfk h1 hv hci) ?_;rw[←hQ1];refine aF (k+1) or ⟨hlk,or,rfl⟩ ?_;simp only[WkL,aB,jH,jI,jJ,pas,hn,go_sem,reduceIte,jA,jB,jC,jD,reduceCtorEq,jE,jF]
     have hn:nL l i (k+1)=nL l i k:=by rw[hks,hbd,h1];simp[h2,h3]
     have hci:decide ((k:Int)<(i:Int))=false:=decide_eq_false or;have D1:=fun h=>iG (gP l k) (gP l i) h;refine aue (ei hck hg hgk hlk hlt hwk hfi hfk h1 hv hci) ?_;rw[←hQ1];refine aF (k+1) or ⟨hlk,or,rfl⟩ ?_;simp only[WkL,aB,jH,jI,jJ,pas,hn,go_sem,reduceIte,jA,jB,jC,jD,reduceCtorEq,jE,jF]
    have hv:veq (.plain (.agg 2) [.bool, .int]) (gP l k).v (gP l i).v=some false:=by rw[A4];simp[h2]
    have hn:nL l i (k+1)=false:=by rw[hks,hbd,h1];simp[h2]
    have D1:=fun h=>iG (gP l k) (gP l i) h;refine aue (ta hck hg hgk hlk hlt hwk hfi hfk h1 hv) ?_;rw[←hQ1];refine aF (k+1) or ⟨hlk,or,rfl⟩ ?_;simp only[WkL,aB,jH,jI,jJ,pas,hn,go_sem,reduceIte,jA,jB,jC,jD,reduceCtorEq,jE,jF]
  have hck:decide ((k:Int)<(l.length:Int))=false:=decide_eq_false or;have hkl:k=l.length:=or;subst hkl;have hgv:(gP l i).v= .agg [.bool (gP l i).n, .int .i64 (gP l i).a]:=rfl;have hgi:(l.map Ka).getD i (.tup [])= .agg [.bool (gP l i).n, .int .i64 (gP l i).a]:=hg;have hb3:((sOf false l i).length+1)*16≤140737488355328:=or;have hb4:((sOf true l i).length+1)*16≤140737488355328:=or;refine aue hck ?_;rw[←hQ1];have hkd:nL l i l.length=oK l i:=rfl;rw[hkd];have aBN:=hdm.up aBZ;cases hkp:oK l i with
  |false=>
   rw[hkp] at s3 s4;have e3:sOf false l (i+1)=sOf false l i:=by rw[s3];simp
   have e4:sOf true l (i+1)=sOf true l i:=by rw[s4];simp
   refine aue hw ?_;rw[←hQ];refine aF (i+1,o3,o4) Zw ⟨hlt,or,(by(try dsimp only);repeat (first|exact aK.up aBN or|refine aK.aAh ?_ or _|refine aK.del ?_|refine aK.aAb ?_ _)),hsm,by dsimp only;rw[e3];exact ha3,by dsimp only;rw[e4];exact ha4,hne⟩ ?_;simp only[WkL,aB,jH,jI,jJ,pas,e3,e4,go_sem,reduceIte,jA,jB,jC,jD,reduceCtorEq,jE,jF]
  |true=>
   rw[hkp] at s3 s4;cases hnn:(gP l i).n with
   |true=>
    rw[hnn] at s3 s4 hgi;have e3:sOf false l (i+1)=sOf false l i:=by rw[s3];simp
    have e4:(sOf true l (i+1)).map Ka=(sOf true l i).map Ka++[.agg [.bool true, .int .i64 (gP l i).a]]:=by
     rw[s4];simp[Ka,hnn]
    rcases ha4 with⟨he,rfl⟩|⟨aDd,id,hid,rfl,aBm⟩
    ·refine aue (ee5 hgi hlt hw he hb4) ?_;rw[←hQ];refine aF (i+1,o3, .tok (nx2+1)) Zw ⟨hlt,or,(by(try dsimp only);repeat (first|exact aK.up aBN or|refine aK.aAh ?_ or _|refine aK.del ?_|refine aK.aAb ?_ _)),(by(try dsimp only);repeat (first|exact hsm|refine aV ?_ or _|refine aW ?_ or)),?_,?_,?_⟩ ?_
     ·dsimp only;rw[e3];refine ha3.aBP fun id e=>?_;have:=ha3.lt aBN e;unfold Kb;rw[if_neg or,if_neg or]
     ·dsimp only;rw[e4];exact Acc.new _ Zm or
     ·intro id e e2;injection e2 with e2;have:=ha3.lt aBN e;omega
     simp only[WkL,aB,jH,jI,jJ,pas,e3,e4,he,go_sem,reduceIte,jA,jB,jC,jD,reduceCtorEq,jE,jF]
    have aC1:id<nx2:=aBN id _ aBm;refine aue (ee6 hgi hlt hw aBm aC1 hb4) ?_;rw[←hQ];refine aF (i+1,o3, .tok (nx2+1)) Zw ⟨hlt,or,(by(try dsimp only);repeat (first|exact aK.up aBN or|refine aK.aAh ?_ or _|refine aK.del ?_|refine aK.aAb ?_ _)),(by(try dsimp only);repeat (first|exact hsm|refine aV ?_ or _|refine aW ?_ or)),?_,?_,?_⟩ ?_
    ·dsimp only;rw[e3];refine ha3.aBP fun id' e=>?_;have:=ha3.lt aBN e;have hq:id'≠id:=fun e2=>hne id' e (by rw[e2]);have e1:(id'=nx2+1)=False:=eq_false or;have e2:(id'=id)=False:=eq_false hq;have e3:(id'=nx2)=False:=eq_false or;simp only[Kb,Ke,e1,e2,e3,if_false]
    ·dsimp only;rw[e4];exact Acc.new _ Zm or
    ·intro id e e2;injection e2 with e2;have:=ha3.lt aBN e;omega
    simp only[WkL,aB,jH,jI,jJ,pas,e3,e4,go_sem,reduceIte,jA,jB,jC,jD,reduceCtorEq,jE,jF]
   |false=>
    rw[hnn] at s3 s4 hgi;have e4:sOf true l (i+1)=sOf true l i:=by rw[s4];simp
    have e3:(sOf false l (i+1)).map Ka=(sOf false l i).map Ka++[.agg [.bool false, .int .i64 (gP l i).a]]:=by
     rw[s3];simp[Ka,hnn]
    rcases ha3 with⟨he,rfl⟩|⟨aMu,id,hid,rfl,aBm⟩
    ·refine aue (ee5 hgi hlt hw he hb3) ?_;rw[←hQ];refine aF (i+1, .tok (nx2+1),o4) Zw ⟨hlt,or,(by(try dsimp only);repeat (first|exact aK.up aBN or|refine aK.aAh ?_ or _|refine aK.del ?_|refine aK.aAb ?_ _)),(by(try dsimp only);repeat (first|exact hsm|refine aV ?_ or _|refine aW ?_ or)),?_,?_,?_⟩ ?_
     ·dsimp only;rw[e3];exact Acc.new _ Zm or
     ·dsimp only;rw[e4];refine ha4.aBP fun id e=>?_;have:=ha4.lt aBN e;unfold Kb;rw[if_neg or,if_neg or]
     ·intro id e e2;injection e with e;have:=ha4.lt aBN e2;omega
     simp only[WkL,aB,jH,jI,jJ,pas,e3,e4,he,go_sem,reduceIte,jA,jB,jC,jD,reduceCtorEq,jE,jF]
    have aC1:id<nx2:=aBN id _ aBm;refine aue (ee6 hgi hlt hw aBm aC1 hb3) ?_;rw[←hQ];refine aF (i+1, .tok (nx2+1),o4) Zw ⟨hlt,or,(by(try dsimp only);repeat (first|exact aK.up aBN or|refine aK.aAh ?_ or _|refine aK.del ?_|refine aK.aAb ?_ _)),(by(try dsimp only);repeat (first|exact hsm|refine aV ?_ or _|refine aW ?_ or)),?_,?_,?_⟩ ?_
    ·dsimp only;rw[e3];exact Acc.new _ Zm or
    ·dsimp only;rw[e4];refine ha4.aBP fun id' e=>?_;have:=ha4.lt aBN e;have hq:id'≠id:=fun e2=>hne id rfl (by rw[←e2];exact e);have e1:(id'=nx2+1)=False:=eq_false or;have e2:(id'=id)=False:=eq_false hq;have e3:(id'=nx2)=False:=eq_false or;simp only[Kb,Ke,e1,e2,e3,if_false]
    ·intro id e e2;injection e with e;have:=ha4.lt aBN e2;omega
    simp only[WkL,aB,jH,jI,jJ,pas,e3,e4,go_sem,reduceIte,jA,jB,jC,jD,reduceCtorEq,jE,jF]
 have hc:decide ((i:Int)<(l.length:Int))=false:=decide_eq_false or;have hil:i=l.length:=or;subst hil;have hsl:(nP l).map Ka=(sOf false l l.length).map Ka++(sOf true l l.length).map Ka:=by unfold nP;rw[Ky]
 refine aue hc ?_;rw[←hQ];rw[hsl];dsimp only[pas];generalize hA:(sOf false l l.length).map Ka=A at*;generalize hB:(sOf true l l.length).map Ka=B at*;have hAl:A.length≤100000:=by rw[←hA,jK];omega
 have hBl:B.length≤100000:=by rw[←hB,jK];omega
 clear hA hB;rcases ha4 with⟨rfl,rfl⟩|⟨aDd,id4,aWU,rfl,aTm⟩
 ·rcases ha3 with⟨rfl,rfl⟩|⟨aMu,id,hid,rfl,aBm⟩
  ·refine aue hc ?_;refine aG h' (hsm.le hd (Kc _)) ⟨rfl,Kc _⟩
  have hb:A.length*16≤140737488355328:=or;refine aue (ee3 hc aBm hb) ?_;refine aG h' ((show Kd nx h' _ from(by(try dsimp only);repeat (first|exact hsm|refine aV ?_ or _|refine aW ?_ or))).le hd (Kc _)) ⟨?_,Kc _⟩;cases A with
  |nil=>exact absurd rfl aMu
  |cons a A=>simp only[List.append_nil,go_sem,reduceIte,jA,jB,jC,jD,reduceCtorEq,jE,jF];rfl
 cases B with
 |nil=>exact absurd rfl aDd
 |cons b B=>
  rcases ha3 with⟨rfl,rfl⟩|⟨aMu,id,hid,rfl,aBm⟩
  ·have hb:(B.length+1)*16≤140737488355328:=by simp at hBl;omega
   refine aue (ee2 hc hb) ?_;refine aG h' ((show Kd nx h' _ from(by(try dsimp only);repeat (first|exact hsm|refine aV ?_ or _|refine aW ?_ or))).le hd (Kc _)) ⟨?_,Kc _⟩;simp only[go_sem,reduceIte,jA,jB,jC,jD,reduceCtorEq,jE,jF];rfl
  have hb:(A.length+(B.length+1))*16≤140737488355328:=by simp at hBl;omega
  refine aue (ee3 hc aBm hb) ?_;refine aG h' ((show Kd nx h' _ from(by(try dsimp only);repeat (first|exact hsm|refine aV ?_ or _|refine aW ?_ or))).le hd (Kc _)) ⟨?_,Kc _⟩;cases A with
  |nil=>exact absurd rfl aMu
  |cons a A=>simp only[go_sem,reduceIte,jA,jB,jC,jD,reduceCtorEq,jE,jF];rfl
end Go.Proofs.YtecepaehmojpgaaGreat
namespace Go.Proofs.YtecepaehmojpgaaGreat
open Go.RowKit Go.Sort
attribute [local irreducible] IntKind.wrap
def oZ{α:Type}(f:Nat→α)(t:Nat)(v:α):Nat→α:=fun k=>if k=t then v else f k
theorem kJ{α:Type}(f:Nat→α)(t:Nat)(v:α):oZ f t v t=v:=by simp[oZ]
theorem jR{α:Type}{f:Nat→α}{t k:Nat}{v:α}(h:k≠t):oZ f t v k=f k:=by simp[oZ,h]
def eR(n:Nat)(ow:Nat→Own)(A:Nat→List Pa):List V:=fL n fun k=>pas (ow k) (A k)
theorem kD(n:Nat)(ow:Nat→Own)(A:Nat→List Pa):(eR n ow A).length=n:=fA _ _
theorem lB{n k:Nat}(ow:Nat→Own)(A:Nat→List Pa)(h:k<n):(eR n ow A).getD k (.tup [])= .sl (.agg 2) (ow k) ((A k).map Ka):=xO _ h
theorem vB(n t:Nat)(ow:Nat→Own)(A:Nat→List Pa)(o:Own)(L:List Pa):(eR n ow A).set t (.sl (.agg 2) o (L.map Ka))=eR n (oZ ow t o) (oZ A t L):=by
 unfold eR;rw[qO];refine jW fun i hi=>?_;unfold oZ;split<;>rfl
theorem xr(n:Nat):Kq n (V.sl (.agg 2) .nil [])=eR n (fun _=> .nil) (fun _=>[]):=mG n _
theorem xB{n:Nat}{ow ow':Nat→Own}{A A':Nat→List Pa}(h:∀k,k<n→ow k=ow' k∧A k=A' k):eR n ow A=eR n ow' A':=jW fun k hk=>by rw[(h k hk).1,(h k hk).2]
theorem lE{n k:Nat}(A:Nat→List Pa)(h:k<n):(fL n A).getD k []=A k:=by
 unfold fL;rw[Kk,Ks (by simpa using h)];simp
def Ak(l:List Pa):Own:=if l.isEmpty=true then .nil else .free
theorem rj(l:List Pa):lst (.agg 2) (l.map Ka)= .sl (.agg 2) (Ak l) (l.map Ka):=by
 cases l with
 |nil=>rfl
 |cons=>rfl
structure AZ(h' hp:Hp)(nx nx1 n:Nat)(mv:V)(A:Nat→List Pa)(ow:Nat→Own):Prop where
 box:hp nx=some (.arr (.agg 2) [mv])
 tab:hp (nx+1)=some (.arr .leaf (eR n ow A))
 dom:aK hp nx1
 ge:nx+2≤nx1
 same:Kd nx h' hp
structure kH(h' hp:Hp)(nx b nx1 n:Nat)(mv:V)(A:Nat→List Pa)(ow:Nat→Own)(N:Nat→List Pa)(nw:Nat→Own):Prop where
 box:hp nx=some (.arr (.agg 2) [mv])
 tab:hp (nx+1)=some (.arr .leaf (eR n ow A))
 nxt:hp b=some (.arr .leaf (eR n nw N))
 hb:nx+2≤b
 lt:b<nx1
 tok:∀k,k<n→(N k=[]∧nw k= .nil)∨(N k≠ []∧∃id,nw k= .tok id∧b<id∧hp id=some .tip)
 apart:∀j k,j<n→k<n→j≠k→∀id,nw j= .tok id→nw k≠ .tok id
 dom:aK hp nx1
 same:Kd nx h' hp
section
variable{h' hp hq:Hp}{nx b nx1 nx2 n t:Nat}{mv:V}{A N:Nat→List Pa}{ow nw:Nat→Own}
theorem kH.aHI(F:kH h' hp nx b nx1 n mv A ow N nw){k id:Nat}(hk:k<n)(e:nw k= .tok id):b<id∧id<nx1∧hp id=some .tip∧N k≠ []:=by
 rcases F.tok k hk with⟨_,h⟩|⟨h0,id',h1,h2,h3⟩
 ·rw[h] at e;cases e
 rw[h1] at e;injection e with e;subst e;exact⟨h2,F.dom _ _ h3,h3,h0⟩
theorem kH.start(F:AZ h' hp nx nx1 n mv A ow):kH h' (hp.set nx1 (.arr .leaf (Kq n (.sl (.agg 2) .nil [])))) nx nx1 (nx1+1) n mv A ow (fun _=>[]) (fun _=> .nil):=by
 have hge:=F.ge;have hs:∀y,y≠nx1→∀c,(hp.set nx1 c) y=hp y:=fun y h1 c=>by unfold Kb;rw[if_neg h1]
 refine⟨by rw[hs _ or];exact F.box,by rw[hs _ or];exact F.tab,?_,hge,or,fun k hk=> .inl ⟨rfl,rfl⟩,fun j k _ _ _ id e=>(by cases e),F.dom.set or or _,fun y hy=>by rw[hs _ or];exact F.same y hy⟩;rw[xr];unfold Kb;rw[if_pos rfl]
theorem kH.aBP(F:kH h' hp nx b nx1 n mv A ow N nw)(hk:∀y,y<nx1→hq y=hp y)(hd:aK hq nx2)(hle:nx1≤nx2):kH h' hq nx b nx2 n mv A ow N nw:=by
 have h1:=F.hb;have h2:=F.lt;refine⟨by rw[hk _ or];exact F.box,by rw[hk _ or];exact F.tab,by rw[hk _ or];exact F.nxt,h1,or,fun k hkn=>?_,F.apart,hd,fun y hy=>by rw[hk _ or];exact F.same y hy⟩;rcases F.tok k hkn with h|⟨h0,id,q1,q2,q3⟩
 ·exact .inl h
 exact .inr ⟨h0,id,q1,q2,by rw[hk _ (F.dom _ _ q3)];exact q3⟩
theorem kH.put(F:kH h' hp nx b nx1 n mv A ow N nw)(ht:t<n){L':List Pa}(hL:L'≠ []){id':Nat}(hi:nx1≤id')(hi2:id'<nx2)(h1:hq id'=some .tip)(h2:hq b=some (.arr .leaf ((eR n nw N).set t (.sl (.agg 2) (.tok id') (L'.map Ka)))))
 (h3:∀y,y<nx1→y≠b→nw t≠ .tok y→hq y=hp y) (hd:aK hq nx2):kH h' hq nx b nx2 n mv A ow (oZ N t L') (oZ nw t (.tok id')):=by
 have g1:=F.hb;have g2:=F.lt;have aHP:∀y,y<b→nw t≠ .tok y:=fun y hy e=>by have:=(F.aHI ht e).1;omega
 refine⟨by rw[h3 _ or or (aHP _ or)];exact F.box,by rw[h3 _ or or (aHP _ or)];exact F.tab,by rw[h2,vB],g1,or,fun k hk=>?_,fun j k hj hk hjk id e e2=>?_,hd,fun y hy=>by rw[h3 _ or or (aHP _ or)];exact F.same y hy⟩
 ·by_cases e:k=t
  ·subst e;rw[kJ,kJ];exact .inr ⟨hL,id',rfl,or,h1⟩
  rw[jR e,jR e];rcases F.tok k hk with h|⟨h0,id,q1,q2,q3⟩
  ·exact .inl h
  exact .inr ⟨h0,id,q1,q2,by rw[h3 _ (F.dom _ _ q3) or (F.apart k t hk ht e id q1)];exact q3⟩
 by_cases e3:j=t
 ·subst e3;rw[kJ] at e;injection e with e;subst e;rw[jR (fun h=>hjk h.symm)] at e2;have:=(F.aHI hk e2).2.1;omega
 rw[jR e3] at e;by_cases e4:k=t
 ·subst e4;rw[kJ] at e2;injection e2 with e2;subst e2;have:=(F.aHI hj e).2.1;omega
 rw[jR e4] at e2;exact F.apart j k hj hk hjk id e e2
theorem kH.aTd(F:kH h' hp nx b nx1 n mv A ow N nw)(ht:t<n)(L:List Pa)(o:Own):kH h' (hp.set (nx+1) (.arr .leaf ((eR n ow A).set t (.sl (.agg 2) o (L.map Ka))))) nx b nx1 n mv (oZ A t L) (oZ ow t o) N nw:=by
 have g1:=F.hb;have g2:=F.lt;have hs:∀y,y≠nx+1→∀c,(hp.set (nx+1) c) y=hp y:=fun y h1 c=>by unfold Kb;rw[if_neg h1]
 refine⟨by rw[hs _ or];exact F.box,?_,by rw[hs _ or];exact F.nxt,g1,g2,fun k hk=>?_,F.apart,F.dom.aAh or _,fun y hy=>by rw[hs _ or];exact F.same y hy⟩
 ·rw[vB];unfold Kb;rw[if_pos rfl]
 rcases F.tok k hk with h|⟨h0,id,q1,q2,q3⟩
 ·exact .inl h
 exact .inr ⟨h0,id,q1,q2,by rw[hs _ or];exact q3⟩
theorem kH.congr{N':Nat→List Pa}{nw':Nat→Own}(F:kH h' hp nx b nx1 n mv A ow N nw)(h:∀k,k<n→N k=N' k∧nw k=nw' k):kH h' hp nx b nx1 n mv A ow N' nw':=by
 refine⟨F.box,F.tab,by rw[F.nxt,xB fun k hk=>⟨(h k hk).2,(h k hk).1⟩],F.hb,F.lt,fun k hk=>?_,fun j k hj hk=>?_,F.dom,F.same⟩
 ·have:=F.tok k hk;rw[(h k hk).1,(h k hk).2] at this;exact this
 have:=F.apart j k hj hk;rw[(h j hj).2,(h k hk).2] at this;exact this
theorem kH.aI9(F:kH h' hp nx b nx1 n mv A ow N nw)(ht:t<n)(hN:N t=[]):kH h' (hp.set b (.arr .leaf ((eR n nw N).set t (.sl (.agg 2) .nil [])))) nx b nx1 n mv A ow N nw:=by
 have hw:nw t= .nil:=by
  rcases F.tok t ht with⟨_,h⟩|⟨h,_⟩
  ·exact h
  exact absurd hN h
 have e:(eR n nw N).set t (.sl (.agg 2) .nil [])=eR n nw N:=by
  rw[show V.sl (.agg 2) .nil []=V.sl (.agg 2) .nil (([]:List Pa).map Ka) from rfl,vB];refine xB fun k hk=>?_;by_cases ek:k=t
  ·subst ek;rw[kJ,kJ];exact⟨hw.symm,hN.symm⟩
  rw[jR ek,jR ek];exact⟨rfl,rfl⟩
 have e2:hp.set b (.arr .leaf ((eR n nw N).set t (.sl (.agg 2) .nil [])))=hp:=by
  funext y;unfold Kb;by_cases ey:y=b
  ·subst ey;rw[if_pos rfl,e,F.nxt]
  rw[if_neg ey]
 rw[e2];exact F
theorem kH.toA(F:kH h' hp nx b nx1 n mv A ow N nw):AZ h' hp nx nx1 n mv A ow:=⟨F.box,F.tab,F.dom,by have:=F.hb;have:=F.lt;omega,F.same⟩
theorem kH.up(F:kH h' hp nx b nx1 n mv A ow N nw)(h:nx1≤nx2):kH h' hp nx b nx2 n mv A ow N nw:=F.aBP (fun _ _=>rfl) (F.dom.up h) h
theorem AZ.up(F:AZ h' hp nx nx1 n mv A ow)(h:nx1≤nx2):AZ h' hp nx nx2 n mv A ow:=⟨F.box,F.tab,F.dom.up h,Nat.le_trans F.ge h,F.same⟩
end
def gb(l:List We)(A:Nat→List Pa)(n j:Nat)(N:Nat→List Pa):Prop:=∀k,k<n→(N k).length≤2+2*j∧∀q,q∈N k↔(q∈A k∨∃w∈l.take j,w.t=k∧∃p∈A w.f,p.thn w.p=some q)
def lD(l:List We)(A:Nat→List Pa)(n j:Nat)(w:We)(m:Nat)(N:Nat→List Pa):Prop:=∀k,k<n→(N k).length≤2+2*j+m∧∀q,q∈N k↔(q∈A k∨(∃w∈l.take j,w.t=k∧∃p∈A w.f,p.thn w.p=some q)∨(w.t=k∧∃p∈(A w.f).take m,p.thn w.p=some q))
theorem gb.start{l:List We}{A N:Nat→List Pa}{n j:Nat}{w:We}(h:gb l A n j N):lD l A n j w 0 N:=fun k hk=>by
 obtain⟨h1,h2⟩:=h k hk;refine⟨or,fun q=>?_⟩;rw[h2];simp
theorem lD.finish{l:List We}{A N:Nat→List Pa}{n j:Nat}(hj:j<l.length)(hc:(A l[j].f).length≤2)(h:lD l A n j l[j] (A l[j].f).length N):gb l A n (j+1) N:=fun k hk=>by
 obtain⟨h1,h2⟩:=h k hk;refine⟨or,fun q=>?_⟩;rw[h2,Kv,Kh hj];constructor
 ·rintro(h|⟨w,h,h'⟩|⟨h,h'⟩)
  ·exact .inl h
  ·exact .inr ⟨w,Ko _ h,h'⟩
  exact .inr ⟨l[j],Kt _ (Ki.2 rfl),h,h'⟩
 rintro(h|⟨w,h,h'⟩)
 ·exact .inl h
 rcases Kp.1 h with h|h
 ·exact .inr (.inl ⟨w,h,h'⟩)
 have:=Ki.1 h;subst this;exact .inr (.inr h')
theorem lD.skip{l:List We}{A N:Nat→List Pa}{n j m:Nat}{w:We}(h:lD l A n j w m N)(hm:m<(A w.f).length)(e:(A w.f)[m].thn w.p=none):lD l A n j w (m+1) N:=fun k hk=>by
 obtain⟨h1,h2⟩:=h k hk;refine⟨or,fun q=>?_⟩;rw[h2,Kh hm];constructor
 ·rintro(h|h|⟨h,p,hp,h'⟩)
  ·exact .inl h
  ·exact .inr (.inl h)
  exact .inr (.inr ⟨h,p,Ko _ hp,h'⟩)
 rintro(h|h|⟨h,p,hp,h'⟩)
 ·exact .inl h
 ·exact .inr (.inl h)
 rcases Kp.1 hp with hp|hp
 ·exact .inr (.inr ⟨h,p,hp,h'⟩)
 have:=Ki.1 hp;subst this;rw[e] at h';cases h'
theorem lD.more{l:List We}{A N:Nat→List Pa}{n j m:Nat}{w:We}{r:Pa}(h:lD l A n j w m N)(hm:m<(A w.f).length)(e:(A w.f)[m].thn w.p=some r):lD l A n j w (m+1) (oZ N w.t (N w.t++[r])):=fun k hk=>by
 obtain⟨h1,h2⟩:=h k hk;by_cases ek:k=w.t
 ·subst ek;rw[kJ];refine⟨by simp;omega,fun q=>?_⟩;rw[Kp,h2,Kh hm,Ki];constructor
  ·rintro((h|h|⟨h,p,hp,h'⟩)|h)
   ·exact .inl h
   ·exact .inr (.inl h)
   ·exact .inr (.inr ⟨h,p,Ko _ hp,h'⟩)
   subst h;exact .inr (.inr ⟨rfl,_,Kt _ (Ki.2 rfl),e⟩)
  rintro(h|h|⟨h,p,hp,h'⟩)
  ·exact .inl (.inl h)
  ·exact .inl (.inr (.inl h))
  rcases Kp.1 hp with hp|hp
  ·exact .inl (.inr (.inr ⟨h,p,hp,h'⟩))
  have:=Ki.1 hp;subst this;rw[e] at h';injection h' with h';exact .inr h'.symm
 rw[jR ek];refine⟨or,fun q=>?_⟩;rw[h2,Kh hm];constructor
 ·rintro(h|h|⟨h,_⟩)
  ·exact .inl h
  ·exact .inr (.inl h)
  exact absurd h.symm ek
 rintro(h|h|⟨h,_⟩)
 ·exact .inl h
 ·exact .inr (.inl h)
 exact absurd h.symm ek
theorem qb{l:List We}{n a r:Nat}{A N A':Nat→List Pa}(aAH:xI n l)(h:lO l n a r (fL n A))(hN:gb l A n l.length N)(hA:∀k,k<n→A' k=nP (N k)):lO l n a (r+1) (fL n A'):=by
 have hv:∀k,k<n→∀p∈N k,0≤p.a:=fun k hk p hp=>by
  rcases((hN k hk).2 p).1 hp with h1|⟨w,hw,e,q,hq,e2⟩
  ·have:=(h.val k hk p (by rw[lE A hk];exact h1)).ok;simp only[Pa.ok,Kw,decide_eq_true_eq] at this;exact this.1
  have:=(Pa.aCX e2).1;simp only[Pa.ok,Kw,decide_eq_true_eq] at this;exact this.1
 refine lO.next (nx:=fL n N) (fun w hw=>(aAH w hw).1) h (fA _ _) (fun k hk q=>?_) fun k hk=>?_
 ·rw[lE N hk,lE A hk,(hN k hk).2 q,Kv];constructor
  ·rintro(h|⟨w,hw,e,p,hp,e2⟩)
   ·exact .inl h
   exact .inr ⟨w,hw,e,p,by rw[lE A (aAH w hw).1];exact hp,e2⟩
  rintro(h|⟨w,hw,e,p,hp,e2⟩)
  ·exact .inl h
  exact .inr ⟨w,hw,e,p,by rw[lE A (aAH w hw).1] at hp;exact hp,e2⟩
 rw[lE N hk,lE A' hk,hA k hk];exact pt (hv k hk)
end Go.Proofs.YtecepaehmojpgaaGreat
namespace Go.Proofs.YtecepaehmojpgaaGreat
open Go.RowKit Go.Sort
attribute [local irreducible] IntKind.wrap
set_option maxRecDepth 100000 in
set_option maxHeartbeats 8000000 in
theorem ve(ow0:Own)(n:Nat)(l:List We)(a:Nat)(aAH:xI n l)(aC4:vE l)(ha:a<n)(hn:n≤200)(hl:l.length≤1000)(h':Hp)(nx:Nat):
 bD Tryz.prog 119 [.agg [.int .i64 n,wes ow0 l], .int .i64 a] h' nx fun v h'' _=>∃m es,nx≤m∧v= .rs m .leaf 0 es.length∧h''=h'.set m (.arr .leaf es)∧es=(iY n l a).map (fun m=>lst (.agg 2) (m.map Ka)):=by
 refine aD L.aUm fun hd=>?_;have hmf:(V.agg [V.int .i64 (n:Int),wes ow0 l]).fits (.agg 2)=true:=by simp[V.fits,V.aAD]
 have hst:∀k o es k' o' es',bU .leaf 0 (V.sl k o es) (V.sl k' o' es')=V.sl k' o' es':=fun _ _ _ _ _ _=>rfl;have hg0:(Kq n (V.sl (.agg 2) .nil [])).getD a (.tup [])= .sl (.agg 2) .nil []:=by
  rw[Kk,List.getElem?_replicate,if_pos ha];rfl
 have hal:a<n:=ha;simp only[jL,jM,jA,jB,jN,jO,jP,jQ,V.undef];obtain⟨mv,hmv⟩:∃mv:V,mv= .agg [.int .i64 (n:Int),wes ow0 l]:=⟨_,rfl⟩
 (repeat' (first|(with_reducible first|refine stp ?_|refine bG ZM ?_|refine iI (fun _=>?_) (fun _=>?_))|((first|(with_reducible refine fO ?_;first|refine eH rfl ?_ ?_|refine Zx ?_)|(with_reducible refine fP ?_;first|refine bY rfl ?_ ?_|refine ZX ?_)|refine Zy ?_)<;>try simp only[hmf,hg0,hst,hal,List.length_replicate,jG,go_sem,reduceIte,jA,jB,jC,jD,reduceCtorEq,jE,jF])|refine ZY ?_|omega))
 refine aT (fun q:Nat×(Nat→List Pa)×(Nat→Own)=>aB 116 0 [(2, .ptr nx (.agg 2) 0 0),(5, .rs (nx+1) .leaf 0 n),(6, .int .i64 q.1)])
  (fun q hp nx1=>q.1≤2*n+1∧AZ h' hp nx nx1 n mv q.2.1 q.2.2∧lO l n a q.1 (fL n q.2.1)∧(q.1=0∨∀k,k<n→q.2.2 k=Ak (q.2.1 k)))
  (fun q=>2*n+1-q.1) (0,(fun k=>if k=a then [Kg] else []),(fun k=>if k=a then .tok (nx+2) else .nil)) ⟨Km _,?_,?_, .inl rfl⟩ ?_ ?_
 ·refine⟨?_,?_,(by(try dsimp only);repeat (first|exact aK.up hd or|refine aK.aAh ?_ or _|refine aK.del ?_|refine aK.aAb ?_ _)),Zw,(by(try dsimp only);repeat (first|exact Hp.same.aBI|refine aV ?_ or _|refine aW ?_ or))⟩
  ·simp only[hmv,go_sem,reduceIte,jA,jB,jC,jD,reduceCtorEq,jE,jF]
  refine Zn ?_;congr 1;congr 1;rw[mG,qO];refine jW fun i hi=>?_;by_cases e:i=a
  ·simp[e,Ka,Kg]
  simp[e]
 ·have e:fL n (fun k=>if k=a then [Kg] else [])=(Kq n []).set a [Kg]:=by
   rw[mG,qO]
  dsimp only;rw[e];exact lO.first ha
 ·simp only[WkL,aB,jH,jI,jJ,go_sem,reduceIte,jA,jB,jC,jD,reduceCtorEq,jE,jF]
 rintro⟨r,A,ow⟩ hp nx1 ⟨hr,F,R,how⟩;generalize hQ:bO _ _ _ _ _=Q0;dsimp only at hr F R how;simp only[aB,go_sem,reduceIte,jA,jB,jC,jD,reduceCtorEq,jE,jF];have aAa:=F.box;rw[hmv] at aAa;have hge:=F.ge;have l1:nx<nx1:=or;have hw2:IntKind.i64.wrap (2*(n:Int))=((2*n:Nat):Int):=by rw[aY]<;>omega
 have aM0:∀k,k<n→(A k).length≤2:=fun k hk=>by have:=qC (R.can k hk);rwa [lE A hk] at this
 rcases Kj (2*n) r with aNm|aTp
 ·have hc:decide ((r:Int)≤((2*n:Nat):Int))=false:=decide_eq_false or;refine aue (ee4 aAa hc hw2 l1) ?_;rw[←hQ];refine aue hc ?_;have aF5:∀k,k<n→ow k=Ak (A k):=how.elim (fun h=>absurd h or) id;have hfl:iY n l a=fL n A:=sq (fA _ _) fun k hk=>R.done (fun w hw=>(aAH w hw).2.1) aC4 ha or k hk;have aBJ:=F.tab;refine aG (h'.set (nx+1) (.arr .leaf (eR n ow A))) ?_ ⟨nx+1,eR n ow A,or,?_,rfl,?_⟩
  ·intro m b hm;by_cases e:m=nx+1
   ·subst e;unfold Kb at hm;rw[if_pos rfl] at hm;rw[←hm];exact aBJ
   unfold Kb at hm;rw[if_neg e] at hm;have:=hd m b hm;exact(F.same m or).trans hm
  ·simp only[kD,go_sem,reduceIte,jA,jB,jC,jD,reduceCtorEq,jE,jF]
  rw[hfl];unfold eR fL;rw[List.map_map];refine List.map_congr_left fun k hk=>?_;have hk':k<n:=by simpa using hk
  show pas (ow k) (A k)=lst (.agg 2) ((A k).map Ka);rw[aF5 k hk',rj]
 have hc:decide ((r:Int)≤((2*n:Nat):Int))=true:=decide_eq_true or;have hw:IntKind.i64.wrap ((r:Int)+1)=((r+1:Nat):Int):=by rw[aY]<;>omega
 refine aue (ee4 aAa hc hw2 l1) ?_;have N0:=kH.start F;obtain⟨b,hb⟩:∃b,b=nx1:=⟨_,rfl⟩;rw[←hb] at N0 l1⊢;clear aAa l1 hc hw2
 --what is known goes over
 refine aT (fun q:Nat×(Nat→Own)=>aB 116 0 [(2, .ptr nx (.agg 2) 0 0),(5, .rs (nx+1) .leaf 0 n),(6, .int .i64 r),(7, .rs b .leaf 0 n),(8, .int .i64 q.1)])
  (fun q hq nx2=>q.1≤n∧kH h' hq nx b nx2 n mv A ow (fun k=>if k<q.1 then A k else []) q.2)
  (fun q=>n-q.1) (0,fun _=> .nil) ⟨Km _,?_⟩ ?_ ?_
 ·simp only[Nat.not_lt_zero,if_false];exact N0.up ZN
 ·simp only[WkL,aB,jH,jI,jJ,go_sem,reduceIte,jA,jB,jC,jD,reduceCtorEq,jE,jF]
 clear N0;rintro⟨i,nw⟩ hq nx2 ⟨hi,M⟩;generalize hQ1:bO _ _ _ _ _=Q1;dsimp only at hi M;simp only[aB,go_sem,reduceIte,jA,jB,jC,jD,reduceCtorEq,jE,jF];have aAa:=M.box;rw[hmv] at aAa;have aBJ:=M.tab;have aFo:=M.nxt;have m1:=M.hb;have m2:=M.lt;have l1:nx<nx2:=or;have l2:nx+1<nx2:=or;have aDo:=kD n ow A;have aFn:=kD n nw (fun k=>if k<i then A k else []);rcases Kj i n with hlt|aDf
 ·have hc:decide ((i:Int)<(n:Int))=true:=decide_eq_true or;have hwi:IntKind.i64.wrap ((i:Int)+1)=((i+1:Nat):Int):=by rw[aY]<;>omega
  have g1:=lB ow A hlt;have hni:nw i= .nil:=by
   rcases M.tok i hlt with⟨_,h⟩|⟨h,_⟩
   ·exact h
   simp at h
  have g2:(eR n nw (fun k=>if k<i then A k else [])).getD i (.tup [])= .sl (.agg 2) .nil []:=by
   rw[lB nw _ hlt,hni];simp
  have hAi:=aM0 i hlt;by_cases he:A i=[]
  ·have g1':(eR n ow A).getD i (.tup [])= .sl (.agg 2) (ow i) []:=by rw[g1,he];rfl
   refine aue (BV aAa aBJ aFo hc hwi g1' g2 aDo aFn hlt m2 hst l1 l2) ?_;rw[←hQ1];refine aF (i+1,nw) Zw ⟨hlt,?_⟩ ?_
   ·refine((M.aI9 hlt Zm).up ZN).congr fun k hk=>⟨?_,rfl⟩;by_cases ek:k=i
    ·subst ek;simp[he]
    by_cases ek2:k<i
    ·simp[ek2,show k<i+1 by omega]
    simp[ek2,show¬k<i+1 by omega]
   simp only[WkL,aB,jH,jI,jJ,go_sem,reduceIte,jA,jB,jC,jD,reduceCtorEq,jE,jF]
  have aM1:(A i).length*16≤140737488355328:=or;have aBx:((A i).map Ka).isEmpty=false:=by
   cases e:A i with
   |nil=>exact absurd e he
   |cons=>rfl
  have m3:b<nx2+10:=or;refine aue (Dz aAa aBJ aFo hc hwi g1 g2 aDo aFn hlt m2 m3 hst aM1 aBx l1 l2) ?_;rw[←hQ1];refine aF (i+1,oZ nw i (.tok (nx2+10))) Zw ⟨hlt,?_⟩ ?_
  ·have e0:(nx2+10=b)=False:=eq_false or;refine(M.put hlt he (id':=nx2+10) or (nx2:=_) ?_ ?_ ?_ ?_ ?_).congr fun k hk=>⟨?_,rfl⟩
   ·first|omega|(dsimp only;omega)
   ·simp only[Kb,e0,if_true,if_false]
   ·simp only[Kb,if_true]
   ·intro y hy hyb _;have e1:(y=b)=False:=eq_false hyb;have e2:(y=nx2+10)=False:=eq_false or;simp only[Kb,e1,e2,if_false]
   ·exact(M.dom.set or ZN _).aAh ZN _
   by_cases ek:k=i
   ·subst ek;rw[kJ];simp
   rw[jR ek];by_cases ek2:k<i
   ·simp[ek2,show k<i+1 by omega]
   simp[ek2,show¬k<i+1 by omega]
  simp only[WkL,aB,jH,jI,jJ,go_sem,reduceIte,jA,jB,jC,jD,reduceCtorEq,jE,jF]
 have hc:decide ((i:Int)<(n:Int))=false:=decide_eq_false or;have hin:i=n:=or;subst hin;refine aue (ee3 aAa hc l1) ?_;rw[←hQ1];refine aue hc ?_;have M1:kH h' hq nx b nx2 i mv A ow A nw:=M.congr fun k hk=>⟨by simp[hk],rfl⟩;clear M aBJ aFo aDo aFn aAa aDf hc hQ1 l1 l2
 refine aT (fun q:Nat×(Nat→List Pa)×(Nat→Own)=>aB 116 0 [(2, .ptr nx (.agg 2) 0 0),(5, .rs (nx+1) .leaf 0 i),(6, .int .i64 r),(7, .rs b .leaf 0 i),(9, .int .i64 q.1)])
  (fun q hq nx2=>q.1≤l.length∧kH h' hq nx b nx2 i mv A ow q.2.1 q.2.2∧gb l A i q.1 q.2.1)
  (fun q=>l.length-q.1) (0,A,nw) ⟨Km _,M1,fun k hk=>⟨by have:=aM0 k hk;omega,fun q=>Zm⟩⟩ ?_ ?_
 ·simp only[WkL,aB,jH,jI,jJ,go_sem,reduceIte,jA,jB,jC,jD,reduceCtorEq,jE,jF]
 clear M1;rintro⟨j,N,nw⟩ hq nx2 ⟨hj,M,NX⟩;generalize hQ1:bO _ _ _ _ _=Q1;dsimp only at hj M NX;simp only[aB,go_sem,reduceIte,jA,jB,jC,jD,reduceCtorEq,jE,jF];have aAa:=M.box;rw[hmv] at aAa;have m1:=M.hb;have m2:=M.lt;have l1:nx<nx2:=or;rcases Kj j l.length with hlt|aDf
 ·have hc:decide ((j:Int)<(l.length:Int))=true:=decide_eq_true or;have hg:(l.map We.v).getD j (.tup [])= .agg [.int .i64 l[j].f, .int .i64 l[j].t, .bool l[j].p.n, .int .i64 l[j].p.a]:=bI We.v l j hlt;have hwj:IntKind.i64.wrap ((j:Int)+1)=((j+1:Nat):Int):=by rw[aY]<;>omega
  have hwf:=aAH l[j] (Kx _);have hwl:l[j]∈l:=Kx _;have aBr:=fun N'=>lD.finish (N:=N') (A:=A) (n:=i) hlt (aM0 _ hwf.1);obtain⟨w,hw0⟩:∃w,w=l[j]:=⟨_,rfl⟩;rw[←hw0] at hg hwf hwl aBr;have f1:=hwf.1;have f2:=hwf.2.1;have hwv:(V.agg [.int .i64 w.f, .int .i64 w.t, .bool w.p.n, .int .i64 w.p.a]).fits (.agg 4)=true:=rfl;refine aue (ee5 aAa hc hg hlt l1) ?_;have e0:(b=nx2)=False:=eq_false or;have aWZ:b<nx2:=m2
  refine aT (fun q:Nat×(Nat→List Pa)×(Nat→Own)=>aB 116 0 [(2, .ptr nx (.agg 2) 0 0),(5, .rs (nx+1) .leaf 0 i),(6, .int .i64 r),(7, .rs b .leaf 0 i),(9, .int .i64 j),(10, .ptr nx2 (.agg 4) 0 0),(11, .int .i64 q.1)])
   (fun q hq nx3=>q.1≤(A w.f).length∧kH h' hq nx b nx3 i mv A ow q.2.1 q.2.2∧nx2<nx3∧hq nx2=some (.arr (.agg 4) [.agg [.int .i64 w.f, .int .i64 w.t, .bool w.p.n, .int .i64 w.p.a]])∧lD l A i j w q.1 q.2.1)
   (fun q=>(A w.f).length-q.1) (0,N,nw) ⟨Km _,?_,Zw,by simp only[go_sem,reduceIte,jA,jB,jC,jD,reduceCtorEq,jE,jF],NX.start⟩ ?_ ?_
  ·refine M.aBP (fun y hy=>?_) (by(try dsimp only);repeat (first|exact aK.up M.dom or|refine aK.aAh ?_ or _|refine aK.del ?_|refine aK.aAb ?_ _)) ZN;have e1:(y=nx2)=False:=eq_false or;simp only[Kb,e1,if_false]
  ·simp only[WkL,aB,jH,jI,jJ,go_sem,reduceIte,jA,jB,jC,jD,reduceCtorEq,jE,jF]
  clear M NX aAa l1 e0 m2;rintro⟨m,N,nw⟩ hs nx3 ⟨hm,M,aDD,hbw,NI⟩;generalize hQ2:bO _ _ _ _ _=Q2;dsimp only at hm M hbw NI;simp only[aB,go_sem,reduceIte,jA,jB,jC,jD,reduceCtorEq,jE,jF];have aAa:=M.box;rw[hmv] at aAa;have aBJ:=M.tab;have aFo:=M.nxt;have m2:=M.lt;have l1:nx<nx3:=or;have l2:nx+1<nx3:=or;have aDo:=kD i ow A;have aFn:=kD i nw N;have g1:=lB ow A f1;have g2:=lB nw N f2;have hcf:=aM0 w.f f1;rcases Kj m (A w.f).length with hml|hgm
  ·have hcm:decide ((m:Int)<((A w.f).length:Int))=true:=decide_eq_true or;have hwm:IntKind.i64.wrap ((m:Int)+1)=((m+1:Nat):Int):=by rw[aY]<;>omega
   have hgp:((A w.f).map Ka).getD m (.tup [])=(A w.f)[m].v:=bI Ka (A w.f) m hml;have aC5:=Pa.aDZ (A w.f)[m] w.p;have aFy:=fun e=>lD.skip NI hml e;have aDB:=fun r e=>lD.more (r:=r) NI hml e;obtain⟨p,hp0⟩:∃p,p=(A w.f)[m]:=⟨_,rfl⟩;rw[←hp0] at hgp aC5 aFy aDB;obtain⟨rr,hrr⟩:∃rr,rr=(p.then w.p).1:=⟨_,rfl⟩;have hfp:=Kf p;have hfr:=Kf rr;have ct:∀h,aX Tryz.prog 143 [p.v, .agg [.bool w.p.n, .int .i64 w.p.a]] h (.tup [rr.v, .int .i64 (p.then w.p).2]):=fun h=>by rw[hrr];exact qa p w.p h
   by_cases he:(p.then w.p).2=0
   ·have hce:((p.then w.p).2==0)=true:=by simp[he]
    rw[if_pos he,←hrr] at aC5;have NI2:=aDB rr aC5;have hNl:=(NI w.t f2).1;have aM1:((N w.t).length+1)*16≤140737488355328:=or;rcases M.tok w.t f2 with⟨t1,t2⟩|⟨t1,id,t2,t3,t4⟩
    ·have g2':(eR i nw N).getD w.t (.tup [])= .sl (.agg 2) .nil []:=by rw[g2,t1,t2];rfl
     have m3:b<nx3+26:=or;have m4:b<nx3+27:=or;have m5:b<nx3+14:=or
     (repeat' (first|(with_reducible first|refine stp ?_|refine bG ZM ?_|refine iI (fun _=>?_) (fun _=>?_))|((first|(with_reducible refine fO ?_;first|refine eH rfl ?_ ?_|refine Zx ?_)|(with_reducible refine fP ?_;first|refine bY rfl ?_ ?_|refine kC (ct _) rfl (bK _) ?_|refine mU rfl rfl ZM (by(simp only[cU,go_sem,reduceIte,jA,jB,jC,jD,reduceCtorEq,jE,jF])<;>try omega) (by simp only[go_sem,reduceIte,jA,jB,jC,jD,reduceCtorEq,jE,jF]) (by simp only[go_sem,reduceIte,jA,jB,jC,jD,reduceCtorEq,jE,jF]) (by simp only[hfr,aAa,aBJ,aFo,hbw,hcm,hgp,hml,g1,g2',aDo,aFn,hfp,hfr,hce,f1,f2,m2,m3,m4,m5,aDD,hst,l1,l2,jK,jG,go_sem,reduceIte,jA,jB,jC,jD,reduceCtorEq,jE,jF]) ?_|refine ZX ?_)|refine Zy ?_)<;>try simp only[aAa,aBJ,aFo,hbw,hcm,hgp,hml,g1,g2',aDo,aFn,hfp,hfr,hce,f1,f2,m2,m3,m4,m5,aDD,hst,l1,l2,jK,jG,go_sem,reduceIte,jA,jB,jC,jD,reduceCtorEq,jE,jF])|refine ZY ?_|omega))
     rw[←hQ2];have hne:N w.t++[rr]≠ []:=Zm;have k1:(nx3+27=b)=False:=eq_false or;have k2:(nx2=b)=False:=eq_false or;have k3:(nx2=nx3+14)=False:=eq_false or;have k4:(nx2=nx3+26)=False:=eq_false or;have k5:(nx2=nx3+27)=False:=eq_false or;refine aF (m+1,oZ N w.t (N w.t++[rr]),oZ nw w.t (.tok (nx3+27))) Zw ⟨hml,?_,?_,?_,NI2⟩ ?_
     ·refine M.put f2 hne (id':=nx3+27) or ZN ?_ ?_ ?_ (by(try dsimp only);repeat (first|exact aK.up M.dom or|refine aK.aAh ?_ or _|refine aK.del ?_|refine aK.aAb ?_ _))
      ·simp only[Kb,k1,if_true,if_false]
      ·simp only[Kb,if_true,t1,jQ,Kz,Ku]
      intro y hy hyb hyt;have e1:(y=b)=False:=eq_false hyb;have e2:(y=nx3+27)=False:=eq_false or;have e3:(y=nx3+26)=False:=eq_false or;have e4:(y=nx3+14)=False:=eq_false or;simp only[Kb,e1,e2,e3,e4,if_false]
     ·first|omega|(dsimp only;omega)
     ·simp only[Kb,k2,k3,k4,k5,if_false];exact hbw
     simp only[WkL,aB,jH,jI,jJ,hwm,go_sem,reduceIte,jA,jB,jC,jD,reduceCtorEq,jE,jF]
    have g2':=g2;rw[t2] at g2';have aC1:id<nx3:=M.dom _ _ t4;have m3:b<nx3+26:=or;have m4:b<nx3+27:=or;have m5:b<nx3+14:=or;have n1:(b=id)=False:=eq_false or;have n2:(id=nx3+14)=False:=eq_false or;have ca:kG ((hs.set (nx3+14) (Blk.arr (Sh.agg 2) [V.agg [V.bool false,V.int IntKind.i64 0]])).set (nx3+14) (Blk.arr (Sh.agg 2) [rr.v])) (nx3+17) [3,4,5,6,7,8,9] [none,none,none,none,none,none,none,none,none,some Blk.tip] [none,none,none,none,none,none,none,none,none,none] id Blk.tip:=
     ⟨by simp[cU], .inl ⟨or,by simp only[Kb,n2,if_false];exact t4⟩⟩
    have z1:((0:Int)≤(w.t:Int))=True:=eq_true or;have z2:((w.t:Int)<(i:Int))=True:=eq_true or
    (repeat' (first|(with_reducible first|refine stp ?_|refine bG ZM ?_|refine iI (fun _=>?_) (fun _=>?_))|((first|(with_reducible refine fO ?_;first|refine eH rfl ?_ ?_|refine Zx ?_)|(with_reducible refine fP ?_;first|refine bY rfl ?_ ?_|refine kC (ct _) rfl (bK _) ?_|refine mU rfl rfl ZM (by(simp only[cU,go_sem,reduceIte,jA,jB,jC,jD,reduceCtorEq,jE,jF])<;>try omega) (by simp only[go_sem,reduceIte,jA,jB,jC,jD,reduceCtorEq,jE,jF]) (by simp only[go_sem,reduceIte,jA,jB,jC,jD,reduceCtorEq,jE,jF]) (by simp only[hfr,aAa,aBJ,aFo,hbw,hcm,hgp,hml,g1,g2',aDo,aFn,hfp,hfr,hce,f1,f2,m2,m3,m4,m5,n1,n2,t4,aC1,aM1,aDD,ca,z1,z2,hst,l1,l2,jK,jG,go_sem,reduceIte,jA,jB,jC,jD,reduceCtorEq,jE,jF]) ?_|refine ZX ?_)|refine Zy ?_)<;>try simp only[aAa,aBJ,aFo,hbw,hcm,hgp,hml,g1,g2',aDo,aFn,hfp,hfr,hce,f1,f2,m2,m3,m4,m5,n1,n2,t4,aC1,aM1,aDD,ca,z1,z2,hst,l1,l2,jK,jG,go_sem,reduceIte,jA,jB,jC,jD,reduceCtorEq,jE,jF])|refine ZY ?_|omega))
    rw[←hQ2];have hne:N w.t++[rr]≠ []:=Zm;have k1:(nx3+27=b)=False:=eq_false or;have k2:(nx2=b)=False:=eq_false or;have k3:(nx2=nx3+14)=False:=eq_false or;have k4:(nx2=nx3+26)=False:=eq_false or;have k5:(nx2=nx3+27)=False:=eq_false or;have k6:(nx2=id)=False:=eq_false (fun e=>by rw[e,t4] at hbw;cases hbw);have k7:(nx3+27=id)=False:=eq_false or;refine aF (m+1,oZ N w.t (N w.t++[rr]),oZ nw w.t (.tok (nx3+27))) Zw ⟨hml,?_,?_,?_,NI2⟩ ?_
    ·refine M.put f2 hne (id':=nx3+27) or ZN ?_ ?_ ?_ (by(try dsimp only);repeat (first|exact aK.up M.dom or|refine aK.aAh ?_ or _|refine aK.del ?_|refine aK.aAb ?_ _))
     ·simp only[Kb,Ke,k1,k7,if_true,if_false]
     ·simp only[Kb,if_true,Ky,Kz,Ku]
     intro y hy hyb hyt;have e1:(y=b)=False:=eq_false hyb;have e2:(y=nx3+27)=False:=eq_false or;have e3:(y=nx3+26)=False:=eq_false or;have e4:(y=nx3+14)=False:=eq_false or;have e5:(y=id)=False:=eq_false (fun e=>hyt (by rw[t2,e]));simp only[Kb,Ke,e1,e2,e3,e4,e5,if_false]
    ·first|omega|(dsimp only;omega)
    ·simp only[Kb,Ke,k2,k3,k4,k5,k6,if_false];exact hbw
    simp only[WkL,aB,jH,jI,jJ,hwm,go_sem,reduceIte,jA,jB,jC,jD,reduceCtorEq,jE,jF]
   have hce:((p.then w.p).2==0)=false:=by simp[he]
   rw[if_neg he] at aC5;have NI2:=aFy aC5
   (repeat' (first|(with_reducible first|refine stp ?_|refine bG ZM ?_|refine iI (fun _=>?_) (fun _=>?_))|((first|(with_reducible refine fO ?_;first|refine eH rfl ?_ ?_|refine Zx ?_)|(with_reducible refine fP ?_;first|refine bY rfl ?_ ?_|refine kC (ct _) rfl (bK _) ?_|refine mU rfl rfl ZM (by(simp only[cU,go_sem,reduceIte,jA,jB,jC,jD,reduceCtorEq,jE,jF])<;>try omega) (by simp only[go_sem,reduceIte,jA,jB,jC,jD,reduceCtorEq,jE,jF]) (by simp only[go_sem,reduceIte,jA,jB,jC,jD,reduceCtorEq,jE,jF]) (by simp only[hfr,aAa,aBJ,hbw,hcm,hgp,hwm,hml,g1,aDo,hfp,hfr,hce,f1,aDD,l1,l2,jK,jG,go_sem,reduceIte,jA,jB,jC,jD,reduceCtorEq,jE,jF]) ?_|refine ZX ?_)|refine Zy ?_)<;>try simp only[aAa,aBJ,hbw,hcm,hgp,hwm,hml,g1,aDo,hfp,hfr,hce,f1,aDD,l1,l2,jK,jG,go_sem,reduceIte,jA,jB,jC,jD,reduceCtorEq,jE,jF])|refine ZY ?_|omega))
   rw[←hQ2];refine aF (m+1,N,nw) Zw ⟨hml,?_,?_,?_,NI2⟩ ?_
   ·refine M.aBP (fun y hy=>?_) (by(try dsimp only);repeat (first|exact aK.up M.dom or|refine aK.aAh ?_ or _|refine aK.del ?_|refine aK.aAb ?_ _)) ZN;have e1:(y=nx3+14)=False:=eq_false or;simp only[Kb,e1,if_false]
   ·first|omega|(dsimp only;omega)
   ·have e1:(nx2=nx3+14)=False:=eq_false or;simp only[Kb,e1,if_false];exact hbw
   simp only[WkL,aB,jH,jI,jJ,go_sem,reduceIte,jA,jB,jC,jD,reduceCtorEq,jE,jF]
  have hcm:decide ((m:Int)<((A w.f).length:Int))=false:=decide_eq_false or;have hml:m=(A w.f).length:=or;subst hml;refine aue (ta aAa aBJ hbw hcm g1 aDo f1 aDD l1 l2) ?_;rw[←hQ2];refine aue hwj ?_;rw[←hQ1];refine aF (j+1,N,nw) Zw ⟨hlt,M,aBr N NI⟩ ?_;simp only[WkL,aB,jH,jI,jJ,go_sem,reduceIte,jA,jB,jC,jD,reduceCtorEq,jE,jF]
 have hc:decide ((j:Int)<(l.length:Int))=false:=decide_eq_false or;have hjl:j=l.length:=or;subst hjl;refine aue (ee3 aAa hc l1) ?_;rw[←hQ1];refine aue hc ?_;clear aAa aDf hc hQ1 l1
 refine aT (fun q:Nat×(Nat→List Pa)×(Nat→Own)=>aB 116 0 [(2, .ptr nx (.agg 2) 0 0),(5, .rs (nx+1) .leaf 0 i),(6, .int .i64 r),(7, .rs b .leaf 0 i),(14, .int .i64 q.1)])
  (fun q hq nx2=>q.1≤i∧kH h' hq nx b nx2 i mv q.2.1 q.2.2 N nw∧(∀k,k<i→q.2.1 k=if k<q.1 then nP (N k) else A k)∧∀k,k<q.1→q.2.2 k=Ak (q.2.1 k))
  (fun q=>i-q.1) (0,A,ow) ⟨Km _,M,fun k hk=>Zm,fun k hk=>absurd hk Zw⟩ ?_ ?_
 ·simp only[WkL,aB,jH,jI,jJ,go_sem,reduceIte,jA,jB,jC,jD,reduceCtorEq,jE,jF]
 clear M;rintro⟨x,A',ow'⟩ hq nx2 ⟨hx,M,hA,hO⟩;generalize hQ1:bO _ _ _ _ _=Q1;dsimp only at hx M hA hO;simp only[aB,go_sem,reduceIte,jA,jB,jC,jD,reduceCtorEq,jE,jF];have aAa:=M.box;rw[hmv] at aAa;have aBJ:=M.tab;have aFo:=M.nxt;have m1:=M.hb;have m2:=M.lt;have l1:nx<nx2:=or;have l2:nx+1<nx2:=or;have aDo:=kD i ow' A';have aFn:=kD i nw N;rcases Kj x i with hlt|aIv
 ·have hc:decide ((x:Int)<(i:Int))=true:=decide_eq_true or;have hwx:IntKind.i64.wrap ((x:Int)+1)=((x+1:Nat):Int):=by rw[aY]<;>omega
  have g1:=lB ow' A' hlt;have g2:=lB nw N hlt;have hNl:=(NX x hlt).1;have cs:∀h,aX Tryz.prog 144 [.sl (.agg 2) (nw x) ((N x).map Ka)] h (.sl (.agg 2) (Ak (nP (N x))) ((nP (N x)).map Ka)):=fun h=>by
   have e:=pz (nw x) (N x) or h;rw[rj] at e;exact e
  have C1:=fun h=>cs h;refine aue (BV aAa aBJ aFo hc hwx g1 g2 aDo aFn hlt m2 hst l1 l2) ?_;rw[←hQ1];refine aF (x+1,oZ A' x (nP (N x)),oZ ow' x (Ak (nP (N x)))) Zw ⟨hlt,(M.aTd hlt _ _).up ZN,fun k hk=>?_,fun k hk=>?_⟩ ?_
  ·dsimp only;by_cases ek:k=x
   ·subst ek;rw[kJ,if_pos or]
   rw[jR ek,hA k hk];by_cases ek2:k<x
   ·rw[if_pos ek2,if_pos or]
   rw[if_neg ek2,if_neg or]
  ·dsimp only at hk⊢;by_cases ek:k=x
   ·subst ek;rw[kJ,kJ]
   rw[jR ek,jR ek];exact hO k or
  simp only[WkL,aB,jH,jI,jJ,go_sem,reduceIte,jA,jB,jC,jD,reduceCtorEq,jE,jF]
 have hc:decide ((x:Int)<(i:Int))=false:=decide_eq_false or;have hxi:x=i:=or;subst hxi;refine aue (ee3 aAa hc l1) ?_;rw[←hQ1];refine aue hw ?_;rw[←hQ];refine aF (r+1,A',ow') Zw ⟨Zw,M.toA,qb aAH R NX (fun k hk=>by dsimp only;rw[hA k hk,if_pos hk]), .inr fun k hk=>hO k hk⟩ ?_;simp only[WkL,aB,jH,jI,jJ,go_sem,reduceIte,jA,jB,jC,jD,reduceCtorEq,jE,jF]
theorem mj(o:Own)(n:Nat)(l:List We)(a:Nat)(aAH:xI n l)(aC4:vE l)(ha:a<n)(hn:n≤200)(hl:l.length≤1000)(h:Hp):
 aX Tryz.prog 119 [.agg [.int .i64 n,wes o l], .int .i64 a] h (lL n l a):=by
 refine dI (fun L=>?_) fun h' nx hh=>?_
 ·unfold lL;simp only[V.names,true_and,and_true];refine⟨fun n e=>(by cases e),?_⟩;exact bE (f:=fun m:List Pa=>lst (.agg 2) (m.map Ka)) (fun m=>cP (fun L=>bE (Pa.aAM L) m) L) _
 have c:=io (G:=fun es=>es=(iY n l a).map (fun m=>lst (.agg 2) (m.map Ka))) (ve o n l a aAH aC4 ha hn hl h' nx);refine⟨c.1,fun K aAK hlv hr hv=>(c.mono (R':=fun v' h'' _=>v'.loose=lL n l a∧h'.le h'') ?_).2 K aAK hlv hr hv⟩;rintro v h'' nx2 hnx ⟨id,es,hid,rfl,rfl,rfl⟩;have hd:aK h' nx:=fun m b hm=>hlv m (hr.lt m b hm);exact⟨rfl,kN (Kc _) (hd.none hid) _⟩
end Go.Proofs.YtecepaehmojpgaaGreat
