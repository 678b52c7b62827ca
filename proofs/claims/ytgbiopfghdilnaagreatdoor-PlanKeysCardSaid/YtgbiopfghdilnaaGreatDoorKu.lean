/-
Texts of this proof,one behind the other. No conditions.
-/
import Derived.Test.YtgbiopfghdilnaaGreatDoorKd
import Derived.Test.YtgbiopfghdilnaaGreatDoorKs
import Derived.Test.YtgbiopfghdilnaaGreatDoorKk
open List renaming drop_eq_getElem_cons→Ka,length_take→Kd,getElem_mem→Ke,replicate→Kf
open Nat renaming lt_or_ge→Kb,zero_le→Kc,sub_self→Kg
open Nat renaming reduceAdd→jA,reduceSub→jB,reduceLT→jC,reduceLeDiff→jD,reduceEqDiff→jE
open Int renaming reduceToNat→jF,toNat_natCast→jG,natCast_add→jH,natCast_one→jI,natCast_zero→jJ
open List renaming length_map→jK,length_cons→jL,length_nil→jM,replicate_succ→jN,replicate_zero→jO,cons_append→jP,nil_append→jQ
set_option linter.unusedSimpArgs false
set_option linter.unusedVariables false
set_option linter.unusedSectionVars false
set_option maxHeartbeats 8000000
namespace Go.Proofs.YtgbiopfghdilnaaGreatDoor
open Go.RowKit Go.Sort
attribute [local irreducible] IntKind.wrap
set_option maxHeartbeats 4000000
def mJ:List Tr→List Vl→List Tr→Option (List Tr)
 |a::r,v::vs,l=>if a.x.size=0 then (if a.w=v then mJ r vs l else none) else
  match lkB a.x l with
  |none=>mJ r vs (l++[⟨a.x,v⟩])
  |some w=>if w=v then mJ r vs l else none
 |_,_,l=>some l
theorem qU(a:Tr)(r:List Tr)(v:Vl)(vs:List Vl)(l:List Tr):mJ (a::r) (v::vs) l=if a.x.size=0 then (if a.w=v then mJ r vs l else none) else (match lkB a.x l with
 |none=>mJ r vs (l++[⟨a.x,v⟩])
 |some w=>if w=v then mJ r vs l else none):=rfl
def dz(a:Am)(t:List Vl)(l:List Tr):Option (List Tr):=if a.l.length≠t.length then none else mJ a.l t l
def Cy(r:Option (List Tr))(nx:Nat)(v:V)(h':Hp)(nx':Nat):Prop:=match r with
 |none=>v= .tup [.aAH, .bool false]
 |some l=>∃n es c,v= .tup [.map n, .bool true]∧nx≤n∧n<nx'∧h' n=some (.mp es c)∧pV es c l
theorem od(a:Am)(ha:a.l.length≤1000000)(o:Own)(t:List Vl)(l:List Tr)(n:Nat)(es:List ME)(c:Nat)(h:Hp)(nx:Nat)(hm:h n=some (.mp es c))(he:pV es c l):
 aQ Tryz.prog 58 [a.v,vls o t, .map n] h nx fun v h' nx'=>Cy (dz a t l) nx v h' nx'∧∀k,k<nx→h' k=h k:=by
 refine aB L.aU2 fun hd=>?_;have hd:aW h nx:=hd;obtain⟨ar,ao,ts⟩:=a;have ha:ts.length≤1000000:=ha;simp only[jL,jM,jA,jB,jN,jO,jP,jQ,V.undef];have hn2:n<nx:=hd _ _ hm;unfold dz;dsimp only;by_cases hne:ts.length=t.length
 ·have g:((ts.length:Int) != (t.length:Int))=false:=bnf;rw[if_neg (by simpa using hne)];refine aue (e5 Am.v.eq_1 trs.eq_1 g (@jK Tr V) (@jK Vl V)) ?_;refine bG ((lN n es c l he _ _ ?_).dom.mono ?_)
  ·simp only[hm,hn2,go_sem,reduceIte,jA,jB,jC,jD,reduceCtorEq,jE,jF]
  rintro v h2 nx2 hle ⟨⟨m,es2,c2,rfl,q1,q2,q3,q4,q5⟩,hd2,_⟩;unfold cN;dsimp only at q1 q5;refine Zn ?_;have hb0:h2 nx=some (.arr (.agg 2) [.agg [.str ar, .sl (.agg 4) ao (ts.map Tr.v)]]):=by rw[q5 nx or];simp only[go_sem,reduceIte,jA,jB,jC,jD,reduceCtorEq,jE,jF]
  have hk2:∀k,k<nx→h2 k=h k:=fun k hk=>by
   rw[q5 k or];simp only[Hp.set];rw[if_neg or]
  obtain⟨RES,aBW⟩:∃R,mJ ts t l=R:=⟨_,rfl⟩;rw[aBW];have n0:nx<nx2:=or;refine aue (e5 Am.v.eq_1 trs.eq_1 hb0 n0 (@jK Tr V)) ?_
  refine aS (fun q:Nat×List Tr=>aF 60 0 [(1,vls o t),(6, .aAH),(7, .bool false),(8, .map m),(22, .sl (.agg 4) ao (ts.map Tr.v)),(23, .int .i64 ts.length),(24, .int .i64 q.1)])
   (fun q hp nx1=>q.1≤ts.length∧m<nx1∧aW hp nx1∧(∀k,k<nx→hp k=h k)∧(∃es c,hp m=some (.mp es c)∧pV es c q.2)∧RES=mJ (ts.drop q.1) (t.drop q.1) q.2)
   (fun q=>ts.length-q.1) (0,l) ⟨Kc _,q2,hd2,hk2,⟨es2,c2,q3,q4⟩,aBW.symm⟩ (by simp only[WkL,aF,jH,jI,jJ,jK,go_sem,reduceIte,jA,jB,jC,jD,reduceCtorEq,jE,jF]) ?_
  clear hk2 hb0 q5 q3 q4 n0 hd2 aBW;rintro⟨i,L⟩ hp nx1 ⟨hi,hnx,hdm,hsm,⟨es,c,hmp,aDU⟩,hmt⟩;generalize hQ:bK _ _ _ _ _=Q0;dsimp only at hi aDU hmt;simp only[aF,go_sem,reduceIte,jA,jB,jC,jD,reduceCtorEq,jE,jF];rcases Kb i ts.length with hlt|hge
  ·have hlv:i<t.length:=or;have hc:decide ((i:Int)<(ts.length:Int))=true:=dct;have hg:=aN Tr.v ts i hlt;have hg2:=aN Vl.v t i hlv;have hw:IntKind.i64.wrap ((i:Int)+1)=((i+1:Nat):Int):=wrp;rw[Ka hlt,Ka hlv] at hmt;rw[qU] at hmt;generalize ts[i]=T at*;generalize t[i]=w at*;have hTf:=Tr.aAD T;have hwf:=Vl.aAD w;have hWf:=Vl.aAD T.w;have hT:T.v= .agg [.str T.x, .int .i64 T.w.k, .int .i64 T.w.n, .str T.w.s]:=rfl;have hTw:V.agg [.int .i64 T.w.k, .int .i64 T.w.n, .str T.w.s]=T.w.v:=rfl;have z0:=rI T.x;have hv:=fz T.w w;have stay:∀(sl:List V) (hp2:Hp) (aMF:Nat),RES=mJ (ts.drop (i+1)) (t.drop (i+1)) L→nx1≤aMF→aW hp2 aMF→(∀k,k<nx1→hp2 k=hp k)→WkL sl (aF 60 0 [(1,vls o t),(6, .aAH),(7, .bool false),(8, .map m),(22, .sl (.agg 4) ao (ts.map Tr.v)),(23, .int .i64 ts.length),(24, .int .i64 ((i+1:Nat):Int))])→Q0 .normal ⟨sl,hp2,aMF⟩:=by
    intro sl hp2 aMF e h1 h2 h3 h4;rw[←hQ];exact aG (i+1,L) Zw ⟨hlt,or,h2,fun k hk=>(h3 k or).trans (hsm k hk),⟨es,c,(h3 m hnx).trans hmp,aDU⟩,e⟩ h4
   by_cases hs:T.x.size=0
   ·rw[decide_eq_true hs] at z0;rw[if_pos hs] at hmt;by_cases hw2:T.w=w
    ·rw[if_pos hw2] at hmt;rw[decide_eq_true hw2] at hv;refine aue (e12 hc hg hg2 hlt hlv hTf hwf hT hWf hTw z0 (e5 hv (@jK Tr V) (@jK Vl V) jG hw)) ?_;exact stay _ _ _ hmt or (dmo hdm) (fun k hk=>by simp only[Hp.set];repeat rw[if_neg or]) (by simp only[WkL,aF,jH,jI,jJ,go_sem,reduceIte,jA,jB,jC,jD,reduceCtorEq,jE,jF])
    rw[if_neg hw2] at hmt;rw[decide_eq_false hw2] at hv;refine aue (e12 hc hg hg2 hlt hlv hTf hwf hT hWf hTw z0 (e5 hv (@jK Tr V) (@jK Vl V) jG hw)) ?_;rw[←hQ];refine au ?_;rw[hmt];refine aV _ (Hp.le_refl _) ⟨rfl,fun k hk=>?_⟩;refine Eq.trans ?_ (hsm k hk);simp only[Hp.set];repeat rw[if_neg or]
   rw[decide_eq_false hs] at z0;rw[if_neg hs] at hmt;have hx:=aDU.at T.x;have n3:m<nx1:=hnx;cases k:lkB T.x L with
   |some w2=>
    rw[k] at hmt hx;obtain⟨j,hj1,hj2,hj3⟩:=hx;have hg0:iX true (.agg [.int .i64 0, .int .i64 0, .str ⟨#[]⟩]) es (some j)= .tup [w2.v, .bool true]:=by rw[←hj2];rfl
    have aSC:=Vl.aAD w2;have hv2:=fz w2 w;dsimp only at hmt;by_cases hw2:w2=w
    ·rw[if_pos hw2] at hmt;rw[decide_eq_true hw2] at hv2;refine aue (e14 hc hg hg2 hlt hlv hTf hwf hT hWf hTw z0 hmp n3 (e8 hv2 (@jK Tr V) (@jK Vl V) jG hw hj1 hg0 aSC)) ?_;exact stay _ _ _ hmt or (dmo hdm) (fun k hk=>by simp only[Hp.set];repeat rw[if_neg or]) (by simp only[WkL,aF,jH,jI,jJ,go_sem,reduceIte,jA,jB,jC,jD,reduceCtorEq,jE,jF])
    rw[if_neg hw2] at hmt;rw[decide_eq_false hw2] at hv2;refine aue (e14 hc hg hg2 hlt hlv hTf hwf hT hWf hTw z0 hmp n3 (e8 hv2 (@jK Tr V) (@jK Vl V) jG hw hj1 hg0 aSC)) ?_;rw[←hQ];refine au ?_;rw[hmt];refine aV _ (Hp.le_refl _) ⟨rfl,fun k hk=>?_⟩;refine Eq.trans ?_ (hsm k hk);simp only[Hp.set];repeat rw[if_neg or]
   |none=>
    rw[k] at hmt hx;have hg0:iX true (.agg [.int .i64 0, .int .i64 0, .str ⟨#[]⟩]) es none= .tup [.agg [.int .i64 0, .int .i64 0, .str ⟨#[]⟩], .bool false]:=rfl;dsimp only at hmt;refine aue (e14 hc hg hg2 hlt hlv hTf hwf hT hWf hTw z0 hmp n3 (e6 (@jK Tr V) (@jK Vl V) jG hw hx hg0)) ?_;refine mK (es:=es) (c:=c) (n:=m) rfl rfl (by simp only[hmp,n3,(fls:(m=nx1)=False),(fls:(m=nx1+2)=False),go_sem,reduceIte,jA,jB,jC,jD,reduceCtorEq,jE,jF]) hx ?_;refine Zn ?_;refine aue hw ?_;rw[←hQ];refine aG (i+1,L++[⟨T.x,w⟩]) Zw ⟨hlt,or,dmo hdm,fun k hk=>?_,⟨_,_,by simp only[go_sem,reduceIte,jA,jB,jC,jD,reduceCtorEq,jE,jF],aDU.add ⟨T.x,w⟩ k⟩,hmt⟩ (by simp only[WkL,aF,jH,jI,jJ,go_sem,reduceIte,jA,jB,jC,jD,reduceCtorEq,jE,jF]);refine Eq.trans ?_ (hsm k hk);simp only[Hp.set];repeat rw[if_neg or]
  have hc:decide ((i:Int)<(ts.length:Int))=false:=dcf;rw[List.drop_of_length_le or] at hmt;refine aue hc ?_;rw[←hQ];refine au ?_;rw[hmt];exact aV hp (Hp.le_refl _) ⟨⟨m,es,c,rfl,or,hnx,hmp,aDU⟩,hsm⟩
 have g:((ts.length:Int) != (t.length:Int))=true:=bnt;rw[if_pos hne];refine aue (e5 Am.v.eq_1 trs.eq_1 g (@jK Tr V) (@jK Vl V)) ?_;refine aV _ (Hp.le_refl _) ⟨rfl,fun k hk=>?_⟩;simp only[Hp.set];rw[if_neg or]
def gS(t:List Vl)(aAP:List Nat):List Vl:=aAP.map fun c=>t.getD c gR
def pZ(t:List Vl)(aAP:List Nat)(i:Nat):List Vl:=gS t (aAP.take i)++Kf (aAP.length-i) gR
theorem ve(t:List Vl)(aAP:List Nat){i:Nat}(h:i≤aAP.length):(pZ t aAP i).length=aAP.length:=by
 unfold pZ gS;rw[List.length_append,jK,Kd,List.length_replicate];omega
theorem vd(t:List Vl)(aAP:List Nat){i:Nat}(h:i<aAP.length):(pZ t aAP i).set i (t.getD aAP[i] gR)=pZ t aAP (i+1):=by
 have hl:(gS t (aAP.take i)).length=i:=by unfold gS;rw[jK,Kd];omega
 unfold pZ;rw[show aAP.length-i=(aAP.length-(i+1))+1 by omega,jN,List.set_append_right _ _ or,hl,Kg,List.set_cons_zero];unfold gS;rw[List.take_succ_eq_append_getElem h,List.map_append,List.append_assoc];rfl
theorem u9(o1 o2:Own)(t:List Vl)(aAP:List Nat)(hl:aAP.length≤6)(hc:∀c∈aAP,c<t.length)(h:Hp):aM Tryz.prog 63 [vls o1 t, .sl .leaf o2 (aAP.map kV)] h (.tup [.sl (.agg 3) .free ((gS t aAP).map Vl.v), .nilIface]):=by
 refine dV (fun L=>⟨⟨fun n e=>(by cases e),bB (fun x=>Vl.aAQ L x) _⟩,trivial,trivial⟩) fun h' nx hh=>aB L.aUx fun hd=>?_;have hd:aW h' nx:=hd;simp only[jL,jM,jA,jB,jN,jO,jP,jQ,V.undef];refine aue (@jK Nat V) ?_
 refine aS (fun i:Nat=>aF 50 0 [(0,vls o1 t),(1, .sl .leaf o2 (aAP.map kV)),(4, .sl (.agg 3) .nil []),(5, .nilIface),(11, .sl .leaf o2 (aAP.map kV)),(12, .int .i64 aAP.length),(13, .int .i64 i)])
  (fun i hp nx1=>i≤aAP.length∧nx≤nx1∧aW hp nx1∧Hp.same nx h' hp)
  (fun i=>aAP.length-i) 0 ⟨Kc _,Nat.le_refl _,hd,Hp.same.aBb⟩ (by simp only[WkL,aF,jH,jI,jJ,jK,go_sem,reduceIte,jA,jB,jC,jD,reduceCtorEq,jE,jF]) ?_
 rintro i hp nx1 ⟨hi,hnx,hdm,hsm⟩;generalize hQ:bK _ _ _ _ _=Q0;simp only[aF,go_sem,reduceIte,jA,jB,jC,jD,reduceCtorEq,jE,jF];rcases Kb i aAP.length with hlt|hge
 ·have hcc:decide ((i:Int)<(aAP.length:Int))=true:=dct;have hg:=aN kV aAP i hlt;have hw:IntKind.i64.wrap ((i:Int)+1)=((i+1:Nat):Int):=wrp;have hk:=hc aAP[i] (Ke _);generalize aAP[i]=k at hg hk;have hg:(aAP.map kV).getD i (.tup [])= .int .i64 (k:Int):=hg;have z1:decide ((k:Int)<0)=false:=dcf;have z2:decide ((t.length:Int)≤(k:Int))=false:=dcf;have z3:decide ((k:Int)≥(t.length:Int))=false:=dcf;refine aue (e9 hcc hg hlt z1 z2 z3 (@jK Nat V) (@jK Vl V) (e2 jG hw)) ?_;rw[←hQ];exact aG (i+1) or ⟨hlt,or,dmo hdm,kep hsm⟩ (by simp only[WkL,aF,jH,jI,jJ,go_sem,reduceIte,jA,jB,jC,jD,reduceCtorEq,jE,jF])
 have hcc:decide ((i:Int)<(aAP.length:Int))=false:=dcf;have z6:decide ((6:Int)<(aAP.length:Int))=false:=dcf;have hcap:aAP.length*32≤140737488355328:=or;refine aue hcc ?_;rw[←hQ];refine aue (e4 z6 hcap (@jK Nat V) jG) ?_;generalize hRC:lP (lwp Tryz.prog _) _=RC;have hdh:=dmo (H:=hp.set nx1 (.arr (.agg 3) (Kf aAP.length (.agg [.int .i64 0, .int .i64 0, .str ⟨#[]⟩])))) (n:=nx1+1) hdm
 refine aS (fun i:Nat=>aF 50 0 [(0,vls o1 t),(4, .sl (.agg 3) .nil []),(5, .nilIface),(8, .rs nx1 (.agg 3) 0 aAP.length),(34, .sl .leaf o2 (aAP.map kV)),(35, .int .i64 aAP.length),(36, .int .i64 i)])
  (fun i hp2 nx2=>i≤aAP.length∧nx1<nx2∧aW hp2 nx2∧(∀k,k<nx1→hp2 k=hp k)∧hp2 nx1=some (.arr (.agg 3) ((pZ t aAP i).map Vl.v)))
  (fun i=>aAP.length-i) 0 ⟨Kc _,Zw,hdh,fun k hk=>by simp only[Hp.set];rw[if_neg or],by simp only[pZ,gS,List.take_zero,List.map_replicate,Nat.sub_zero,go_sem,reduceIte,jA,jB,jC,jD,reduceCtorEq,jE,jF];rfl⟩ (by simp only[WkL,aF,jH,jI,jJ,jK,go_sem,reduceIte,jA,jB,jC,jD,reduceCtorEq,jE,jF]) ?_
 clear hdh;rintro i hp2 nx2 ⟨hi,aSL,aFp,aBZ,hid⟩;generalize hQ2:bK _ _ _ _ _=Q2;simp only[aF,go_sem,reduceIte,jA,jB,jC,jD,reduceCtorEq,jE,jF];rcases Kb i aAP.length with hlt|hge
 ·have hcc:decide ((i:Int)<(aAP.length:Int))=true:=dct;have hg:=aN kV aAP i hlt;have hw:IntKind.i64.wrap ((i:Int)+1)=((i+1:Nat):Int):=wrp;have hk:=hc aAP[i] (Ke _);have aAO:=vd t aAP hlt;have hal:=ve t aAP hi;generalize aAP[i]=k at hg hk aAO;have hg:(aAP.map kV).getD i (.tup [])= .int .i64 (k:Int):=hg;have hg2:=aN Vl.v t k hk;have hD:t.getD k gR=t[k]:=by rw[List.getD_eq_getElem?_getD,List.getElem?_eq_getElem hk];rfl
  rw[hD] at aAO;generalize t[k]=w at*;generalize pZ t aAP i=A at*;have hwf:=Vl.aAD w;have hil:i<A.length:=or;have hga:=aN Vl.v A i hil;have hsp:bP (.agg 3) 0 ((A.map Vl.v).getD i (.tup [])) w.v=w.v:=eU (by rw[hga];exact Vl.aAD _) hwf;have hml:(A.map Vl.v).length=aAP.length:=by rw[jK];exact hal
  refine aue (e14 hcc hg hlt hk hg2 hwf hsp hml hid aSL (@jK Nat V) (@jK Vl V) jG hw) ?_;rw[←hQ2];refine aG (i+1) or ⟨hlt,or,dmo aFp,fun k hk=>by simp only[Hp.set];rw[if_neg or];exact aBZ k hk,?_⟩ (by simp only[WkL,aF,jH,jI,jJ,go_sem,reduceIte,jA,jB,jC,jD,reduceCtorEq,jE,jF]);rw[←aAO,List.map_set];simp only[go_sem,reduceIte,jA,jB,jC,jD,reduceCtorEq,jE,jF]
 have hcc:decide ((i:Int)<(aAP.length:Int))=false:=dcf;refine aue hcc ?_;rw[←hQ2];refine au ?_;have hie:i=aAP.length:=or;rw[hie] at hid;have hpa:pZ t aAP aAP.length=gS t aAP:=by unfold pZ;rw[List.take_length,Kg];simp
 rw[hpa] at hid;rw[←hRC];have hpl:((gS t aAP).map Vl.v).length=aAP.length:=by unfold gS;rw[jK,jK]
 refine fF (iI (t:=8) (n:=nx1) (k:= .agg 3) (off:=0) (len:=aAP.length) (es:=(gS t aAP).map Vl.v) rfl hid or) ?_;have htk:(List.drop 0 ((gS t aAP).map Vl.v)).take aAP.length=(gS t aAP).map Vl.v:=by rw[List.drop_zero];exact List.take_of_length_le or
 rw[htk];refine au ?_;refine aV _ (Hp.le_refl _) ⟨rfl,?_⟩;refine fun m b e=>?_;have:=hd _ _ e;simp only[Hp.del];rw[if_neg or,aBZ m or];exact hsm.le hd (Hp.le_refl _) m b e
end Go.Proofs.YtgbiopfghdilnaaGreatDoor
