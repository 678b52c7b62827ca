/-
Texts of this proof,one behind the other. No conditions.
-/
import Derived.Test.YtgbiopfghdilnaaGreatDoorKs
import Derived.Test.YtgbiopfghdilnaaGreatDoorKrc
open Go.Proofs.YtgbiopfghdilnaaGreatDoor.Hp renaming set→Ka,le_refl→Kb,same→Ke
open List renaming getD_eq_getElem?_getD→Kc,getElem?_eq_getElem→Kd,getElem_mem→Kf,drop_eq_getElem_cons→Kg,length_append→Kh,take_of_length_le→Ki,getD_cons_zero→Kj,set_cons_zero→Kk,drop_of_length_le→Kp,mem_cons→Ks,length_take→Ku,not_mem_nil→Kv,map_append→Kw,replicate→Kx,drop_zero→Ky,map_nil→Kz,map→KA,drop→KB
open Nat renaming zero_le→Km,lt_or_ge→Ko,le_refl→Kq,sub_self→Kt
open Nat renaming reduceAdd→jA,reduceSub→jB,reduceLT→jC,reduceLeDiff→jD,reduceEqDiff→jE
open Int renaming reduceToNat→jF,toNat_natCast→jG,natCast_add→jH,natCast_one→jI,natCast_zero→jJ
open List renaming length_map→jK,length_cons→jL,length_nil→jM,replicate_succ→jN
set_option linter.all false
set_option maxHeartbeats 8000000
namespace Go.Proofs.YtgbiopfghdilnaaGreatDoor
open Go.RowKit Go.Sort
attribute [local irreducible] IntKind.wrap
def mU:List Tr→List Vl→List Tr→Option (List Tr)
 |a::r,v::vs,l=>if a.x.size=0 then (if a.w=v then mU r vs l else none) else
  match lkB a.x l with
  |none=>mU r vs (l++[⟨a.x,v⟩])
  |some w=>if w=v then mU r vs l else none
 |_,_,l=>some l
theorem tZ(a:Tr)(r:List Tr)(v:Vl)(vs:List Vl)(l:List Tr):mU (a::r) (v::vs) l=if a.x.size=0 then (if a.w=v then mU r vs l else none) else (match lkB a.x l with
 |none=>mU r vs (l++[⟨a.x,v⟩])
 |some w=>if w=v then mU r vs l else none):=rfl
def zO(a:Am)(t:List Vl)(l:List Tr):Option (List Tr):=if a.l.length≠t.length then none else mU a.l t l
def Hw(r:Option (List Tr))(nx:Nat)(v:V)(h':Hp)(nx':Nat):Prop:=match r with
 |none=>v= .tup [.aAH, .bool false]
 |some l=>∃n es c,v= .tup [.map n, .bool true]∧nx≤n∧n<nx'∧h' n=some (.mp es c)∧sV es c l
theorem xp(a:Am)(ha:a.l.length≤1000000)(o:Own)(t:List Vl)(l:List Tr)(n:Nat)(es:List ME)(c:Nat)(h:Hp)(nx:Nat)(hm:h n=some (.mp es c))(he:sV es c l):
 aY Tryz.prog 58 [a.v,vls o t, .map n] h nx fun v h' nx'=>Hw (zO a t l) nx v h' nx'∧∀k,k<nx→h' k=h k:=by
 refine aB L.bDq fun hd=>?_;have hd:aS h nx:=hd;obtain⟨ar,ao,ts⟩:=a;have ha:ts.length≤1000000:=ha;refine ZK ?_;have hn2:n<nx:=hd _ _ hm;unfold zO;dsimp only;by_cases hne:ts.length=t.length
 ·have g:((ts.length:Int) != (t.length:Int))=false:=bnf;rw[if_neg (by simpa using hne)];refine aue (e5 Am.v.eq_1 trs.eq_1 g (@jK Tr V) (@jK Vl V)) ?_;refine bF ((nI n es c l he _ _ ?_).dom.mono ?_)
  ·simp only[hm,hn2,go_sem,reduceIte,jA,jB,jC,jD,reduceCtorEq,jE,jF]
  rintro v h2 nx2 hle ⟨⟨m,es2,c2,rfl,q1,q2,q3,q4,q5⟩,hd2,_⟩;unfold cY;dsimp only at q1 q5;refine Zn ?_;have hb0:h2 nx=some (.arr (.agg 2) [.agg [.str ar, .sl (.agg 4) ao (ts.map Tr.v)]]):=by rw[q5 nx or];simp only[go_sem,reduceIte,jA,jB,jC,jD,reduceCtorEq,jE,jF]
  have hk2:∀k,k<nx→h2 k=h k:=fun k hk=>by
   rw[q5 k or];simp only[Ka];rw[if_neg or]
  obtain⟨RES,aAS⟩:∃R,mU ts t l=R:=⟨_,rfl⟩;rw[aAS];have n0:nx<nx2:=or;refine aue (e5 Am.v.eq_1 trs.eq_1 hb0 n0 (@jK Tr V)) ?_
  refine aO (fun q:Nat×List Tr=>aD 60 0 [(1,vls o t),(6, .aAH),(7, .bool false),(8, .map m),(22, .sl (.agg 4) ao (ts.map Tr.v)),(23, .int .i64 ts.length),(24, .int .i64 q.1)])
   (fun q hp nx1=>q.1≤ts.length∧m<nx1∧aS hp nx1∧(∀k,k<nx→hp k=h k)∧(∃es c,hp m=some (.mp es c)∧sV es c q.2)∧RES=mU (ts.drop q.1) (t.drop q.1) q.2)
   (fun q=>ts.length-q.1) (0,l) ⟨Km _,q2,hd2,hk2,⟨es2,c2,q3,q4⟩,aAS.symm⟩ (by simp only[WkL,aD,jH,jI,jJ,jK,go_sem,reduceIte,jA,jB,jC,jD,reduceCtorEq,jE,jF]) ?_
  clear hk2 hb0 q5 q3 q4 n0 hd2 aAS;rintro⟨i,L⟩ hp nx1 ⟨hi,hnx,hdm,hsm,⟨es,c,hmp,aD2⟩,hmt⟩;generalize hQ:aV _ _ _ _ _=Q0;dsimp only at hi aD2 hmt;refine Zk ?_;rcases Ko i ts.length with hlt|hge
  ·have hlv:i<t.length:=or;have hc:decide ((i:Int)<(ts.length:Int))=true:=dct;have hg:=aJ Tr.v ts i hlt;have hg2:=aJ Vl.v t i hlv;have hw:IntKind.i64.wrap ((i:Int)+1)=((i+1:Nat):Int):=wrp;rw[Kg hlt,Kg hlv] at hmt;rw[tZ] at hmt;generalize ts[i]=T at*;generalize t[i]=w at*;have hTf:=Tr.aAA T;have hwf:=Vl.aAA w;have hWf:=Vl.aAA T.w;have hT:T.v= .agg [.str T.x, .int .i64 T.w.k, .int .i64 T.w.n, .str T.w.s]:=rfl;have hTw:V.agg [.int .i64 T.w.k, .int .i64 T.w.n, .str T.w.s]=T.w.v:=rfl;have z0:=vI T.x;have hv:=qA T.w w;have stay:∀(sl:List V) (hp2:Hp) (aD8:Nat),RES=mU (ts.drop (i+1)) (t.drop (i+1)) L→nx1≤aD8→aS hp2 aD8→(∀k,k<nx1→hp2 k=hp k)→WkL sl (aD 60 0 [(1,vls o t),(6, .aAH),(7, .bool false),(8, .map m),(22, .sl (.agg 4) ao (ts.map Tr.v)),(23, .int .i64 ts.length),(24, .int .i64 ((i+1:Nat):Int))])→Q0 .normal ⟨sl,hp2,aD8⟩:=by
    intro sl hp2 aD8 e h1 h2 h3 h4;rw[←hQ];exact aF (i+1,L) Zw ⟨hlt,or,h2,fun k hk=>(h3 k or).trans (hsm k hk),⟨es,c,(h3 m hnx).trans hmp,aD2⟩,e⟩ h4
   by_cases hs:T.x.size=0
   ·rw[decide_eq_true hs] at z0;rw[if_pos hs] at hmt;by_cases hw2:T.w=w
    ·rw[if_pos hw2] at hmt;rw[decide_eq_true hw2] at hv;refine aue (e12 hc hg hg2 hlt hlv hTf hwf hT hWf hTw z0 (e5 hv (@jK Tr V) (@jK Vl V) jG hw)) ?_;exact stay _ _ _ hmt or (dmo hdm) (fun k hk=>by simp only[Ka];repeat rw[if_neg or]) (by simp only[WkL,aD,jH,jI,jJ,go_sem,reduceIte,jA,jB,jC,jD,reduceCtorEq,jE,jF])
    rw[if_neg hw2] at hmt;rw[decide_eq_false hw2] at hv;refine aue (e12 hc hg hg2 hlt hlv hTf hwf hT hWf hTw z0 (e5 hv (@jK Tr V) (@jK Vl V) jG hw)) ?_;rw[←hQ];refine au ?_;rw[hmt];refine aM _ (Kb _) ⟨rfl,fun k hk=>?_⟩;refine Eq.trans ?_ (hsm k hk);simp only[Ka];repeat rw[if_neg or]
   rw[decide_eq_false hs] at z0;rw[if_neg hs] at hmt;have hx:=aD2.at T.x;have n3:m<nx1:=hnx;cases k:lkB T.x L with
   |some w2=>
    rw[k] at hmt hx;obtain⟨j,hj1,hj2,hj3⟩:=hx;have hg0:lO true (.agg [.int .i64 0, .int .i64 0, .str ⟨#[]⟩]) es (some j)= .tup [w2.v, .bool true]:=by rw[←hj2];rfl
    have aHf:=Vl.aAA w2;have hv2:=qA w2 w;dsimp only at hmt;by_cases hw2:w2=w
    ·rw[if_pos hw2] at hmt;rw[decide_eq_true hw2] at hv2;refine aue (e14 hc hg hg2 hlt hlv hTf hwf hT hWf hTw z0 hmp n3 (e8 hv2 (@jK Tr V) (@jK Vl V) jG hw hj1 hg0 aHf)) ?_;exact stay _ _ _ hmt or (dmo hdm) (fun k hk=>by simp only[Ka];repeat rw[if_neg or]) (by simp only[WkL,aD,jH,jI,jJ,go_sem,reduceIte,jA,jB,jC,jD,reduceCtorEq,jE,jF])
    rw[if_neg hw2] at hmt;rw[decide_eq_false hw2] at hv2;refine aue (e14 hc hg hg2 hlt hlv hTf hwf hT hWf hTw z0 hmp n3 (e8 hv2 (@jK Tr V) (@jK Vl V) jG hw hj1 hg0 aHf)) ?_;rw[←hQ];refine au ?_;rw[hmt];refine aM _ (Kb _) ⟨rfl,fun k hk=>?_⟩;refine Eq.trans ?_ (hsm k hk);simp only[Ka];repeat rw[if_neg or]
   |none=>
    rw[k] at hmt hx;have hg0:lO true (.agg [.int .i64 0, .int .i64 0, .str ⟨#[]⟩]) es none= .tup [.agg [.int .i64 0, .int .i64 0, .str ⟨#[]⟩], .bool false]:=rfl;dsimp only at hmt;refine aue (e14 hc hg hg2 hlt hlv hTf hwf hT hWf hTw z0 hmp n3 (e6 (@jK Tr V) (@jK Vl V) jG hw hx hg0)) ?_;refine oH (es:=es) (c:=c) (n:=m) rfl rfl (by simp only[hmp,n3,(fls:(m=nx1)=False),(fls:(m=nx1+2)=False),go_sem,reduceIte,jA,jB,jC,jD,reduceCtorEq,jE,jF]) hx ?_;refine Zn ?_;refine aue hw ?_;rw[←hQ];refine aF (i+1,L++[⟨T.x,w⟩]) Zw ⟨hlt,or,dmo hdm,fun k hk=>?_,⟨_,_,by simp only[go_sem,reduceIte,jA,jB,jC,jD,reduceCtorEq,jE,jF],aD2.add ⟨T.x,w⟩ k⟩,hmt⟩ (by simp only[WkL,aD,jH,jI,jJ,go_sem,reduceIte,jA,jB,jC,jD,reduceCtorEq,jE,jF]);refine Eq.trans ?_ (hsm k hk);simp only[Ka];repeat rw[if_neg or]
  have hc:decide ((i:Int)<(ts.length:Int))=false:=dcf;rw[Kp or] at hmt;refine aue hc ?_;rw[←hQ];refine au ?_;rw[hmt];exact aM hp (Kb _) ⟨⟨m,es,c,rfl,or,hnx,hmp,aD2⟩,hsm⟩
 have g:((ts.length:Int) != (t.length:Int))=true:=bnt;rw[if_pos hne];refine aue (e5 Am.v.eq_1 trs.eq_1 g (@jK Tr V) (@jK Vl V)) ?_;refine aM _ (Kb _) ⟨rfl,fun k hk=>?_⟩;simp only[Ka];rw[if_neg or]
def eM(t:List Vl)(aAO:List Nat):List Vl:=aAO.map fun c=>t.getD c eX
def tB(t:List Vl)(aAO:List Nat)(i:Nat):List Vl:=eM t (aAO.take i)++Kx (aAO.length-i) eX
theorem Cf(t:List Vl)(aAO:List Nat){i:Nat}(h:i≤aAO.length):(tB t aAO i).length=aAO.length:=by
 unfold tB eM;rw[Kh,jK,Ku,List.length_replicate];omega
theorem Ce(t:List Vl)(aAO:List Nat){i:Nat}(h:i<aAO.length):(tB t aAO i).set i (t.getD aAO[i] eX)=tB t aAO (i+1):=by
 have hl:(eM t (aAO.take i)).length=i:=by unfold eM;rw[jK,Ku];omega
 unfold tB;rw[show aAO.length-i=(aAO.length-(i+1))+1 by omega,jN,List.set_append_right _ _ or,hl,Kt,Kk];unfold eM;rw[List.take_succ_eq_append_getElem h,Kw,List.append_assoc];rfl
theorem Cd(o1 o2:Own)(t:List Vl)(aAO:List Nat)(hl:aAO.length≤6)(hc:∀c∈aAO,c<t.length)(h:Hp):aK Tryz.prog 63 [vls o1 t, .sl .leaf o2 (aAO.map kV)] h (.tup [.sl (.agg 3) .free ((eM t aAO).map Vl.v), .nilIface]):=by
 refine bK (fun L=>⟨⟨fun n e=>(by cases e),aT (fun x=>Vl.aAK L x) _⟩,trivial,trivial⟩) fun h' nx hh=>aB L.bDh fun hd=>?_;have hd:aS h' nx:=hd;refine ZK ?_;refine aue (@jK Nat V) ?_
 refine aO (fun i:Nat=>aD 50 0 [(0,vls o1 t),(1, .sl .leaf o2 (aAO.map kV)),(4, .sl (.agg 3) .nil []),(5, .nilIface),(11, .sl .leaf o2 (aAO.map kV)),(12, .int .i64 aAO.length),(13, .int .i64 i)])
  (fun i hp nx1=>i≤aAO.length∧nx≤nx1∧aS hp nx1∧Ke nx h' hp)
  (fun i=>aAO.length-i) 0 ⟨Km _,Kq _,hd,Hp.same.aAn⟩ (by simp only[WkL,aD,jH,jI,jJ,jK,go_sem,reduceIte,jA,jB,jC,jD,reduceCtorEq,jE,jF]) ?_
 rintro i hp nx1 ⟨hi,hnx,hdm,hsm⟩;generalize hQ:aV _ _ _ _ _=Q0;refine Zk ?_;rcases Ko i aAO.length with hlt|hge
 ·have hcc:decide ((i:Int)<(aAO.length:Int))=true:=dct;have hg:=aJ kV aAO i hlt;have hw:IntKind.i64.wrap ((i:Int)+1)=((i+1:Nat):Int):=wrp;have hk:=hc aAO[i] (Kf _);generalize aAO[i]=k at hg hk;have hg:(aAO.map kV).getD i (.tup [])= .int .i64 (k:Int):=hg;have z1:decide ((k:Int)<0)=false:=dcf;have z2:decide ((t.length:Int)≤(k:Int))=false:=dcf;have z3:decide ((k:Int)≥(t.length:Int))=false:=dcf;refine aue (e9 hcc hg hlt z1 z2 z3 (@jK Nat V) (@jK Vl V) (e2 jG hw)) ?_;rw[←hQ];exact aF (i+1) or ⟨hlt,or,dmo hdm,kep hsm⟩ (by simp only[WkL,aD,jH,jI,jJ,go_sem,reduceIte,jA,jB,jC,jD,reduceCtorEq,jE,jF])
 have hcc:decide ((i:Int)<(aAO.length:Int))=false:=dcf;have z6:decide ((6:Int)<(aAO.length:Int))=false:=dcf;have hcap:aAO.length*32≤140737488355328:=or;refine aue hcc ?_;rw[←hQ];refine aue (e4 z6 hcap (@jK Nat V) jG) ?_;generalize hRC:kH (lwp Tryz.prog _) _=RC;have hdh:=dmo (H:=hp.set nx1 (.arr (.agg 3) (Kx aAO.length (.agg [.int .i64 0, .int .i64 0, .str ⟨#[]⟩])))) (n:=nx1+1) hdm
 refine aO (fun i:Nat=>aD 50 0 [(0,vls o1 t),(4, .sl (.agg 3) .nil []),(5, .nilIface),(8, .rs nx1 (.agg 3) 0 aAO.length),(34, .sl .leaf o2 (aAO.map kV)),(35, .int .i64 aAO.length),(36, .int .i64 i)])
  (fun i hp2 nx2=>i≤aAO.length∧nx1<nx2∧aS hp2 nx2∧(∀k,k<nx1→hp2 k=hp k)∧hp2 nx1=some (.arr (.agg 3) ((tB t aAO i).map Vl.v)))
  (fun i=>aAO.length-i) 0 ⟨Km _,Zw,hdh,fun k hk=>by simp only[Ka];rw[if_neg or],by simp only[tB,eM,List.take_zero,List.map_replicate,Nat.sub_zero,go_sem,reduceIte,jA,jB,jC,jD,reduceCtorEq,jE,jF];rfl⟩ (by simp only[WkL,aD,jH,jI,jJ,jK,go_sem,reduceIte,jA,jB,jC,jD,reduceCtorEq,jE,jF]) ?_
 clear hdh;rintro i hp2 nx2 ⟨hi,aEr,aBX,aAj,hid⟩;generalize hQ2:aV _ _ _ _ _=Q2;refine Zk ?_;rcases Ko i aAO.length with hlt|hge
 ·have hcc:decide ((i:Int)<(aAO.length:Int))=true:=dct;have hg:=aJ kV aAO i hlt;have hw:IntKind.i64.wrap ((i:Int)+1)=((i+1:Nat):Int):=wrp;have hk:=hc aAO[i] (Kf _);have aAR:=Ce t aAO hlt;have hal:=Cf t aAO hi;generalize aAO[i]=k at hg hk aAR;have hg:(aAO.map kV).getD i (.tup [])= .int .i64 (k:Int):=hg;have hg2:=aJ Vl.v t k hk;have hD:t.getD k eX=t[k]:=by rw[Kc,Kd hk];rfl
  rw[hD] at aAR;generalize t[k]=w at*;generalize tB t aAO i=A at*;have hwf:=Vl.aAA w;have hil:i<A.length:=or;have hga:=aJ Vl.v A i hil;have hsp:bU (.agg 3) 0 ((A.map Vl.v).getD i (.tup [])) w.v=w.v:=gH (by rw[hga];exact Vl.aAA _) hwf;have hml:(A.map Vl.v).length=aAO.length:=by rw[jK];exact hal
  refine aue (e14 hcc hg hlt hk hg2 hwf hsp hml hid aEr (@jK Nat V) (@jK Vl V) jG hw) ?_;rw[←hQ2];refine aF (i+1) or ⟨hlt,or,dmo aBX,fun k hk=>by simp only[Ka];rw[if_neg or];exact aAj k hk,?_⟩ (by simp only[WkL,aD,jH,jI,jJ,go_sem,reduceIte,jA,jB,jC,jD,reduceCtorEq,jE,jF]);rw[←aAR,List.map_set];simp only[go_sem,reduceIte,jA,jB,jC,jD,reduceCtorEq,jE,jF]
 have hcc:decide ((i:Int)<(aAO.length:Int))=false:=dcf;refine aue hcc ?_;rw[←hQ2];refine au ?_;have hie:i=aAO.length:=or;rw[hie] at hid;have hpa:tB t aAO aAO.length=eM t aAO:=by unfold tB;rw[List.take_length,Kt];simp
 rw[hpa] at hid;rw[←hRC];have hpl:((eM t aAO).map Vl.v).length=aAO.length:=by unfold eM;rw[jK,jK]
 refine fX (lE (t:=8) (n:=nx1) (k:= .agg 3) (off:=0) (len:=aAO.length) (es:=(eM t aAO).map Vl.v) rfl hid or) ?_;have htk:(KB 0 ((eM t aAO).map Vl.v)).take aAO.length=(eM t aAO).map Vl.v:=by rw[Ky];exact Ki or
 rw[htk];refine au ?_;refine aM _ (Kb _) ⟨rfl,?_⟩;refine fun m b e=>?_;have:=hd _ _ e;simp only[Hp.del];rw[if_neg or,aAj m or];exact hsm.le hd (Kb _) m b e
theorem qc{t u w:Nat}{k1 k2:Sh}{n1 n2:Nat}{x1 x2:V}{R:V→Hp→Nat→Prop}{s:St}(h1:s.sl.getD t V.undef= .ptr n1 k1 0 0)(h2:s.sl.getD u V.undef= .ptr n2 k2 0 0)(m1:s.h n1=some (.arr k1 [x1]))(m2:s.h n2=some (.arr k2 [x2]))(f1:x1.fits k1=true)(f2:x2.fits k2=true)
 (h':Hp) (hle:h'.le s.h) (hR:R (.tup [x1,x2,s.sl.getD w V.undef]) h' s.nx):pR [.cell t k1, .cell u k2, .slot w] R .ret s:=by
 simp only[pR,mQ,bj.sem,bB.sem,aN.ev,h1,h2,m1,m2];refine⟨?_,Zm,fL _,?_,Zm,fL _,h',hle,?_⟩
 ·trivial
 ·trivial
 have e1:=bC f1;have e2:=bC f2;simp only[Kj,e1,e2];exact hR
def zS5:V:= .agg [.int .i64 0, .int .i64 0, .sl .leaf .nil [], .sl .leaf .nil [], .sl .leaf .nil []]
def ck:V:= .agg [.int .i64 0, .str ⟨#[]⟩, .sl (.agg 4) .nil [], .int .i64 0, .int .i64 0, .str ⟨#[]⟩, .int .i64 0, .int .i64 0, .str ⟨#[]⟩, .sl (.agg 6) .nil [], .int .i64 0, .str ⟨#[]⟩, .int .i64 0, .int .i64 0, .str ⟨#[]⟩, .sl (.agg 6) .nil [], .int .i64 0]
def stF(nx:Nat)(oS:Own)(PL:List V)(oB:Own)(BL:List V)(k si:Nat)(S X:V):List (Nat×Nat×V):=[(0,19, .ptr nx (.agg 7) 0 6),(1,20, .sl (.agg 5) oS PL),(2,21, .int .i64 k),(3,22, .ept (.agg 5) PL k 0),(4,23,S),(5,24, .ptr nx (.agg 7) 0 0),(6,25, .ptr nx (.agg 7) 0 4),(7,26, .sl (.agg 17) oB BL),(8,27, .ptr nx (.agg 7) 0 6),(9,28, .sl (.agg 5) oS PL),(10,29, .int .i64 k),(11,30, .ept (.agg 5) PL k 0),(12,31, .ept (.agg 5) PL k 1),(13,32, .int .i64 si),(14,33, .ept (.agg 17) BL si 0),(15,34,X),(18,6, .nilIface)]
def stX(nx k:Nat):List (Nat×V):=[(1, .int .i64 k),(2, .ptr nx (.agg 7) 0 0),(4, .ptr (nx+1) (.agg 5) 0 0),(5, .ptr (nx+2) (.agg 17) 0 0)]
structure StR(A:Hp)(nx:Nat)(oS:Own)(PL:List V)(oB:Own)(BL:List V)(k si:Nat)(S X:V)(D:Nat→Bool)(s:St):Prop where
 sl:RG (stF nx oS PL oB BL k si S X) (stX nx k) 35 D s.sl
 h1:s.h (nx+1)=some (.arr (.agg 5) [if D 16=true then S else zS5])
 h2:s.h (nx+2)=some (.arr (.agg 17) [if D 17=true then X else ck])
 ho:∀x,x≠nx+1→x≠nx+2→s.h x=A x
theorem StR.go{A:Hp}{nx:Nat}{oS:Own}{PL:List V}{oB:Own}{BL:List V}{k si:Nat}{S X:V}{D:Nat→Bool}{sl:List V}{h:Hp}{n:Nat}(r:StR A nx oS PL oB BL k si S X D ⟨sl,h,n⟩)(i t:Nat)(v:V)(m:Nat)(ht:t<35:=by decide)(hF:∀f∈stF nx oS PL oB BL k si S X,(f.1=i∨f.2.1=t)→f=(i,t,v):=by simp[stF])(hx:∀p∈stX nx k,p.1≠t:=by simp[stX])(h16:i≠16:=by decide)(h17:i≠17:=by decide):
 StR A nx oS PL oB BL k si S X (fun j=>if j=i then true else D j) ⟨sl.set t v,h,m⟩:=
 ⟨r.sl.slot i t v ht hF hx,by rw[if_neg h16.symm];exact r.h1,by rw[if_neg h17.symm];exact r.h2,r.ho⟩
def l9(R:Ru)(ps:List PS)(i:Int):V:=if 0≤i∧i<ps.length then .tup [(ps.getD i.toNat default).v,(R.b.getD (ps.getD i.toNat default).i default).v, .nilIface] else .tup [zS5,ck,eF 1]
theorem xM(R:Ru)(ps:List PS)(hp:ps.length≤1000)(hok:∀s∈ps,s.i<R.b.length)(i:Int)(h:Hp):aK Tryz.prog 56 [eA R ps, .int .i64 i] h (l9 R ps i):=by
 refine vW (fun L hL=>?_) fun h' nx hh=>aB L.bDs fun hd=>?_
 ·have hR:bI L (R.b.map Li.v):=by
   have:=hL.1;simp only[eA,V.names,bI] at this;exact this.2.2.2.2.1.2
  unfold l9;split
  ·rename_i hi;have hlt:i.toNat<ps.length:=or;have hD:ps.getD i.toNat default=ps[i.toNat]:=by rw[Kc,Kd hlt];rfl
   have hsi:=hok ps[i.toNat] (Kf _);rw[hD];generalize ps[i.toNat]=s at*;have hD2:R.b.getD s.i default=R.b[s.i]:=by rw[Kc,Kd hsi];rfl
   rw[hD2];exact⟨⟨trivial,trivial,bV (fun L=>aT (f:=V.str) (fun _=>trivial) _) L,bV (fun L=>aT (f:=V.str) (fun _=>trivial) _) L,bV (fun L=>aT (f:=kV) (fun _=>trivial) _) L,trivial⟩,gL.1 hR _ (List.mem_map.2 ⟨_,Kf _,rfl⟩),trivial,trivial⟩
  simp[zS5,ck,V.names,bI,eU]
 have hd:aS h' nx:=hd;obtain⟨oS,hoS⟩:=bQ (.agg 5) (ps.map PS.v);unfold eA l9;rw[hoS];refine ZK ?_;by_cases hi:0≤i∧i<ps.length
 ·have g1:decide (i<0)=false:=dcf;have g2:decide ((ps.length:Int)≤i)=false:=dcf;have g3:decide (i≥(ps.length:Int))=false:=dcf;rw[if_pos hi];obtain⟨k,hk⟩:∃k:Nat,i=k:=⟨i.toNat,or⟩;subst hk;have hk:k<ps.length:=or;rw[jG];have hg:=aJ PS.v ps k hk;have hD:ps.getD k default=ps[k]:=by rw[Kc,Kd hk];rfl
  have hsi:=hok ps[k] (Kf _);rw[hD];generalize ps[k]=s at*;have hg2:=aJ Li.v R.b s.i hsi;have hD2:R.b.getD s.i default=R.b[s.i]:=by rw[Kc,Kd hsi];rfl
  rw[hD2];generalize R.b[s.i]=x at*;have hsf:=PS.aAA s;have hxf:=Li.aAA x;have hs1:s.v.cell 1= .int .i64 s.i:=rfl;generalize s.v=S at*;generalize x.v=X at*;generalize s.i=s0i at*;refine aue (e14 g1 g2 g3 hg hk hsf hxf hs1 hg2 hsi trs.eq_1 (@jK PS V) (@jK Li V) jG) ?_;obtain⟨PA,hPA⟩:∃PA,[V.agg [V.str R.h.r,V.sl (Sh.agg 4) R.h.o (KA Tr.v R.h.l),V.int IntKind.i64 R.g,V.int IntKind.i64 R.c,V.sl (Sh.agg 17) R.o (KA Li.v R.b),V.int IntKind.i64 R.at_,V.sl (Sh.agg 5) oS (KA PS.v ps)]]=PA:=⟨_,rfl⟩;rw[hPA];generalize hA:Ka _ _ _=A;have a0:A nx=some (.arr (.agg 7) PA):=by rw[←hA];simp only[go_sem,reduceIte,jA,jB,jC,jD,reduceCtorEq,jE,jF]
  have a1:A (nx+1)=some (.arr (.agg 5) [zS5]):=by rw[←hA];simp only[go_sem,reduceIte,jA,jB,jC,jD,reduceCtorEq,jE,jF];rfl
  have a2:A (nx+2)=some (.arr (.agg 17) [ck]):=by rw[←hA];simp only[go_sem,reduceIte,jA,jB,jC,jD,reduceCtorEq,jE,jF];rfl
  have hle:∀x,x<nx→A x=h' x:=fun x hx=>by rw[←hA];simp only[Ka];repeat rw[if_neg or]
  clear hA;have hp4:(PA.getD 0 (.tup [])).cell 4= .sl (.agg 17) R.o (R.b.map Li.v):=by rw[←hPA];rfl
  have hp6:(PA.getD 0 (.tup [])).cell 6= .sl (.agg 5) oS (ps.map PS.v):=by rw[←hPA];rfl
  have hp1:PA.length=1:=by rw[←hPA];rfl
  clear hPA;have hgS:=hg;have hml:(ps.map PS.v).length=ps.length:=jK ..;have bFe:(R.b.map Li.v).length=R.b.length:=jK ..;generalize ps.map PS.v=PL at*;generalize R.b.map Li.v=BL at*;have l6:aX .leaf 6 (PA.getD 0 V.undef)= .sl (.agg 5) oS PL:=hp6;have l4:aX .leaf 4 (PA.getD 0 V.undef)= .sl (.agg 17) R.o BL:=hp4;have lS:aX (.agg 5) 0 (PL.getD k V.undef)=S:=by rw[show PL.getD k V.undef=S from hg];exact bC hsf
  have lI:aX .leaf 1 (PL.getD k V.undef)= .int .i64 s0i:=by rw[show PL.getD k V.undef=S from hg];exact hs1
  have lX:aX (.agg 17) 0 (BL.getD s0i V.undef)=X:=by rw[show BL.getD s0i V.undef=X from hg2];exact bC hxf
  refine oG ?_;refine⟨fun D s=>StR A nx oS PL R.o BL k s0i S X D s,⟨⟨rfl,?_,fun f _ e=>by cases e⟩,a1,a2,fun _ _ _=>rfl⟩,?_,?_⟩
  ·intro p hp;simp only[stX,Ks,Kv,or_false] at hp;rcases hp with rfl|rfl|rfl|rfl<;>rfl
  ·rintro D i oo aAF ⟨sl,hq,n2⟩ hi hDi aAZ hcl r;have x1:=r.sl.fx (1, .int .i64 k) (by simp[stX]);have x2:=r.sl.fx (2, .ptr nx (.agg 7) 0 0) (by simp[stX]);have x4:=r.sl.fx (4, .ptr (nx+1) (.agg 5) 0 0) (by simp[stX]);have x5:=r.sl.fx (5, .ptr (nx+2) (.agg 17) 0 0) (by simp[stX]);have y:∀f∈stF nx oS PL R.o BL k s0i S X,f.1∈aAF→sl.getD f.2.1 V.undef=f.2.2:=fun f hf hd=>r.sl.dn f hf (aAZ _ hd);have h0:hq nx=some (.arr (.agg 7) PA):=(r.ho nx or or).trans a0;have r1:=r.h1;have r2:=r.h2;dsimp only at x1 x2 x4 x5 r1 r2;rcases i with _|_|_|_|_|_|_|_|_|_|_|_|_|_|_|_|_|_|_|i;all_goals first|(injection hi with hi;injection hi with q1 q2;subst q1;subst q2)|skip
   all_goals simp only[stF,Ks,Kv,or_false,forall_eq_or_imp,forall_eq,jE,reduceCtorEq,false_implies,implies_true,true_or,or_true,true_implies,and_true,true_and] at y
   all_goals simp only[bA,LOp.run,LOp.sem,bB.sem,aN.ev,bO,x1,x2,x4,x5,y,h0,V.pick,l4,l6,lS,lI,lX,jG]
   ·exact r.go 0 19 _ _
   ·exact⟨trivial,or,by simp[cH],r.go 1 20 _ _⟩
   ·exact r.go 2 21 _ _
   ·exact⟨trivial,or,or,r.go 3 22 _ _⟩
   ·exact⟨or,fL _,r.go 4 23 _ _⟩
   ·exact r.go 5 24 _ _
   ·exact r.go 6 25 _ _
   ·exact⟨trivial,or,by simp[cH],r.go 7 26 _ _⟩
   ·exact r.go 8 27 _ _
   ·exact⟨trivial,or,by simp[cH],r.go 9 28 _ _⟩
   ·exact r.go 10 29 _ _
   ·exact⟨trivial,or,or,r.go 11 30 _ _⟩
   ·exact r.go 12 31 _ _
   ·exact⟨or,by simp[cH],r.go 13 32 _ _⟩
   ·exact⟨trivial,or,or,r.go 14 33 _ _⟩
   ·exact⟨or,fL _,r.go 15 34 _ _⟩
   ·rw[if_neg (by rw[hDi];simp)] at r1;rw[r1];refine⟨rfl,Zm,fL _,hsf,r.sl.none 16 (by simp[stF]),?_,?_,fun x q1 q2=>?_⟩
    ·simp only[Ka,if_true,Kj,Kk];rw[gH (show zS5.fits (.agg 5)=true from rfl) hsf]
    ·simp only[Ka];rw[if_neg or];exact r2
    simp only[Ka];rw[if_neg q1];exact r.ho x q1 q2
   ·rw[if_neg (by rw[hDi];simp)] at r2;rw[r2];refine⟨rfl,Zm,fL _,hxf,r.sl.none 17 (by simp[stF]),?_,?_,fun x q1 q2=>?_⟩
    ·simp only[Ka];rw[if_neg or];exact r1
    ·simp only[Ka,if_true,Kj,Kk];rw[gH (show ck.fits (.agg 17)=true from rfl) hxf]
    simp only[Ka];rw[if_neg q2];exact r.ho x q1 q2
   ·exact r.go 18 6 _ _
   simp[L.aEz] at hi
  rintro D ⟨sl,H,n2⟩ hD r;have d:=fun i (h:i<19)=>hD i h;have x6:=r.sl.dn (18,6, .nilIface) (by simp[stF]) (d 18 or);have x4:=r.sl.fx (4, .ptr (nx+1) (.agg 5) 0 0) (by simp[stX]);have x5:=r.sl.fx (5, .ptr (nx+2) (.agg 17) 0 0) (by simp[stX]);have r1:=r.h1;have r2:=r.h2;have ro:=r.ho;rw[if_pos (d 16 or)] at r1;rw[if_pos (d 17 or)] at r2;dsimp only at x4 x5 x6 r1 r2 ro;refine bS ?_;refine aZ ?_;refine dP ?_;refine qc x4 x5 r1 r2 hsf hxf h' (fun m b e=>?_) ⟨?_,rfl⟩
  ·have:=hd _ _ e;exact((ro m or or).trans (hle m this)).trans e
  rw[x6]
 rw[if_neg hi];by_cases h0:i<0
 ·have g1:decide (i<0)=true:=dct;refine aue (e3 g1 trs.eq_1 (@jK PS V)) ?_;exact qc (n1:=nx+1) (n2:=nx+2) rfl rfl (by simp only[go_sem,reduceIte,jA,jB,jC,jD,reduceCtorEq,jE,jF];rfl) (by simp only[go_sem,reduceIte,jA,jB,jC,jD,reduceCtorEq,jE,jF];rfl) rfl rfl h' (leo hd) ⟨rfl,rfl⟩
 have g1:decide (i<0)=false:=dcf;have g2:decide ((ps.length:Int)≤i)=true:=dct;have g3:decide (i≥(ps.length:Int))=true:=dct;refine aue (e5 g1 g2 g3 trs.eq_1 (@jK PS V)) ?_;exact qc (n1:=nx+1) (n2:=nx+2) rfl rfl (by simp only[go_sem,reduceIte,jA,jB,jC,jD,reduceCtorEq,jE,jF];rfl) (by simp only[go_sem,reduceIte,jA,jB,jC,jD,reduceCtorEq,jE,jF];rfl) rfl rfl h' (leo hd) ⟨rfl,rfl⟩
structure PlS(R:Ru)(s:PS):Prop where
 li:s.i<R.b.length
 nd:s.hv.Nodup
 hl:s.hv.length≤1000000000
 wl:s.wt.length≤1000000000
 kl:s.ky.length≤6
 kc:∀c∈s.ky,c<(R.b.getD s.i default).a.l.length
 rl:bG (R.b.getD s.i default)=true
 kd:s.k=(R.b.getD s.i default).k
 al:(R.b.getD s.i default).a.l.length≤6
def rP(R:Ru)(ps:List PS):Prop:=ps.length≤1000∧∀s∈ps,PlS R s
def gO(ps:List PS)(i:Int):PS:=ps.getD i.toNat default
def uT(R:Ru)(ps:List PS)(i:Int):Li:=R.b.getD (gO ps i).i default
def CR(R:Ru)(ps:List PS)(i:Int):List Tr:=(gO ps i).ky.map fun c=>(uT R ps i).a.l.getD c default
def qZ(R:Ru)(ps:List PS)(i:Int)(row:List Vl):List Vl×Int:=
 if¬(0≤i∧i<ps.length)∨(gO ps i).k=3 then ([],1) else if (gO ps i).hv.length≠row.length then ([],6) else kK (dW (gO ps i).hv row) [] (CR R ps i)
def mO(R:Ru)(ps:List PS)(i:Int)(t:List Vl):List Vl×Int:=
 if¬(0≤i∧i<ps.length)∨(gO ps i).k≠1 then ([],1) else if t.length≠(uT R ps i).a.l.length then ([],6) else (eM t (gO ps i).ky,0)
def mkR(p:List Vl×Int):V:= .tup [.sl (.agg 3) (okO p.2 .free) (p.1.map Vl.v),eF p.2]
theorem xY(p:List Vl×Int)(L:Nat→Prop):(mkR p).names L:=ae _ _ L
theorem iC{ps:List PS}{i:Int}(h:0≤i∧i<ps.length):gO ps i∈ps:=by
 unfold gO;rw[Kc,Kd or];exact Kf _
theorem uf(R:Ru)(ps:List PS)(hp:rP R ps)(i:Int)(o:Own)(t:List Vl)(h:Hp):aK Tryz.prog 25 [eA R ps, .int .i64 i,vls o t] h (mkR (mO R ps i t)):=by
 refine aH (fun L=>xY _ L) fun h' nx hh=>aB L.bEX fun hd=>?_;refine ZK ?_;have C1:=fun h=>xM R ps hp.1 (fun s hs=>(hp.2 s hs).li) i h;have hPf:(eA R ps).fits (.agg 7)=true:=by
  obtain⟨oS,hoS⟩:=bQ (.agg 5) (ps.map PS.v);unfold eA;rw[hoS];rfl
 generalize eA R ps=PV at*;unfold mO l9 at*;by_cases hi:0≤i∧i<ps.length
 ·have hs:=hp.2 _ (iC hi);simp only[if_pos hi] at C1;have e1:ps.getD i.toNat default=gO ps i:=rfl;have e2':R.b.getD (gO ps i).i default=uT R ps i:=rfl;rw[e1,e2'] at C1;have q1:=hs.kl;have q2:=hs.kc;rw[e2'] at q2;generalize gO ps i=s at*;generalize uT R ps i=x at*;have hsf:=PS.aAA s;have hxf:=Li.aAA x;obtain⟨o5,ho5⟩:=bQ .leaf (s.ky.map kV);obtain⟨T,hT,hk0,hk4⟩:∃T,s.v= .agg T∧T.getD 0 (.tup [])= .int .i64 s.k∧T.getD 4 (.tup [])= .sl .leaf o5 (s.ky.map kV):=⟨_,rfl,rfl,ho5⟩;obtain⟨X,hX,hx2⟩:∃X,x.v= .agg X∧X.getD 2 (.tup [])= .sl (.agg 4) x.a.o (x.a.l.map Tr.v):=⟨_,rfl,rfl⟩;rw[hT] at C1 hsf;rw[hX] at C1 hxf;have hv:veq (nW.iface true) V.nilIface V.nilIface=some true:=rfl;by_cases hk1:s.k=1
  ·have g1:(s.k != 1)=false:=bnf;rw[if_neg (by simp[hi,hk1])];by_cases hlt:t.length=x.a.l.length
   ·have g2:((t.length:Int) != (x.a.l.length:Int))=false:=bnf;have C2:=fun h=>Cd o o5 t s.ky q1 (by rw[hlt];exact q2) h;rw[if_neg (by simpa using hlt)];refine aue (e11 hPf hsf hxf hk0 hk4 hx2 hv g1 g2 (@jK Vl V) (@jK Tr V)) ?_;exact aM h' (leo hd) ⟨rfl,rfl⟩
   have g2:((t.length:Int) != (x.a.l.length:Int))=true:=bnt;rw[if_pos hlt];refine aue (e11 hPf hsf hxf hk0 hk4 hx2 hv g1 g2 (@jK Vl V) (@jK Tr V)) ?_;exact aM h' (leo hd) ⟨rfl,rfl⟩
  have g1:(s.k != 1)=true:=bnt;rw[if_pos (.inr hk1)];refine aue (e8 hPf hsf hxf hk0 hk4 hx2 hv g1) ?_;exact aM h' (leo hd) ⟨rfl,rfl⟩
 simp only[if_neg hi] at C1;rw[if_pos (.inl hi)];have hv:veq (nW.iface true) (eF 1) V.nilIface=some false:=rfl;have f5:zS5.fits (.agg 5)=true:=rfl;have f17:ck.fits (.agg 17)=true:=rfl;generalize zS5=Z5 at*;generalize ck=Z17 at*;refine aue (e4 hPf f5 f17 hv) ?_;exact aM h' (leo hd) ⟨rfl,rfl⟩
theorem zw(R:Ru)(ps:List PS)(hp:rP R ps)(i:Int)(o:Own)(row:List Vl)(h:Hp):aK Tryz.prog 24 [eA R ps, .int .i64 i,vls o row] h (mkR (qZ R ps i row)):=by
 refine bK (fun L=>xY _ L) fun h' nx hh=>aB L.bEg fun hd=>?_;have hd:aS h' nx:=hd;refine ZK ?_;have C1:=fun h=>xM R ps hp.1 (fun s hs=>(hp.2 s hs).li) i h;have hPf:(eA R ps).fits (.agg 7)=true:=by
  obtain⟨oS,hoS⟩:=bQ (.agg 5) (ps.map PS.v);unfold eA;rw[hoS];rfl
 generalize eA R ps=PV at*;unfold qZ l9 at*;by_cases hi:0≤i∧i<ps.length
 ·have hs:=hp.2 _ (iC hi);simp only[if_pos hi] at C1;have e1:ps.getD i.toNat default=gO ps i:=rfl;have e2':R.b.getD (gO ps i).i default=uT R ps i:=rfl;rw[e1,e2'] at C1;have q1:=hs.kl;have q2:=hs.kc;have q3:=hs.nd;have q4:=hs.hl;rw[e2'] at q2;unfold CR;generalize gO ps i=s at*;generalize uT R ps i=x at*;have hsf:=PS.aAA s;have hxf:=Li.aAA x;obtain⟨o2,ho2⟩:=bQ .leaf (s.hv.map V.str);obtain⟨o5,ho5⟩:=bQ .leaf (s.ky.map kV);obtain⟨T,hT,hk0,hk2,hk4⟩:∃T,s.v= .agg T∧T.getD 0 (.tup [])= .int .i64 s.k∧T.getD 2 (.tup [])= .sl .leaf o2 (s.hv.map V.str)∧T.getD 4 (.tup [])= .sl .leaf o5 (s.ky.map kV):=⟨_,rfl,rfl,ho2,ho5⟩;obtain⟨X,hX,hx2⟩:∃X,x.v= .agg X∧X.getD 2 (.tup [])= .sl (.agg 4) x.a.o (x.a.l.map Tr.v):=⟨_,rfl,rfl⟩;rw[hT] at C1 hsf;rw[hX] at C1 hxf;have hv:veq (nW.iface true) V.nilIface V.nilIface=some true:=rfl;by_cases hk3:s.k=3
  ·have g1:(s.k==3)=true:=bqt;rw[if_pos (.inr hk3)];refine aue (e7 hPf hsf hxf hk0 hx2 hv g1) ?_;exact aM h' (leo hd) ⟨rfl,leo hd⟩
  have g1:(s.k==3)=false:=bqf;rw[if_neg (by simp[hi,hk3])];refine aue (e10 hPf hsf hxf hk0 hk2 hk4 hx2 hv g1 (@jK Nat V)) ?_;refine bF ((tV o2 o s.hv row q3 q4 _ _).dom.mono ?_);rintro v h2 nx2 aAb ⟨⟨aBE,aDC⟩,hd2,_⟩;unfold cY;dsimp only at aBE aDC;by_cases hlr:s.hv.length=row.length
  ·rw[if_pos hlr] at aBE;rw[if_neg (by simpa using hlr)];obtain⟨m,es,c,rfl,p1,p2,p3,p4⟩:=aBE;refine Zn ?_;have hb1:h2 (nx+1)=some (.arr (.agg 5) [.agg T]):=by rw[aDC (nx+1) or];simp only[go_sem,reduceIte,jA,jB,jC,jD,reduceCtorEq,jE,jF]
   have hb2:h2 (nx+2)=some (.arr (.agg 17) [.agg X]):=by rw[aDC (nx+2) or];simp only[go_sem,reduceIte,jA,jB,jC,jD,reduceCtorEq,jE,jF]
   have aAj:Ke nx h' h2:=fun k hk=>by
    rw[aDC k or];simp only[Ka];repeat rw[if_neg or]
   have n1:nx+1<nx2:=or;have n2:nx+2<nx2:=or;have hcap:s.ky.length*32≤140737488355328:=or;obtain⟨KT,hKT⟩:∃KT,s.ky.map (fun c=>x.a.l.getD c default)=KT:=⟨_,rfl⟩;have hKl:KT.length=s.ky.length:=by rw[←hKT,jK]
   rw[hKT];generalize dW s.hv row=B at*;have hpa:=p4.at
   refine aue (e11 hv hb1 hb2 n1 n2 hk4 hsf hcap (@jK Nat V) jG hx2) ?_;generalize hRC:kH (lwp Tryz.prog _) _=RC
   refine aO (fun q:Nat×Nat×List Vl=>aD 73 0 [(6, .sl (.agg 3) .nil []),(7, .nilIface),(9, .ptr (nx+2) (.agg 17) 0 0),(11, .map m),(12, .rs q.2.1 (.agg 3) 0 q.2.2.length),(47, .sl .leaf o5 (s.ky.map kV)),(48, .int .i64 s.ky.length),(49, .int .i64 q.1)])
    (fun q hp nx1=>q.1≤s.ky.length∧nx2<nx1∧aS hp nx1∧(∀k,k<nx2→hp k=h2 k)∧(nx2≤q.2.1∧hp q.2.1=some (.arr (.agg 3) (q.2.2.map Vl.v)))∧kK B [] KT=kK B q.2.2 (KT.drop q.1)∧q.2.2.length≤q.1)
    (fun q=>s.ky.length-q.1) (0,nx2,[]) ⟨Km _,Zw,by exact dmo hd2,fun k hk=>by simp only[Ka];rw[if_neg or],⟨Kq _,by simp only[Kz,go_sem,reduceIte,jA,jB,jC,jD,reduceCtorEq,jE,jF]⟩,rfl,Km _⟩ (by simp only[WkL,aD,jH,jI,jJ,jM,jK,go_sem,reduceIte,jA,jB,jC,jD,reduceCtorEq,jE,jF]) ?_
   rintro⟨j,id,acc⟩ hp nx1 ⟨hj,hnx,hdm,hsm,⟨aHw,hid⟩,hmk,hlen⟩;generalize hQ:aV _ _ _ _ _=Q0;dsimp only at hj hid hmk hlen aHw;refine Zk ?_;have aDD:id<nx1:=hdm _ _ hid;have bCH:=(hsm (nx+2) n2).trans hb2;have hme:=(hsm m p2).trans p3;have m2:nx+2<nx1:=or;have mm:m<nx1:=or;have aHO:Ke nx h' hp:=fun k hk=>(hsm k or).trans (aAj k hk);have hle:=aHO.le hd (Kb _);rcases Ko j s.ky.length with hlt|hge
   ·have hc:decide ((j:Int)<(s.ky.length:Int))=true:=dct;have hg:=aJ kV s.ky j hlt;have hw:IntKind.i64.wrap ((j:Int)+1)=((j+1:Nat):Int):=wrp;have hkc:=q2 s.ky[j] (Kf _);have hdr:KT.drop j=x.a.l[s.ky[j]]::KT.drop (j+1):=by
     rw[Kg or];congr 1;simp only[←hKT,List.getElem_map];rw[Kc,Kd hkc];rfl
    rw[hdr] at hmk;have hg2:=aJ Tr.v x.a.l s.ky[j] hkc;generalize x.a.l[s.ky[j]]=T0 at hg2 hmk;generalize s.ky[j]=cc at*;have hg:(s.ky.map kV).getD j (.tup [])= .int .i64 (cc:Int):=hg;have hTf:=Tr.aAA T0;have hVf:=Vl.aAA (bY T0 B).1;refine aue (e13 hc hg hlt hme mm bCH m2 hx2 hg2 hkc hTf (@jK Nat V) (e3 (@jK Tr V) jG hw)) ?_;refine aI (vB T0 B m es c _ (by simp only[hme,mm,go_sem,reduceIte,jA,jB,jC,jD,reduceCtorEq,jE,jF]) hpa) rfl (aL _) ?_;refine Zn ?_;rw[mV] at hmk;by_cases hz:(bY T0 B).2=0
    ·rw[if_neg (by simp[hz])] at hmk;rw[hz];have hml:(acc.map Vl.v).length=acc.length:=jK ..;have htk:(acc.map Vl.v).take acc.length=acc.map Vl.v:=Ki Zm;have aD3:acc.length≤1000000:=or;refine aue (e9 AC hVf hw hid aDD hml htk aD3 hc) ?_;rw[←hQ];have bBy:∀k,k<nx2→∀b1 b2 b3 b4,(((((hp.set nx1 b1).set nx1 b2).set (nx1+2) b3).del id).set (nx1+3) b4) k=h2 k:=fun k hk b1 b2 b3 b4=>by
      simp only[Ka,Hp.del];repeat rw[if_neg or]
      exact hsm k hk
     exact aF (j+1,nx1+3,acc++[(bY T0 B).1]) Zw ⟨hlt,or,dmo hdm,fun k hk=>bBy k hk _ _ _ _,⟨Zw,by simp only[Kw,List.map_cons,Kz,go_sem,reduceIte,jA,jB,jC,jD,reduceCtorEq,jE,jF]⟩,hmk,by dsimp only;rw[Kh];simp only[jL,jM];omega⟩ (by simp only[WkL,aD,jH,jI,jJ,Kh,jL,jM,go_sem,reduceIte,jA,jB,jC,jD,reduceCtorEq,jE,jF])
    rw[if_pos hz] at hmk;have hev:eF (bY T0 B).2= .iface 100 (.int .i64 (bY T0 B).2):=by unfold eF;rw[if_neg hz]
    refine aue (e2 hev hVf) ?_;rw[←hQ,←hRC];refine au ?_;refine aM _ (Kb _) ⟨?_,lef hd hle⟩;rw[hmk];unfold mkR okO;rw[if_neg hz,hev];rfl
   have hc:decide ((j:Int)<(s.ky.length:Int))=false:=dcf;refine aue hc ?_;rw[←hQ];refine au ?_;rw[Kp or] at hmk;simp only[kK] at hmk;rw[←hRC];refine fX (lE (t:=12) (n:=id) (k:= .agg 3) (off:=0) (len:=acc.length) (es:=acc.map Vl.v) rfl hid Zm) ?_;have htk:(KB 0 (acc.map Vl.v)).take acc.length=acc.map Vl.v:=by rw[Ky];exact Ki Zm
   rw[htk];refine au ?_;refine aM _ (Kb _) ⟨?_,?_⟩
   ·rw[hmk];rfl
   refine fun q b e=>?_;have:=hd _ _ e;simp only[Hp.del];rw[if_neg or];exact hle q b e
  rw[if_neg hlr] at aBE;rw[if_pos hlr];subst aBE;have hv6:veq (nW.iface true) (eF 6) V.nilIface=some false:=rfl;refine aue hv6 ?_;refine aM _ (Kb _) ⟨rfl,Hp.same.le (fun k hk=>?_) hd (Kb _)⟩;refine(aDC k or).trans ?_;simp only[Ka];repeat rw[if_neg or]
 simp only[if_neg hi] at C1;rw[if_pos (.inl hi)];have hv:veq (nW.iface true) (eF 1) V.nilIface=some false:=rfl;have f5:zS5.fits (.agg 5)=true:=rfl;have f17:ck.fits (.agg 17)=true:=rfl;generalize zS5=Z5 at*;generalize ck=Z17 at*;refine aue (e4 hPf f5 f17 hv) ?_;exact aM h' (leo hd) ⟨rfl,leo hd⟩
def goB(s:PS)(x:Li)(t:List Vl)(l:List Tr):Option (List Tr)×Int:=
 if s.k=1 then (zO x.a t l,0)
 else if s.k=2 then (if (fU x.a l).2≠0∨mB (fU x.a l).1 t=0 then (none,(fU x.a l).2) else (some l,0))
 else nN l x
def qQ(R:Ru)(ps:List PS)(i:Int)(row t:List Vl):List Vl×Bool×Int:=
 if¬(0≤i∧i<ps.length) then ([],false,1) else if (gO ps i).hv.length≠row.length then ([],false,6) else
 match (goB (gO ps i) (uT R ps i) t (dW (gO ps i).hv row)).1 with
 |none=>([],false,(goB (gO ps i) (uT R ps i) t (dW (gO ps i).hv row)).2)
 |some l=>(lL l (gO ps i).wt,true,0)
def mkX(p:List Vl×Bool×Int):V:= .tup [.sl (.agg 3) (if p.2.1=true then .free else .nil) (p.1.map Vl.v), .bool p.2.1,eF p.2.2]
theorem Cs(p:List Vl×Bool×Int)(L:Nat→Prop):(mkX p).names L:=by
 refine⟨⟨fun n e=>?_,aT (fun x=>Vl.aAK L x) _⟩,trivial,eU L _,trivial⟩;split at e<;>cases e
theorem yA(l:List Tr):∀(ts:List Tr) (acc:List Vl),(kK l acc ts).1.length≤acc.length+ts.length
 | [],acc=>Kq _
 |t::r,acc=>by
  rw[mV];split
  ·simp
  have:=yA l r (acc++[(bY t l).1]);simp only[Kh,jL,jM] at this⊢;omega
theorem yB(a:Am)(l:List Tr):(fU a l).1.length≤a.l.length:=by
 unfold fU;split
 ·simp
 have:=yA l a.l [];simpa using this
theorem zu(R:Ru)(ps:List PS)(hp:rP R ps)(i:Int)(o ot:Own)(row t:List Vl)(ht:t.length≤1000000)(h:Hp):aK Tryz.prog 22 [eA R ps, .int .i64 i,vls o row,vls ot t] h (mkX (qQ R ps i row t)):=by
 refine aH (fun L=>Cs _ L) fun h' nx hh=>aB L.bEy fun hd=>?_;have hd:aS h' nx:=hd;refine ZK ?_;have C1:=fun h=>xM R ps hp.1 (fun s hs=>(hp.2 s hs).li) i h;have hPf:(eA R ps).fits (.agg 7)=true:=by
  obtain⟨oS,hoS⟩:=bQ (.agg 5) (ps.map PS.v);unfold eA;rw[hoS];rfl
 generalize eA R ps=PV at*;unfold qQ l9 at*;by_cases hi:0≤i∧i<ps.length
 ·have hs:=hp.2 _ (iC hi);simp only[if_pos hi] at C1;rw[if_neg (fun e=>e hi)];have e1:ps.getD i.toNat default=gO ps i:=rfl;have e2':R.b.getD (gO ps i).i default=uT R ps i:=rfl;rw[e1,e2'] at C1;have q3:=hs.nd;have q4:=hs.hl;have q5:=hs.wl;have q6:=hs.rl;have q7:=hs.kd;have q8:=hs.al;rw[e2'] at q6 q7 q8;generalize gO ps i=s at*;generalize uT R ps i=x at*;have hsf:=PS.aAA s;have hxf:=Li.aAA x;obtain⟨o2,ho2⟩:=bQ .leaf (s.hv.map V.str);obtain⟨o3,ho3⟩:=bQ .leaf (s.wt.map V.str);obtain⟨T,hT,hk0,hk2,hk3⟩:∃T,s.v= .agg T∧T.getD 0 (.tup [])= .int .i64 s.k∧T.getD 2 (.tup [])= .sl .leaf o2 (s.hv.map V.str)∧T.getD 3 (.tup [])= .sl .leaf o3 (s.wt.map V.str):=⟨_,rfl,rfl,ho2,ho3⟩;obtain⟨X,hX,hat⟩:∃X,x.v= .agg X∧(X.drop 1).take 2=[.str x.a.r,trs x.a.o x.a.l]:=⟨_,rfl,rfl⟩;have hlp:aX (.agg 2) 1 (.agg X)=x.a.v:=congrArg V.agg hat
  have CS:=fun h3 h nx l n es c hm he=>rp l x q6 h3 n es c h nx hm he;rw[hX] at CS C1 hxf;rw[hT] at C1 hsf;have hv:veq (nW.iface true) V.nilIface V.nilIface=some true:=rfl;refine aue (e7 hPf hsf hxf hk0 hk2 hv hlp) ?_;refine bF ((tV o2 o s.hv row q3 q4 _ _).dom.mono ?_);rintro v h2 nx2 aAb ⟨⟨aBE,aDC⟩,hd2,_⟩;unfold cY;dsimp only at aBE aDC;have aAj:Ke nx h' h2:=fun k hk=>by
   rw[aDC k or];simp only[Ka];repeat rw[if_neg or]
  by_cases hlr:s.hv.length=row.length
  ·rw[if_pos hlr] at aBE;rw[if_neg (by simpa using hlr)];obtain⟨m,es,c,rfl,p1,p2,p3,p4⟩:=aBE;refine Zn ?_;have hb1:h2 (nx+1)=some (.arr (.agg 5) [.agg T]):=by rw[aDC (nx+1) or];simp only[go_sem,reduceIte,jA,jB,jC,jD,reduceCtorEq,jE,jF]
   have hb2:h2 (nx+2)=some (.arr (.agg 17) [.agg X]):=by rw[aDC (nx+2) or];simp only[go_sem,reduceIte,jA,jB,jC,jD,reduceCtorEq,jE,jF]
   have n1:nx+1<nx2:=or;have n2:nx+2<nx2:=or;generalize dW s.hv row=B at*;have hml:(fU x.a B).1.length≤1000000000:=by have:=yB x.a B;omega
   obtain⟨RES,aAS⟩:∃r,goB s x t B=r:=⟨_,rfl⟩;rw[aAS];clear aDC C1;rcases qI q6 with hk|hk|hk
   ·rw[←q7] at hk;have g1:(s.k==1)=true:=bqt;refine aue (e9 hv hb1 n1 hsf hk0 g1 hb2 n2 (e2 hlp hxf)) ?_;refine bF ((xp x.a or ot t B m es c h2 nx2 p3 p4).dom.mono ?_);rintro v h3 nx3 aEs ⟨⟨q,aEt⟩,hd3,_⟩;unfold cY;unfold goB at aAS;rw[if_pos hk] at aAS;subst aAS;dsimp only;cases hM:zO x.a t B with
    |none=>
     rw[hM] at q;have q:v= .tup [.aAH, .bool false]:=q;subst q;refine Zn ?_;refine aue hv ?_;exact aU h' (Hp.same.le (fun k hk=>(aEt k or).trans (aAj k hk)) hd (Kb _)) ⟨rfl,rfl⟩
    |some l2=>
     rw[hM] at q;obtain⟨m2,es2,c2,rfl,r1,r2,r3,r4⟩:=q;have C:=xU o3 s.wt q5 l2 m2 es2 c2 h3 r3 r4.at
     have hb3:=(aEt (nx+1) or).trans hb1;have n3:nx+1<nx3:=or;refine Zn ?_;refine aue (e6 hv hb3 n3 hsf hk3 hxf) ?_;refine aI C rfl (aL _) ?_;refine au ?_;exact aU h' (Hp.same.le (fun k hk=>(aEt k or).trans (aAj k hk)) hd (Kb _)) ⟨rfl,rfl⟩
   ·rw[←q7] at hk;have g1:(s.k==1)=false:=bqf;have g2:(s.k==2)=true:=bqt;have C1:=jg x.a B m es c h2 p3 p4.at
    have hve:=rR (fU x.a B).2;unfold goB at aAS;rw[if_neg or,if_pos hk] at aAS;have C2:=fun h=>BW (okO (fU x.a B).2 .free) (fU x.a B).1 t hml (vls ot t) h (.inl ⟨ot,rfl⟩);generalize fU x.a B=P at*;refine aue (e10 hv hb1 n1 hsf hk0 g1 g2 hb2 n2 (e2 hlp hxf)) ?_;refine aI C1 rfl (aL _) ?_;by_cases he:P.2=0
    ·rw[decide_eq_true he] at hve;by_cases hcm:mB P.1 t=0
     ·have g3:(mB P.1 t != 0)=false:=bnf;rw[if_pos (.inr hcm)] at aAS;subst aAS;refine aue (e3 hv hve g3) ?_;exact aU h' (aAj.le hd (Kb _)) ⟨rfl,rfl⟩
     have g3:(mB P.1 t != 0)=true:=bnt;rw[if_neg (by simp[he,hcm])] at aAS;subst aAS;have C:=xU o3 s.wt q5 B m es c h2 p3 p4.at
     refine aue (e7 hv hve g3 hb1 n1 hsf hk3) ?_;refine aI C rfl (aL _) ?_;refine au ?_;exact aU h' (aAj.le hd (Kb _)) ⟨rfl,rfl⟩
    rw[decide_eq_false he] at hve;rw[if_pos (.inl he)] at aAS;subst aAS;refine aue (e2 hv hve) ?_;exact aU h' (aAj.le hd (Kb _)) ⟨rfl,rfl⟩
   rw[←q7] at hk;have g1:(s.k==1)=false:=bqf;have g2:(s.k==2)=false:=bqf;unfold goB at aAS;rw[if_neg or,if_neg or] at aAS;refine aue (e10 hv hb1 n1 hsf hk0 g1 g2 hb2 n2 (e2 hlp hxf)) ?_;refine bF ((CS or h2 nx2 B m es c p3 p4).dom.mono ?_);rintro v h3 nx3 aEs ⟨⟨q,aEt⟩,hd3,_⟩;unfold cY;rw[aAS] at q;obtain⟨r,e⟩:=RES;have hve:=rR e;cases r with
   |none=>
    have q:v= .tup [.aAH, .bool false,eF e]:=q;subst q;refine Zn ?_;by_cases he:e=0
    ·rw[decide_eq_true he] at hve;refine aue (e2 hv hve) ?_;exact aU h' (Hp.same.le (fun k hk=>(aEt k or).trans (aAj k hk)) hd (Kb _)) ⟨rfl,rfl⟩
    rw[decide_eq_false he] at hve;refine aue (e2 hv hve) ?_;exact aU h' (Hp.same.le (fun k hk=>(aEt k or).trans (aAj k hk)) hd (Kb _)) ⟨rfl,rfl⟩
   |some l2=>
    obtain⟨m2,es2,c2,rfl,r1,r2,r3,r4⟩:=q;have C:=xU o3 s.wt q5 l2 m2 es2 c2 h3 r3 r4.at
    have hb3:=(aEt (nx+1) or).trans hb1;have n3:nx+1<nx3:=or;refine Zn ?_;refine aue (e6 hv hb3 n3 hsf hk3 hxf) ?_;refine aI C rfl (aL _) ?_;refine au ?_;exact aU h' (Hp.same.le (fun k hk=>(aEt k or).trans (aAj k hk)) hd (Kb _)) ⟨rfl,rfl⟩
  rw[if_neg hlr] at aBE;rw[if_pos hlr];subst aBE;have hv6:veq (nW.iface true) (eF 6) V.nilIface=some false:=rfl;refine aue hv6 ?_;exact aU h' (aAj.le hd (Kb _)) ⟨rfl,rfl⟩
 simp only[if_neg hi] at C1;rw[if_pos hi];have hv:veq (nW.iface true) (eF 1) V.nilIface=some false:=rfl;have f5:zS5.fits (.agg 5)=true:=rfl;have f17:ck.fits (.agg 17)=true:=rfl;generalize zS5=Z5 at*;generalize ck=Z17 at*;refine aue (e4 hPf f5 f17 hv) ?_;exact aU h' (leo hd) ⟨rfl,rfl⟩
end Go.Proofs.YtgbiopfghdilnaaGreatDoor
namespace Go.Proofs.YtgbiopfghdilnaaGreatDoor
open Go.RowKit Go.Sort
structure PlT(R:Ru)(s:PS):Prop extends PlS R s where
 pre:∃m,s.wt=s.hv++m
 told:s.k=1→∀c∈s.ky,((R.b.getD s.i default).a.l.getD c default).x.size=0∧dL ((R.b.getD s.i default).a.l.getD c default).w=true∨((R.b.getD s.i default).a.l.getD c default).x.size≠0∧((R.b.getD s.i default).a.l.getD c default).x∈s.hv
end Go.Proofs.YtgbiopfghdilnaaGreatDoor
namespace Go.Proofs.YtgbiopfghdilnaaGreatDoor
open Go.RowKit Go.Sort
attribute [local irreducible] IntKind.wrap
theorem l7{s:List ByteArray}:∀{ts:List Tr} {i c:Nat},c∈gB s i ts→i≤c∧∃h:c-i<ts.length,ts[c-i].x.size=0∨ts[c-i].x∈s
 |t::ts,i,c,h=>by
  unfold gB at h;have key:c∈gB s (i+1) ts→i≤c∧∃h:c-i<(t::ts).length,(t::ts)[c-i].x.size=0∨(t::ts)[c-i].x∈s:=fun h=>by
   obtain⟨h1,h2,h3⟩:=l7 h;obtain⟨d,hd⟩:∃d,c-i=d+1:=⟨c-i-1,or⟩;have e:c-(i+1)=d:=or;simp only[e] at h2 h3;simp only[hd];exact⟨or,by simpa using h2,by simpa using h3⟩
  split at h
  ·rename_i hc;rcases Ks.1 h with rfl|h
   ·simp only[Kt];refine⟨Kq _,Zm,?_⟩;simp only[Bool.or_eq_true,decide_eq_true_eq,dE] at hc;exact hc
   exact key h
  exact key h
theorem FH{r:Ru}(hr:bT r=true):rP r.lo (lH r)∧∀s∈lH r,PlT r.lo s:=by
 obtain⟨b1,b2,b3⟩:=cM hr;obtain⟨h8,hok⟩:=FI hr;have aCh:=vY r;have key:∀s∈lH r,PlT r.lo s:=fun s hs=>by
  obtain⟨q1,q2,q3,q4⟩:=hok s hs;obtain⟨i,hi,rfl⟩:=sA r _ _ s hs;have hk:=aCh _ (Kf hi);generalize (cO r)[i]=k at*;generalize hhv:cW r ((cO r).take i) []=hv at*;have hnd:hv.Nodup:=by rw[←hhv];exact pL r _ _ List.nodup_nil
  obtain⟨l,hD,hrl⟩:∃l,r.b.getD k default=l∧bG l=true:=⟨r.b[k],by rw[Kc,Kd hk];rfl,b3 _ (Kf hk)⟩;have hal:=(iL hrl).1;rw[hD] at q2 q3⊢;have hDl:r.lo.b.getD (gU l k hv).i default=l:=hD;have hky:∀c∈(gU l k hv).ky,∃h:c<l.a.l.length,l.a.l[c].x.size=0∨l.a.l[c].x∈hv:=fun c hc=>by
   unfold gU at hc;dsimp only at hc;split at hc
   ·obtain⟨_,h2,h3⟩:=l7 hc;exact⟨h2,h3⟩
   cases hc
  refine⟨⟨hk,hnd,q2,q3,?_,?_,?_,?_,?_⟩,Bo _ _,?_⟩
  ·unfold gU;dsimp only;split
   ·have:=oA hv l.a.l 0;unfold oC;omega
   simp
  ·rw[hDl];exact fun c hc=>(hky c hc).1
  ·rw[hDl];exact hrl
  ·rw[hDl];exact pq hrl k hv
  ·rw[hDl];exact hal
  rw[hDl];intro h1 c hc;obtain⟨hcl,ht⟩:=hky c hc;have e:l.a.l.getD c default=l.a.l[c]:=by rw[Kc,Kd hcl];rfl
  rw[e];have hk1:l.k=1:=by rw[←pq hrl k hv];exact h1
  have hT:dV l.a.l[c]=true:=by
   unfold bG at hrl;rw[if_pos (.inl hk1)] at hrl;unfold fO at hrl;simp only[Bool.and_eq_true,List.all_eq_true] at hrl;exact hrl.1.1.1.2 _ (Kf _)
  by_cases h0:l.a.l[c].x.size=0
  ·refine .inl ⟨h0,?_⟩;unfold dV at hT;rwa [if_pos h0] at hT
  exact .inr ⟨h0,ht.resolve_left h0⟩
 exact⟨⟨or,fun s hs=>have t:=key s hs;⟨t.li,t.nd,t.hl,t.wl,t.kl,t.kc,t.rl,t.kd,t.al⟩⟩,key⟩
end Go.Proofs.YtgbiopfghdilnaaGreatDoor
namespace Go.Proofs.YtgbiopfghdilnaaGreatDoor
open Go.RowKit Go.Sort
attribute [local irreducible] IntKind.wrap
theorem AP{h0:Hp}{x a d c:Nat}{aAF:List Nat}{aAN:List (Option Blk)}{cons:List (Option Con)}{b:Blk}(e:c=a+d)(hd:d∈aAF)(ha:aAN.getD d none=some b)(hu:dD (x+c) cons):oT h0 (x+a) aAF aAN cons (x+c) b:=⟨hu, .inr ⟨d,hd,or,ha⟩⟩
theorem zo{R:Ru}{ps:List PS}{i:Int}{t:List Vl}(hp:rP R ps):(mO R ps i t).1.length≤6:=by
 unfold mO;split
 ·simp
 rename_i h;have hi:0≤i∧i<ps.length:=by simp only[not_or,Classical.not_not] at h;exact h.1
 split
 ·simp
 have:=(hp.2 _ (iC hi)).kl;unfold eM;rw[jK];exact this
theorem zk(o1 o2:Own)(a b:List Vl)(ha:a.length≤1000000000)(h:Hp):aK Tryz.prog 23 [vls o1 a,vls o2 b] h (.bool (decide (a=b))):=by
 refine aH (fun L=>trivial) fun h' nx hh=>aB L.bEo fun hd=>?_;have C1:=fun h=>tC o1 o2 a b ha h;refine ZK ?_;refine au ?_;exact aC h' (leo hd) ⟨rfl,rfl⟩
end Go.Proofs.YtgbiopfghdilnaaGreatDoor
