/-
Texts of this proof,one behind the other. No conditions.
-/
import Derived.Test.YtlhedpgobaellaaGreatDoorKs
import Derived.Test.YtlhedpgobaellaaGreatDoorKk2
open Go.Proofs.YtlhedpgobaellaaGreatDoor.Hp renaming le_refl→Ka,set→Kb,same→Ke
open List renaming getD_eq_getElem?_getD→Kc,getElem?_eq_getElem→Kd,getElem_mem→Kf,drop_eq_getElem_cons→Kg,getD_cons_zero→Kh,length_append→Ki,mem_cons→Kj,drop_of_length_le→Kk,take_of_length_le→Km,set_cons_zero→Kq,not_mem_nil→Kt,cons_append→Kv,append_nil→Ky,length_nil→Kz,map_nil→KC,map→KE
open Nat renaming reduceAdd→Ko,reduceSub→Kp,zero_le→Ks,le_refl→Ku,reduceLeDiff→Kw,reduceEqDiff→Kx,lt_or_ge→KB,reduceLT→KD
open Int renaming reduceToNat→KA
open Nat renaming reduceAdd→jA,reduceSub→jB,reduceLT→jC,reduceLeDiff→jD,reduceEqDiff→jE
open Int renaming reduceToNat→jF,toNat_natCast→jG,natCast_add→jH,natCast_one→jI,natCast_zero→jJ
open List renaming length_map→jK,length_cons→jL,length_nil→jM
set_option linter.all false
set_option maxHeartbeats 8000000
namespace Go.Proofs.YtlhedpgobaellaaGreatDoor
open Go.RowKit Go.Sort
attribute [local irreducible] IntKind.wrap
def kE:List Tr→List Vl→List Tr→Option (List Tr)
 |a::r,v::vs,l=>if a.x.size=0 then (if a.w=v then kE r vs l else none) else
  match lkB a.x l with
  |none=>kE r vs (l++[⟨a.x,v⟩])
  |some w=>if w=v then kE r vs l else none
 |_,_,l=>some l
theorem kK(a:Tr)(r:List Tr)(v:Vl)(vs:List Vl)(l:List Tr):kE (a::r) (v::vs) l=if a.x.size=0 then (if a.w=v then kE r vs l else none) else (match lkB a.x l with
 |none=>kE r vs (l++[⟨a.x,v⟩])
 |some w=>if w=v then kE r vs l else none):=rfl
def gY(a:Am)(t:List Vl)(l:List Tr):Option (List Tr):=if a.l.length≠t.length then none else kE a.l t l
def Il(r:Option (List Tr))(nx:Nat)(v:V)(h':Hp)(nx':Nat):Prop:=match r with
 |none=>v= .tup [.aAG, .bool false]
 |some l=>∃n es c,v= .tup [.map n, .bool true]∧nx≤n∧n<nx'∧h' n=some (.mp es c)∧sI es c l
theorem zZ(a:Am)(ha:a.l.length≤1000000)(o:Own)(t:List Vl)(l:List Tr)(n:Nat)(es:List ME)(c:Nat)(h:Hp)(nx:Nat)(hm:h n=some (.mp es c))(he:sI es c l):
 aR Tryz.prog 80 [a.v,vls o t, .map n] h nx fun v h' nx'=>Il (gY a t l) nx v h' nx'∧∀k,k<nx→h' k=h k:=by
 refine aB L.bAz fun hd=>?_;have hd:aS h nx:=hd;obtain⟨ar,ao,ts⟩:=a;have ha:ts.length≤1000000:=ha;refine ZK ?_;have hn2:n<nx:=hd _ _ hm;unfold gY;dsimp only;by_cases hne:ts.length=t.length
 ·have g:((ts.length:Int) != (t.length:Int))=false:=bnf;rw[if_neg (by simpa using hne)];refine aue (e5 Am.v.eq_1 trs.eq_1 g (@jK Tr V) (@jK Vl V)) ?_;refine aV ((oD n es c l he _ _ ?_).dom.mono ?_)
  ·simp only[hm,hn2,go_sem,reduceIte,jA,jB,jC,jD,reduceCtorEq,jE,jF]
  rintro v h2 nx2 hle ⟨⟨m,es2,c2,rfl,q1,q2,q3,q4,q5⟩,hd2,_⟩;unfold bW;dsimp only at q1 q5;refine Zn ?_;have hb0:h2 nx=some (.arr (.agg 2) [.agg [.str ar, .sl (.agg 4) ao (ts.map Tr.v)]]):=by rw[q5 nx or];simp only[go_sem,reduceIte,jA,jB,jC,jD,reduceCtorEq,jE,jF]
  have hk2:∀k,k<nx→h2 k=h k:=fun k hk=>by
   rw[q5 k or];simp only[Kb];rw[if_neg or]
  obtain⟨RES,aAi⟩:∃R,kE ts t l=R:=⟨_,rfl⟩;rw[aAi];have n0:nx<nx2:=or;refine aue (e5 Am.v.eq_1 trs.eq_1 hb0 n0 (@jK Tr V)) ?_
  refine aP (fun q:Nat×List Tr=>aD 60 0 [(1,vls o t),(6, .aAG),(7, .bool false),(8, .map m),(22, .sl (.agg 4) ao (ts.map Tr.v)),(23, .int .i64 ts.length),(24, .int .i64 q.1)])
   (fun q hp nx1=>q.1≤ts.length∧m<nx1∧aS hp nx1∧(∀k,k<nx→hp k=h k)∧(∃es c,hp m=some (.mp es c)∧sI es c q.2)∧RES=kE (ts.drop q.1) (t.drop q.1) q.2)
   (fun q=>ts.length-q.1) (0,l) ⟨Ks _,q2,hd2,hk2,⟨es2,c2,q3,q4⟩,aAi.symm⟩ (by simp only[WkL,aD,jH,jI,jJ,jK,go_sem,reduceIte,jA,jB,jC,jD,reduceCtorEq,jE,jF]) ?_
  clear hk2 hb0 q5 q3 q4 n0 hd2 aAi;rintro⟨i,L⟩ hp nx1 ⟨hi,hnx,hdm,hsm,⟨es,c,hmp,aDw⟩,hmt⟩;generalize hQ:aZ _ _ _ _ _=Q0;dsimp only at hi aDw hmt;refine Zk ?_;rcases KB i ts.length with hlt|hge
  ·have hlv:i<t.length:=or;have hc:decide ((i:Int)<(ts.length:Int))=true:=dct;have hg:=aL Tr.v ts i hlt;have hg2:=aL Vl.v t i hlv;have hw:IntKind.i64.wrap ((i:Int)+1)=((i+1:Nat):Int):=wrp;rw[Kg hlt,Kg hlv] at hmt;rw[kK] at hmt;generalize ts[i]=T at*;generalize t[i]=w at*;have hTf:=Tr.aAC T;have hwf:=Vl.aAC w;have hWf:=Vl.aAC T.w;have hT:T.v= .agg [.str T.x, .int .i64 T.w.k, .int .i64 T.w.n, .str T.w.s]:=rfl;have hTw:V.agg [.int .i64 T.w.k, .int .i64 T.w.n, .str T.w.s]=T.w.v:=rfl;have z0:=vT T.x;have hv:=pg T.w w;have stay:∀(sl:List V) (hp2:Hp) (aOy:Nat),RES=kE (ts.drop (i+1)) (t.drop (i+1)) L→nx1≤aOy→aS hp2 aOy→(∀k,k<nx1→hp2 k=hp k)→WkL sl (aD 60 0 [(1,vls o t),(6, .aAG),(7, .bool false),(8, .map m),(22, .sl (.agg 4) ao (ts.map Tr.v)),(23, .int .i64 ts.length),(24, .int .i64 ((i+1:Nat):Int))])→Q0 .normal ⟨sl,hp2,aOy⟩:=by
    intro sl hp2 aOy e h1 h2 h3 h4;rw[←hQ];exact aF (i+1,L) Zw ⟨hlt,or,h2,fun k hk=>(h3 k or).trans (hsm k hk),⟨es,c,(h3 m hnx).trans hmp,aDw⟩,e⟩ h4
   by_cases hs:T.x.size=0
   ·rw[decide_eq_true hs] at z0;rw[if_pos hs] at hmt;by_cases hw2:T.w=w
    ·rw[if_pos hw2] at hmt;rw[decide_eq_true hw2] at hv;refine aue (e12 hc hg hg2 hlt hlv hTf hwf hT hWf hTw z0 (e5 hv (@jK Tr V) (@jK Vl V) jG hw)) ?_;exact stay _ _ _ hmt or (dmo hdm) (fun k hk=>by simp only[Kb];repeat rw[if_neg or]) (by simp only[WkL,aD,jH,jI,jJ,go_sem,reduceIte,jA,jB,jC,jD,reduceCtorEq,jE,jF])
    rw[if_neg hw2] at hmt;rw[decide_eq_false hw2] at hv;refine aue (e12 hc hg hg2 hlt hlv hTf hwf hT hWf hTw z0 (e5 hv (@jK Tr V) (@jK Vl V) jG hw)) ?_;rw[←hQ];refine au ?_;rw[hmt];refine aN _ (Ka _) ⟨rfl,fun k hk=>?_⟩;refine Eq.trans ?_ (hsm k hk);simp only[Kb];repeat rw[if_neg or]
   rw[decide_eq_false hs] at z0;rw[if_neg hs] at hmt;have hx:=aDw.at T.x;have n3:m<nx1:=hnx;cases k:lkB T.x L with
   |some w2=>
    rw[k] at hmt hx;obtain⟨j,hj1,hj2,hj3⟩:=hx;have hg0:jW true (.agg [.int .i64 0, .int .i64 0, .str ⟨#[]⟩]) es (some j)= .tup [w2.v, .bool true]:=by rw[←hj2];rfl
    have aXd:=Vl.aAC w2;have hv2:=pg w2 w;dsimp only at hmt;by_cases hw2:w2=w
    ·rw[if_pos hw2] at hmt;rw[decide_eq_true hw2] at hv2;refine aue (e14 hc hg hg2 hlt hlv hTf hwf hT hWf hTw z0 hmp n3 (e8 hv2 (@jK Tr V) (@jK Vl V) jG hw hj1 hg0 aXd)) ?_;exact stay _ _ _ hmt or (dmo hdm) (fun k hk=>by simp only[Kb];repeat rw[if_neg or]) (by simp only[WkL,aD,jH,jI,jJ,go_sem,reduceIte,jA,jB,jC,jD,reduceCtorEq,jE,jF])
    rw[if_neg hw2] at hmt;rw[decide_eq_false hw2] at hv2;refine aue (e14 hc hg hg2 hlt hlv hTf hwf hT hWf hTw z0 hmp n3 (e8 hv2 (@jK Tr V) (@jK Vl V) jG hw hj1 hg0 aXd)) ?_;rw[←hQ];refine au ?_;rw[hmt];refine aN _ (Ka _) ⟨rfl,fun k hk=>?_⟩;refine Eq.trans ?_ (hsm k hk);simp only[Kb];repeat rw[if_neg or]
   |none=>
    rw[k] at hmt hx;have hg0:jW true (.agg [.int .i64 0, .int .i64 0, .str ⟨#[]⟩]) es none= .tup [.agg [.int .i64 0, .int .i64 0, .str ⟨#[]⟩], .bool false]:=rfl;dsimp only at hmt;refine aue (e14 hc hg hg2 hlt hlv hTf hwf hT hWf hTw z0 hmp n3 (e6 (@jK Tr V) (@jK Vl V) jG hw hx hg0)) ?_;refine mK (es:=es) (c:=c) (n:=m) rfl rfl (by simp only[hmp,n3,(fls:(m=nx1)=False),(fls:(m=nx1+2)=False),go_sem,reduceIte,jA,jB,jC,jD,reduceCtorEq,jE,jF]) hx ?_;refine Zn ?_;refine aue hw ?_;rw[←hQ];refine aF (i+1,L++[⟨T.x,w⟩]) Zw ⟨hlt,or,dmo hdm,fun k hk=>?_,⟨_,_,by simp only[go_sem,reduceIte,jA,jB,jC,jD,reduceCtorEq,jE,jF],aDw.add ⟨T.x,w⟩ k⟩,hmt⟩ (by simp only[WkL,aD,jH,jI,jJ,go_sem,reduceIte,jA,jB,jC,jD,reduceCtorEq,jE,jF]);refine Eq.trans ?_ (hsm k hk);simp only[Kb];repeat rw[if_neg or]
  have hc:decide ((i:Int)<(ts.length:Int))=false:=dcf;rw[Kk or] at hmt;refine aue hc ?_;rw[←hQ];refine au ?_;rw[hmt];exact aN hp (Ka _) ⟨⟨m,es,c,rfl,or,hnx,hmp,aDw⟩,hsm⟩
 have g:((ts.length:Int) != (t.length:Int))=true:=bnt;rw[if_pos hne];refine aue (e5 Am.v.eq_1 trs.eq_1 g (@jK Tr V) (@jK Vl V)) ?_;refine aN _ (Ka _) ⟨rfl,fun k hk=>?_⟩;simp only[Kb];rw[if_neg or]
theorem pw{t u w:Nat}{k1 k2:Sh}{n1 n2:Nat}{x1 x2:V}{R:V→Hp→Nat→Prop}{s:St}(h1:s.sl.getD t V.undef= .ptr n1 k1 0 0)(h2:s.sl.getD u V.undef= .ptr n2 k2 0 0)(m1:s.h n1=some (.arr k1 [x1]))(m2:s.h n2=some (.arr k2 [x2]))(f1:x1.fits k1=true)(f2:x2.fits k2=true)
 (h':Hp) (hle:h'.le s.h) (hR:R (.tup [x1,x2,s.sl.getD w V.undef]) h' s.nx):rM [.cell t k1, .cell u k2, .slot w] R .ret s:=by
 simp only[rM,lT,zF.sem,aW.sem,aK.ev,h1,h2,m1,m2];refine⟨?_,Zm,eL _,?_,Zm,eL _,h',hle,?_⟩
 ·trivial
 ·trivial
 have e1:=bI f1;have e2:=bI f2;simp only[Kh,e1,e2];exact hR
def zS5:V:= .agg [.int .i64 0, .int .i64 0, .sl .leaf .nil [], .sl .leaf .nil [], .sl .leaf .nil []]
def pd:V:= .agg [.int .i64 0, .str ⟨#[]⟩, .sl (.agg 4) .nil [], .int .i64 0, .int .i64 0, .str ⟨#[]⟩, .int .i64 0, .int .i64 0, .str ⟨#[]⟩, .sl (.agg 6) .nil [], .int .i64 0, .str ⟨#[]⟩, .int .i64 0, .int .i64 0, .str ⟨#[]⟩, .sl (.agg 6) .nil [], .int .i64 0]
def stF(nx:Nat)(oS:Own)(PL:List V)(oB:Own)(BL:List V)(k si:Nat)(S X:V):List (Nat×Nat×V):=[(0,19, .ptr nx (.agg 7) 0 6),(1,20, .sl (.agg 5) oS PL),(2,21, .int .i64 k),(3,22, .ept (.agg 5) PL k 0),(4,23,S),(5,24, .ptr nx (.agg 7) 0 0),(6,25, .ptr nx (.agg 7) 0 4),(7,26, .sl (.agg 17) oB BL),(8,27, .ptr nx (.agg 7) 0 6),(9,28, .sl (.agg 5) oS PL),(10,29, .int .i64 k),(11,30, .ept (.agg 5) PL k 0),(12,31, .ept (.agg 5) PL k 1),(13,32, .int .i64 si),(14,33, .ept (.agg 17) BL si 0),(15,34,X),(18,6, .nilIface)]
def stX(nx k:Nat):List (Nat×V):=[(1, .int .i64 k),(2, .ptr nx (.agg 7) 0 0),(4, .ptr (nx+1) (.agg 5) 0 0),(5, .ptr (nx+2) (.agg 17) 0 0)]
structure StR(A:Hp)(nx:Nat)(oS:Own)(PL:List V)(oB:Own)(BL:List V)(k si:Nat)(S X:V)(D:Nat→Bool)(s:St):Prop where
 sl:RG (stF nx oS PL oB BL k si S X) (stX nx k) 35 D s.sl
 h1:s.h (nx+1)=some (.arr (.agg 5) [if D 16=true then S else zS5])
 h2:s.h (nx+2)=some (.arr (.agg 17) [if D 17=true then X else pd])
 ho:∀x,x≠nx+1→x≠nx+2→s.h x=A x
theorem StR.go{A:Hp}{nx:Nat}{oS:Own}{PL:List V}{oB:Own}{BL:List V}{k si:Nat}{S X:V}{D:Nat→Bool}{sl:List V}{h:Hp}{n:Nat}(r:StR A nx oS PL oB BL k si S X D ⟨sl,h,n⟩)(i t:Nat)(v:V)(m:Nat)(ht:t<35:=by decide)(hF:∀f∈stF nx oS PL oB BL k si S X,(f.1=i∨f.2.1=t)→f=(i,t,v):=by simp[stF])(hx:∀p∈stX nx k,p.1≠t:=by simp[stX])(h16:i≠16:=by decide)(h17:i≠17:=by decide):
 StR A nx oS PL oB BL k si S X (fun j=>if j=i then true else D j) ⟨sl.set t v,h,m⟩:=
 ⟨r.sl.slot i t v ht hF hx,by rw[if_neg h16.symm];exact r.h1,by rw[if_neg h17.symm];exact r.h2,r.ho⟩
def ta(R:Ru)(ps:List PS)(i:Int):V:=if 0≤i∧i<ps.length then .tup [(ps.getD i.toNat default).v,(R.b.getD (ps.getD i.toNat default).i default).v, .nilIface] else .tup [zS5,pd,dC 1]
theorem k8(R:Ru)(ps:List PS)(hp:ps.length≤1000)(hok:∀s∈ps,s.i<R.b.length)(i:Int)(h:Hp):aM Tryz.prog 78 [dH R ps, .int .i64 i] h (ta R ps i):=by
 refine oY (fun L hL=>?_) fun h' nx hh=>aB L.bA1 fun hd=>?_
 ·have hR:bM L (R.b.map Li.v):=by
   have:=hL.1;simp only[dH,V.names,bM] at this;exact this.2.2.2.2.1.2
  unfold ta;split
  ·rename_i hi;have hlt:i.toNat<ps.length:=or;have hD:ps.getD i.toNat default=ps[i.toNat]:=by rw[Kc,Kd hlt];rfl
   have hsi:=hok ps[i.toNat] (Kf _);rw[hD];generalize ps[i.toNat]=s at*;have hD2:R.b.getD s.i default=R.b[s.i]:=by rw[Kc,Kd hsi];rfl
   rw[hD2];exact⟨⟨trivial,trivial,cV (fun L=>bF (f:=V.str) (fun _=>trivial) _) L,cV (fun L=>bF (f:=V.str) (fun _=>trivial) _) L,cV (fun L=>bF (f:=kV) (fun _=>trivial) _) L,trivial⟩,iM.1 hR _ (List.mem_map.2 ⟨_,Kf _,rfl⟩),trivial,trivial⟩
  simp[zS5,pd,V.names,bM,dS]
 have hd:aS h' nx:=hd;obtain⟨oS,hoS⟩:=bX (.agg 5) (ps.map PS.v);unfold dH ta;rw[hoS];refine ZK ?_;by_cases hi:0≤i∧i<ps.length
 ·have g1:decide (i<0)=false:=dcf;have g2:decide ((ps.length:Int)≤i)=false:=dcf;have g3:decide (i≥(ps.length:Int))=false:=dcf;rw[if_pos hi];obtain⟨k,hk⟩:∃k:Nat,i=k:=⟨i.toNat,or⟩;subst hk;have hk:k<ps.length:=or;rw[jG];have hg:=aL PS.v ps k hk;have hD:ps.getD k default=ps[k]:=by rw[Kc,Kd hk];rfl
  have hsi:=hok ps[k] (Kf _);rw[hD];generalize ps[k]=s at*;have hg2:=aL Li.v R.b s.i hsi;have hD2:R.b.getD s.i default=R.b[s.i]:=by rw[Kc,Kd hsi];rfl
  rw[hD2];generalize R.b[s.i]=x at*;have hsf:=PS.aAC s;have hxf:=Li.aAC x;have hs1:s.v.cell 1= .int .i64 s.i:=rfl;generalize s.v=S at*;generalize x.v=X at*;generalize s.i=s0i at*;refine aue (e14 g1 g2 g3 hg hk hsf hxf hs1 hg2 hsi trs.eq_1 (@jK PS V) (@jK Li V) jG) ?_;obtain⟨PA,hPA⟩:∃PA,[V.agg [V.str R.h.r,V.sl (Sh.agg 4) R.h.o (KE Tr.v R.h.l),V.int IntKind.i64 R.g,V.int IntKind.i64 R.c,V.sl (Sh.agg 17) R.o (KE Li.v R.b),V.int IntKind.i64 R.at_,V.sl (Sh.agg 5) oS (KE PS.v ps)]]=PA:=⟨_,rfl⟩;rw[hPA];generalize hA:Kb _ _ _=A;have a0:A nx=some (.arr (.agg 7) PA):=by rw[←hA];simp only[go_sem,reduceIte,jA,jB,jC,jD,reduceCtorEq,jE,jF]
  have a1:A (nx+1)=some (.arr (.agg 5) [zS5]):=by rw[←hA];simp only[go_sem,reduceIte,jA,jB,jC,jD,reduceCtorEq,jE,jF];rfl
  have a2:A (nx+2)=some (.arr (.agg 17) [pd]):=by rw[←hA];simp only[go_sem,reduceIte,jA,jB,jC,jD,reduceCtorEq,jE,jF];rfl
  have hle:∀x,x<nx→A x=h' x:=fun x hx=>by rw[←hA];simp only[Kb];repeat rw[if_neg or]
  clear hA;have hp4:(PA.getD 0 (.tup [])).cell 4= .sl (.agg 17) R.o (R.b.map Li.v):=by rw[←hPA];rfl
  have hp6:(PA.getD 0 (.tup [])).cell 6= .sl (.agg 5) oS (ps.map PS.v):=by rw[←hPA];rfl
  have hp1:PA.length=1:=by rw[←hPA];rfl
  clear hPA;have hgS:=hg;have hml:(ps.map PS.v).length=ps.length:=jK ..;have aEf:(R.b.map Li.v).length=R.b.length:=jK ..;generalize ps.map PS.v=PL at*;generalize R.b.map Li.v=BL at*;have l6:bB .leaf 6 (PA.getD 0 V.undef)= .sl (.agg 5) oS PL:=hp6;have l4:bB .leaf 4 (PA.getD 0 V.undef)= .sl (.agg 17) R.o BL:=hp4;have lS:bB (.agg 5) 0 (PL.getD k V.undef)=S:=by rw[show PL.getD k V.undef=S from hg];exact bI hsf
  have lI:bB .leaf 1 (PL.getD k V.undef)= .int .i64 s0i:=by rw[show PL.getD k V.undef=S from hg];exact hs1
  have lX:bB (.agg 17) 0 (BL.getD s0i V.undef)=X:=by rw[show BL.getD s0i V.undef=X from hg2];exact bI hxf
  refine pE ?_;refine⟨fun D s=>StR A nx oS PL R.o BL k s0i S X D s,⟨⟨rfl,?_,fun f _ e=>by cases e⟩,a1,a2,fun _ _ _=>rfl⟩,?_,?_⟩
  ·intro p hp;simp only[stX,Kj,Kt,or_false] at hp;rcases hp with rfl|rfl|rfl|rfl<;>rfl
  ·rintro D i oo aAF ⟨sl,hq,n2⟩ hi hDi aAv hcl r;have x1:=r.sl.fx (1, .int .i64 k) (by simp[stX]);have x2:=r.sl.fx (2, .ptr nx (.agg 7) 0 0) (by simp[stX]);have x4:=r.sl.fx (4, .ptr (nx+1) (.agg 5) 0 0) (by simp[stX]);have x5:=r.sl.fx (5, .ptr (nx+2) (.agg 17) 0 0) (by simp[stX]);have y:∀f∈stF nx oS PL R.o BL k s0i S X,f.1∈aAF→sl.getD f.2.1 V.undef=f.2.2:=fun f hf hd=>r.sl.dn f hf (aAv _ hd);have h0:hq nx=some (.arr (.agg 7) PA):=(r.ho nx or or).trans a0;have r1:=r.h1;have r2:=r.h2;dsimp only at x1 x2 x4 x5 r1 r2;rcases i with _|_|_|_|_|_|_|_|_|_|_|_|_|_|_|_|_|_|_|i;all_goals first|(injection hi with hi;injection hi with q1 q2;subst q1;subst q2)|skip
   all_goals simp only[stF,Kj,Kt,or_false,forall_eq_or_imp,forall_eq,jE,reduceCtorEq,false_implies,implies_true,true_or,or_true,true_implies,and_true,true_and] at y
   all_goals simp only[aY,LOp.run,LOp.sem,aW.sem,aK.ev,bL,x1,x2,x4,x5,y,h0,V.pick,l4,l6,lS,lI,lX,jG]
   ·exact r.go 0 19 _ _
   ·exact⟨trivial,or,by simp[cA],r.go 1 20 _ _⟩
   ·exact r.go 2 21 _ _
   ·exact⟨trivial,or,or,r.go 3 22 _ _⟩
   ·exact⟨or,eL _,r.go 4 23 _ _⟩
   ·exact r.go 5 24 _ _
   ·exact r.go 6 25 _ _
   ·exact⟨trivial,or,by simp[cA],r.go 7 26 _ _⟩
   ·exact r.go 8 27 _ _
   ·exact⟨trivial,or,by simp[cA],r.go 9 28 _ _⟩
   ·exact r.go 10 29 _ _
   ·exact⟨trivial,or,or,r.go 11 30 _ _⟩
   ·exact r.go 12 31 _ _
   ·exact⟨or,by simp[cA],r.go 13 32 _ _⟩
   ·exact⟨trivial,or,or,r.go 14 33 _ _⟩
   ·exact⟨or,eL _,r.go 15 34 _ _⟩
   ·rw[if_neg (by rw[hDi];simp)] at r1;rw[r1];refine⟨rfl,Zm,eL _,hsf,r.sl.none 16 (by simp[stF]),?_,?_,fun x q1 q2=>?_⟩
    ·simp only[Kb,if_true,Kh,Kq];rw[gF (show zS5.fits (.agg 5)=true from rfl) hsf]
    ·simp only[Kb];rw[if_neg or];exact r2
    simp only[Kb];rw[if_neg q1];exact r.ho x q1 q2
   ·rw[if_neg (by rw[hDi];simp)] at r2;rw[r2];refine⟨rfl,Zm,eL _,hxf,r.sl.none 17 (by simp[stF]),?_,?_,fun x q1 q2=>?_⟩
    ·simp only[Kb];rw[if_neg or];exact r1
    ·simp only[Kb,if_true,Kh,Kq];rw[gF (show pd.fits (.agg 17)=true from rfl) hxf]
    simp only[Kb];rw[if_neg q2];exact r.ho x q1 q2
   ·exact r.go 18 6 _ _
   simp[L.aEm] at hi
  rintro D ⟨sl,H,n2⟩ hD r;have d:=fun i (h:i<19)=>hD i h;have x6:=r.sl.dn (18,6, .nilIface) (by simp[stF]) (d 18 or);have x4:=r.sl.fx (4, .ptr (nx+1) (.agg 5) 0 0) (by simp[stX]);have x5:=r.sl.fx (5, .ptr (nx+2) (.agg 17) 0 0) (by simp[stX]);have r1:=r.h1;have r2:=r.h2;have ro:=r.ho;rw[if_pos (d 16 or)] at r1;rw[if_pos (d 17 or)] at r2;dsimp only at x4 x5 x6 r1 r2 ro;refine bQ ?_;refine aX ?_;refine dM ?_;refine pw x4 x5 r1 r2 hsf hxf h' (fun m b e=>?_) ⟨?_,rfl⟩
  ·have:=hd _ _ e;exact((ro m or or).trans (hle m this)).trans e
  rw[x6]
 rw[if_neg hi];by_cases h0:i<0
 ·have g1:decide (i<0)=true:=dct;refine aue (e3 g1 trs.eq_1 (@jK PS V)) ?_;exact pw (n1:=nx+1) (n2:=nx+2) rfl rfl (by simp only[go_sem,reduceIte,jA,jB,jC,jD,reduceCtorEq,jE,jF];rfl) (by simp only[go_sem,reduceIte,jA,jB,jC,jD,reduceCtorEq,jE,jF];rfl) rfl rfl h' (leo hd) ⟨rfl,rfl⟩
 have g1:decide (i<0)=false:=dcf;have g2:decide ((ps.length:Int)≤i)=true:=dct;have g3:decide (i≥(ps.length:Int))=true:=dct;refine aue (e5 g1 g2 g3 trs.eq_1 (@jK PS V)) ?_;exact pw (n1:=nx+1) (n2:=nx+2) rfl rfl (by simp only[go_sem,reduceIte,jA,jB,jC,jD,reduceCtorEq,jE,jF];rfl) (by simp only[go_sem,reduceIte,jA,jB,jC,jD,reduceCtorEq,jE,jF];rfl) rfl rfl h' (leo hd) ⟨rfl,rfl⟩
structure PlS(R:Ru)(s:PS):Prop where
 li:s.i<R.b.length
 nd:s.hv.Nodup
 hl:s.hv.length≤1000000000
 wl:s.wt.length≤1000000000
 kl:s.ky.length≤6
 kc:∀c∈s.ky,c<(R.b.getD s.i default).a.l.length
 rl:bO (R.b.getD s.i default)=true
 kd:s.k=(R.b.getD s.i default).k
 al:(R.b.getD s.i default).a.l.length≤6
def DI(R:Ru)(ps:List PS):Prop:=ps.length≤1000∧∀s∈ps,PlS R s
def dW(ps:List PS)(i:Int):PS:=ps.getD i.toNat default
def nJ(R:Ru)(ps:List PS)(i:Int):Li:=R.b.getD (dW ps i).i default
def CK(R:Ru)(ps:List PS)(i:Int):List Tr:=(dW ps i).ky.map fun c=>(nJ R ps i).a.l.getD c default
def pG(R:Ru)(ps:List PS)(i:Int)(row:List Vl):List Vl×Int:=
 if¬(0≤i∧i<ps.length)∨(dW ps i).k=3 then ([],1) else if (dW ps i).hv.length≠row.length then ([],6) else iS (nM (dW ps i).hv row) [] (CK R ps i)
def mkR(p:List Vl×Int):V:= .tup [.sl (.agg 3) (okO p.2 .free) (p.1.map Vl.v),dC p.2]
theorem mt(p:List Vl×Int)(L:Nat→Prop):(mkR p).names L:=aa _ _ L
theorem db{ps:List PS}{i:Int}(h:0≤i∧i<ps.length):dW ps i∈ps:=by
 unfold dW;rw[Kc,Kd or];exact Kf _
theorem zi(R:Ru)(ps:List PS)(hp:DI R ps)(i:Int)(o:Own)(row:List Vl)(h:Hp):aM Tryz.prog 32 [dH R ps, .int .i64 i,vls o row] h (mkR (pG R ps i row)):=by
 refine gJ (fun L=>mt _ L) fun h' nx hh=>aB L.bBd fun hd=>?_;have hd:aS h' nx:=hd;refine ZK ?_;have C1:=fun h=>k8 R ps hp.1 (fun s hs=>(hp.2 s hs).li) i h;have hPf:(dH R ps).fits (.agg 7)=true:=by
  obtain⟨oS,hoS⟩:=bX (.agg 5) (ps.map PS.v);unfold dH;rw[hoS];rfl
 generalize dH R ps=PV at*;unfold pG ta at*;by_cases hi:0≤i∧i<ps.length
 ·have hs:=hp.2 _ (db hi);simp only[if_pos hi] at C1;have e1:ps.getD i.toNat default=dW ps i:=rfl;have e2':R.b.getD (dW ps i).i default=nJ R ps i:=rfl;rw[e1,e2'] at C1;have q1:=hs.kl;have q2:=hs.kc;have q3:=hs.nd;have q4:=hs.hl;rw[e2'] at q2;unfold CK;generalize dW ps i=s at*;generalize nJ R ps i=x at*;have hsf:=PS.aAC s;have hxf:=Li.aAC x;obtain⟨o2,ho2⟩:=bX .leaf (s.hv.map V.str);obtain⟨o5,ho5⟩:=bX .leaf (s.ky.map kV);obtain⟨T,hT,hk0,hk2,hk4⟩:∃T,s.v= .agg T∧T.getD 0 (.tup [])= .int .i64 s.k∧T.getD 2 (.tup [])= .sl .leaf o2 (s.hv.map V.str)∧T.getD 4 (.tup [])= .sl .leaf o5 (s.ky.map kV):=⟨_,rfl,rfl,ho2,ho5⟩;obtain⟨X,hX,hx2⟩:∃X,x.v= .agg X∧X.getD 2 (.tup [])= .sl (.agg 4) x.a.o (x.a.l.map Tr.v):=⟨_,rfl,rfl⟩;rw[hT] at C1 hsf;rw[hX] at C1 hxf;have hv:veq (pO.iface true) V.nilIface V.nilIface=some true:=rfl;by_cases hk3:s.k=3
  ·have g1:(s.k==3)=true:=bqt;rw[if_pos (.inr hk3)];refine aue (e7 hPf hsf hxf hk0 hx2 hv g1) ?_;exact aN h' (leo hd) ⟨rfl,leo hd⟩
  have g1:(s.k==3)=false:=bqf;rw[if_neg (by simp[hi,hk3])];refine aue (e10 hPf hsf hxf hk0 hk2 hk4 hx2 hv g1 (@jK Nat V)) ?_;refine aV ((uY o2 o s.hv row q3 q4 _ _).dom.mono ?_);rintro v h2 nx2 aAS ⟨⟨aA1,aC7⟩,hd2,_⟩;unfold bW;dsimp only at aA1 aC7;by_cases hlr:s.hv.length=row.length
  ·rw[if_pos hlr] at aA1;rw[if_neg (by simpa using hlr)];obtain⟨m,es,c,rfl,p1,p2,p3,p4⟩:=aA1;refine Zn ?_;have hb1:h2 (nx+1)=some (.arr (.agg 5) [.agg T]):=by rw[aC7 (nx+1) or];simp only[go_sem,reduceIte,jA,jB,jC,jD,reduceCtorEq,jE,jF]
   have hb2:h2 (nx+2)=some (.arr (.agg 17) [.agg X]):=by rw[aC7 (nx+2) or];simp only[go_sem,reduceIte,jA,jB,jC,jD,reduceCtorEq,jE,jF]
   have aBl:Ke nx h' h2:=fun k hk=>by
    rw[aC7 k or];simp only[Kb];repeat rw[if_neg or]
   have n1:nx+1<nx2:=or;have n2:nx+2<nx2:=or;have hcap:s.ky.length*32≤140737488355328:=or;obtain⟨KT,hKT⟩:∃KT,s.ky.map (fun c=>x.a.l.getD c default)=KT:=⟨_,rfl⟩;have hKl:KT.length=s.ky.length:=by rw[←hKT,jK]
   rw[hKT];generalize nM s.hv row=B at*;have hpa:=p4.at
   refine aue (e11 hv hb1 hb2 n1 n2 hk4 hsf hcap (@jK Nat V) jG hx2) ?_;generalize hRC:mD (lwp Tryz.prog _) _=RC
   refine aP (fun q:Nat×Nat×List Vl=>aD 73 0 [(6, .sl (.agg 3) .nil []),(7, .nilIface),(9, .ptr (nx+2) (.agg 17) 0 0),(11, .map m),(12, .rs q.2.1 (.agg 3) 0 q.2.2.length),(47, .sl .leaf o5 (s.ky.map kV)),(48, .int .i64 s.ky.length),(49, .int .i64 q.1)])
    (fun q hp nx1=>q.1≤s.ky.length∧nx2<nx1∧aS hp nx1∧(∀k,k<nx2→hp k=h2 k)∧(nx2≤q.2.1∧hp q.2.1=some (.arr (.agg 3) (q.2.2.map Vl.v)))∧iS B [] KT=iS B q.2.2 (KT.drop q.1)∧q.2.2.length≤q.1)
    (fun q=>s.ky.length-q.1) (0,nx2,[]) ⟨Ks _,Zw,by exact dmo hd2,fun k hk=>by simp only[Kb];rw[if_neg or],⟨Ku _,by simp only[KC,go_sem,reduceIte,jA,jB,jC,jD,reduceCtorEq,jE,jF]⟩,rfl,Ks _⟩ (by simp only[WkL,aD,jH,jI,jJ,jM,jK,go_sem,reduceIte,jA,jB,jC,jD,reduceCtorEq,jE,jF]) ?_
   rintro⟨j,id,acc⟩ hp nx1 ⟨hj,hnx,hdm,hsm,⟨aG7,hid⟩,hmk,hlen⟩;generalize hQ:aZ _ _ _ _ _=Q0;dsimp only at hj hid hmk hlen aG7;refine Zk ?_;have aC8:id<nx1:=hdm _ _ hid;have aZT:=(hsm (nx+2) n2).trans hb2;have hme:=(hsm m p2).trans p3;have m2:nx+2<nx1:=or;have mm:m<nx1:=or;have aDr:Ke nx h' hp:=fun k hk=>(hsm k or).trans (aBl k hk);have hle:=aDr.le hd (Ka _);rcases KB j s.ky.length with hlt|hge
   ·have hc:decide ((j:Int)<(s.ky.length:Int))=true:=dct;have hg:=aL kV s.ky j hlt;have hw:IntKind.i64.wrap ((j:Int)+1)=((j+1:Nat):Int):=wrp;have hkc:=q2 s.ky[j] (Kf _);have hdr:KT.drop j=x.a.l[s.ky[j]]::KT.drop (j+1):=by
     rw[Kg or];congr 1;simp only[←hKT,List.getElem_map];rw[Kc,Kd hkc];rfl
    rw[hdr] at hmk;have hg2:=aL Tr.v x.a.l s.ky[j] hkc;generalize x.a.l[s.ky[j]]=T0 at hg2 hmk;generalize s.ky[j]=cc at*;have hg:(s.ky.map kV).getD j (.tup [])= .int .i64 (cc:Int):=hg;have hTf:=Tr.aAC T0;have hVf:=Vl.aAC (cH T0 B).1;refine aue (e13 hc hg hlt hme mm aZT m2 hx2 hg2 hkc hTf (@jK Nat V) (e3 (@jK Tr V) jG hw)) ?_;refine aH (vK T0 B m es c _ (by simp only[hme,mm,go_sem,reduceIte,jA,jB,jC,jD,reduceCtorEq,jE,jF]) hpa) rfl (aI _) ?_;refine Zn ?_;rw[gN] at hmk;by_cases hz:(cH T0 B).2=0
    ·rw[if_neg (by simp[hz])] at hmk;rw[hz];have hml:(acc.map Vl.v).length=acc.length:=jK ..;have htk:(acc.map Vl.v).take acc.length=acc.map Vl.v:=Km Zm;have aHC:acc.length≤1000000:=or;refine aue (e9 Ao hVf hw hid aC8 hml htk aHC hc) ?_;rw[←hQ];have aZG:∀k,k<nx2→∀b1 b2 b3 b4,(((((hp.set nx1 b1).set nx1 b2).set (nx1+2) b3).del id).set (nx1+3) b4) k=h2 k:=fun k hk b1 b2 b3 b4=>by
      simp only[Kb,Hp.del];repeat rw[if_neg or]
      exact hsm k hk
     exact aF (j+1,nx1+3,acc++[(cH T0 B).1]) Zw ⟨hlt,or,dmo hdm,fun k hk=>aZG k hk _ _ _ _,⟨Zw,by simp only[List.map_append,List.map_cons,KC,go_sem,reduceIte,jA,jB,jC,jD,reduceCtorEq,jE,jF]⟩,hmk,by dsimp only;rw[Ki];simp only[jL,jM];omega⟩ (by simp only[WkL,aD,jH,jI,jJ,Ki,jL,jM,go_sem,reduceIte,jA,jB,jC,jD,reduceCtorEq,jE,jF])
    rw[if_pos hz] at hmk;have hev:dC (cH T0 B).2= .iface 93 (.int .i64 (cH T0 B).2):=by unfold dC;rw[if_neg hz]
    refine aue (e2 hev hVf) ?_;rw[←hQ,←hRC];refine au ?_;refine aN _ (Ka _) ⟨?_,lef hd hle⟩;rw[hmk];unfold mkR okO;rw[if_neg hz,hev];rfl
   have hc:decide ((j:Int)<(s.ky.length:Int))=false:=dcf;refine aue hc ?_;rw[←hQ];refine au ?_;rw[Kk or] at hmk;simp only[iS] at hmk;rw[←hRC];refine dA (lB (t:=12) (n:=id) (k:= .agg 3) (off:=0) (len:=acc.length) (es:=acc.map Vl.v) rfl hid Zm) ?_;have htk:(List.drop 0 (acc.map Vl.v)).take acc.length=acc.map Vl.v:=by rw[List.drop_zero];exact Km Zm
   rw[htk];refine au ?_;refine aN _ (Ka _) ⟨?_,?_⟩
   ·rw[hmk];rfl
   refine fun q b e=>?_;have:=hd _ _ e;simp only[Hp.del];rw[if_neg or];exact hle q b e
  rw[if_neg hlr] at aA1;rw[if_pos hlr];subst aA1;have hv6:veq (pO.iface true) (dC 6) V.nilIface=some false:=rfl;refine aue hv6 ?_;refine aN _ (Ka _) ⟨rfl,Hp.same.le (fun k hk=>?_) hd (Ka _)⟩;refine(aC7 k or).trans ?_;simp only[Kb];repeat rw[if_neg or]
 simp only[if_neg hi] at C1;rw[if_pos (.inl hi)];have hv:veq (pO.iface true) (dC 1) V.nilIface=some false:=rfl;have f5:zS5.fits (.agg 5)=true:=rfl;have f17:pd.fits (.agg 17)=true:=rfl;generalize zS5=Z5 at*;generalize pd=Z17 at*;refine aue (e4 hPf f5 f17 hv) ?_;exact aN h' (leo hd) ⟨rfl,leo hd⟩
def goB(s:PS)(x:Li)(t:List Vl)(l:List Tr):Option (List Tr)×Int:=
 if s.k=1 then (gY x.a t l,0)
 else if s.k=2 then (if (bY x.a l).2≠0∨cP (bY x.a l).1 t=0 then (none,(bY x.a l).2) else (some l,0))
 else cZ l x
def gA(R:Ru)(ps:List PS)(i:Int)(row t:List Vl):List Vl×Bool×Int:=
 if¬(0≤i∧i<ps.length) then ([],false,1) else if (dW ps i).hv.length≠row.length then ([],false,6) else
 match (goB (dW ps i) (nJ R ps i) t (nM (dW ps i).hv row)).1 with
 |none=>([],false,(goB (dW ps i) (nJ R ps i) t (nM (dW ps i).hv row)).2)
 |some l=>(fM l (dW ps i).wt,true,0)
def mkX(p:List Vl×Bool×Int):V:= .tup [.sl (.agg 3) (if p.2.1=true then .free else .nil) (p.1.map Vl.v), .bool p.2.1,dC p.2.2]
theorem Cl(p:List Vl×Bool×Int)(L:Nat→Prop):(mkX p).names L:=by
 refine⟨⟨fun n e=>?_,bF (fun x=>Vl.aAN L x) _⟩,trivial,dS L _,trivial⟩;split at e<;>cases e
theorem yM(l:List Tr):∀(ts:List Tr) (acc:List Vl),(iS l acc ts).1.length≤acc.length+ts.length
 | [],acc=>Ku _
 |t::r,acc=>by
  rw[gN];split
  ·simp
  have:=yM l r (acc++[(cH t l).1]);simp only[Ki,jL,jM] at this⊢;omega
theorem Cs(a:Am)(l:List Tr):(bY a l).1.length≤a.l.length:=by
 unfold bY;split
 ·simp
 have:=yM l a.l [];simpa using this
theorem d7(R:Ru)(ps:List PS)(hp:DI R ps)(i:Int)(o ot:Own)(row t:List Vl)(ht:t.length≤1000000)(h:Hp):aM Tryz.prog 31 [dH R ps, .int .i64 i,vls o row,vls ot t] h (mkX (gA R ps i row t)):=by
 refine aJ (fun L=>Cl _ L) fun h' nx hh=>aB L.bBl fun hd=>?_;have hd:aS h' nx:=hd;refine ZK ?_;have C1:=fun h=>k8 R ps hp.1 (fun s hs=>(hp.2 s hs).li) i h;have hPf:(dH R ps).fits (.agg 7)=true:=by
  obtain⟨oS,hoS⟩:=bX (.agg 5) (ps.map PS.v);unfold dH;rw[hoS];rfl
 generalize dH R ps=PV at*;unfold gA ta at*;by_cases hi:0≤i∧i<ps.length
 ·have hs:=hp.2 _ (db hi);simp only[if_pos hi] at C1;rw[if_neg (fun e=>e hi)];have e1:ps.getD i.toNat default=dW ps i:=rfl;have e2':R.b.getD (dW ps i).i default=nJ R ps i:=rfl;rw[e1,e2'] at C1;have q3:=hs.nd;have q4:=hs.hl;have q5:=hs.wl;have q6:=hs.rl;have q7:=hs.kd;have q8:=hs.al;rw[e2'] at q6 q7 q8;generalize dW ps i=s at*;generalize nJ R ps i=x at*;have hsf:=PS.aAC s;have hxf:=Li.aAC x;obtain⟨o2,ho2⟩:=bX .leaf (s.hv.map V.str);obtain⟨o3,ho3⟩:=bX .leaf (s.wt.map V.str);obtain⟨T,hT,hk0,hk2,hk3⟩:∃T,s.v= .agg T∧T.getD 0 (.tup [])= .int .i64 s.k∧T.getD 2 (.tup [])= .sl .leaf o2 (s.hv.map V.str)∧T.getD 3 (.tup [])= .sl .leaf o3 (s.wt.map V.str):=⟨_,rfl,rfl,ho2,ho3⟩;obtain⟨X,hX,hat⟩:∃X,x.v= .agg X∧(X.drop 1).take 2=[.str x.a.r,trs x.a.o x.a.l]:=⟨_,rfl,rfl⟩;have hlp:bB (.agg 2) 1 (.agg X)=x.a.v:=congrArg V.agg hat
  have CS:=fun h3 h nx l n es c hm he=>xM l x q6 h3 n es c h nx hm he;rw[hX] at CS C1 hxf;rw[hT] at C1 hsf;have hv:veq (pO.iface true) V.nilIface V.nilIface=some true:=rfl;refine aue (e7 hPf hsf hxf hk0 hk2 hv hlp) ?_;refine aV ((uY o2 o s.hv row q3 q4 _ _).dom.mono ?_);rintro v h2 nx2 aAS ⟨⟨aA1,aC7⟩,hd2,_⟩;unfold bW;dsimp only at aA1 aC7;have aBl:Ke nx h' h2:=fun k hk=>by
   rw[aC7 k or];simp only[Kb];repeat rw[if_neg or]
  by_cases hlr:s.hv.length=row.length
  ·rw[if_pos hlr] at aA1;rw[if_neg (by simpa using hlr)];obtain⟨m,es,c,rfl,p1,p2,p3,p4⟩:=aA1;refine Zn ?_;have hb1:h2 (nx+1)=some (.arr (.agg 5) [.agg T]):=by rw[aC7 (nx+1) or];simp only[go_sem,reduceIte,jA,jB,jC,jD,reduceCtorEq,jE,jF]
   have hb2:h2 (nx+2)=some (.arr (.agg 17) [.agg X]):=by rw[aC7 (nx+2) or];simp only[go_sem,reduceIte,jA,jB,jC,jD,reduceCtorEq,jE,jF]
   have n1:nx+1<nx2:=or;have n2:nx+2<nx2:=or;generalize nM s.hv row=B at*;have hml:(bY x.a B).1.length≤1000000000:=by have:=Cs x.a B;omega
   obtain⟨RES,aAi⟩:∃r,goB s x t B=r:=⟨_,rfl⟩;rw[aAi];clear aC7 C1;rcases lF q6 with hk|hk|hk
   ·rw[←q7] at hk;have g1:(s.k==1)=true:=bqt;refine aue (e9 hv hb1 n1 hsf hk0 g1 hb2 n2 (e2 hlp hxf)) ?_;refine aV ((zZ x.a or ot t B m es c h2 nx2 p3 p4).dom.mono ?_);rintro v h3 nx3 aCu ⟨⟨q,aEg⟩,hd3,_⟩;unfold bW;unfold goB at aAi;rw[if_pos hk] at aAi;subst aAi;dsimp only;cases hM:gY x.a t B with
    |none=>
     rw[hM] at q;have q:v= .tup [.aAG, .bool false]:=q;subst q;refine Zn ?_;refine aue hv ?_;exact bE h' (Hp.same.le (fun k hk=>(aEg k or).trans (aBl k hk)) hd (Ka _)) ⟨rfl,rfl⟩
    |some l2=>
     rw[hM] at q;obtain⟨m2,es2,c2,rfl,r1,r2,r3,r4⟩:=q;have C:=yF o3 s.wt q5 l2 m2 es2 c2 h3 r3 r4.at
     have hb3:=(aEg (nx+1) or).trans hb1;have n3:nx+1<nx3:=or;refine Zn ?_;refine aue (e6 hv hb3 n3 hsf hk3 hxf) ?_;refine aH C rfl (aI _) ?_;refine au ?_;exact bE h' (Hp.same.le (fun k hk=>(aEg k or).trans (aBl k hk)) hd (Ka _)) ⟨rfl,rfl⟩
   ·rw[←q7] at hk;have g1:(s.k==1)=false:=bqf;have g2:(s.k==2)=true:=bqt;have C1:=qM x.a B m es c h2 p3 p4.at
    have hve:=dK (bY x.a B).2;unfold goB at aAi;rw[if_neg or,if_pos hk] at aAi;have C2:=fun h=>oW (okO (bY x.a B).2 .free) (bY x.a B).1 t hml (vls ot t) h (.inl ⟨ot,rfl⟩);generalize bY x.a B=P at*;refine aue (e10 hv hb1 n1 hsf hk0 g1 g2 hb2 n2 (e2 hlp hxf)) ?_;refine aH C1 rfl (aI _) ?_;by_cases he:P.2=0
    ·rw[decide_eq_true he] at hve;by_cases hcm:cP P.1 t=0
     ·have g3:(cP P.1 t != 0)=false:=bnf;rw[if_pos (.inr hcm)] at aAi;subst aAi;refine aue (e3 hv hve g3) ?_;exact bE h' (aBl.le hd (Ka _)) ⟨rfl,rfl⟩
     have g3:(cP P.1 t != 0)=true:=bnt;rw[if_neg (by simp[he,hcm])] at aAi;subst aAi;have C:=yF o3 s.wt q5 B m es c h2 p3 p4.at
     refine aue (e7 hv hve g3 hb1 n1 hsf hk3) ?_;refine aH C rfl (aI _) ?_;refine au ?_;exact bE h' (aBl.le hd (Ka _)) ⟨rfl,rfl⟩
    rw[decide_eq_false he] at hve;rw[if_pos (.inl he)] at aAi;subst aAi;refine aue (e2 hv hve) ?_;exact bE h' (aBl.le hd (Ka _)) ⟨rfl,rfl⟩
   rw[←q7] at hk;have g1:(s.k==1)=false:=bqf;have g2:(s.k==2)=false:=bqf;unfold goB at aAi;rw[if_neg or,if_neg or] at aAi;refine aue (e10 hv hb1 n1 hsf hk0 g1 g2 hb2 n2 (e2 hlp hxf)) ?_;refine aV ((CS or h2 nx2 B m es c p3 p4).dom.mono ?_);rintro v h3 nx3 aCu ⟨⟨q,aEg⟩,hd3,_⟩;unfold bW;rw[aAi] at q;obtain⟨r,e⟩:=RES;have hve:=dK e;cases r with
   |none=>
    have q:v= .tup [.aAG, .bool false,dC e]:=q;subst q;refine Zn ?_;by_cases he:e=0
    ·rw[decide_eq_true he] at hve;refine aue (e2 hv hve) ?_;exact bE h' (Hp.same.le (fun k hk=>(aEg k or).trans (aBl k hk)) hd (Ka _)) ⟨rfl,rfl⟩
    rw[decide_eq_false he] at hve;refine aue (e2 hv hve) ?_;exact bE h' (Hp.same.le (fun k hk=>(aEg k or).trans (aBl k hk)) hd (Ka _)) ⟨rfl,rfl⟩
   |some l2=>
    obtain⟨m2,es2,c2,rfl,r1,r2,r3,r4⟩:=q;have C:=yF o3 s.wt q5 l2 m2 es2 c2 h3 r3 r4.at
    have hb3:=(aEg (nx+1) or).trans hb1;have n3:nx+1<nx3:=or;refine Zn ?_;refine aue (e6 hv hb3 n3 hsf hk3 hxf) ?_;refine aH C rfl (aI _) ?_;refine au ?_;exact bE h' (Hp.same.le (fun k hk=>(aEg k or).trans (aBl k hk)) hd (Ka _)) ⟨rfl,rfl⟩
  rw[if_neg hlr] at aA1;rw[if_pos hlr];subst aA1;have hv6:veq (pO.iface true) (dC 6) V.nilIface=some false:=rfl;refine aue hv6 ?_;exact bE h' (aBl.le hd (Ka _)) ⟨rfl,rfl⟩
 simp only[if_neg hi] at C1;rw[if_pos hi];have hv:veq (pO.iface true) (dC 1) V.nilIface=some false:=rfl;have f5:zS5.fits (.agg 5)=true:=rfl;have f17:pd.fits (.agg 17)=true:=rfl;generalize zS5=Z5 at*;generalize pd=Z17 at*;refine aue (e4 hPf f5 f17 hv) ?_;exact bE h' (leo hd) ⟨rfl,rfl⟩
end Go.Proofs.YtlhedpgobaellaaGreatDoor
namespace Go.Proofs.YtlhedpgobaellaaGreatDoor
open Go.RowKit Go.Sort
theorem wK{x:ByteArray}{w:Vl}{l:List Tr}(h:lkB x l=some w):∀m:List Tr,lkB x (l++m)=some w:=by
 intro m;induction l with
 |nil=>cases h
 |cons a l ih=>
  simp only[Kv,lkB] at h⊢;split at h
  ·rename_i e;rw[if_pos e];exact h
  rename_i e;rw[if_neg e];exact ih h
theorem kJ:∀{ts:List Tr} {vs:List Vl} {l l2:List Tr},kE ts vs l=some l2→∃m,l2=l++m
 | [],_,l,l2,h=>⟨[],by have:some l=some l2:=h;injection this with e;rw[e,Ky]⟩
 |a::r,[],l,l2,h=>⟨[],by have:some l=some l2:=h;injection this with e;rw[e,Ky]⟩
 |a::r,v::vs,l,l2,h=>by
  rw[kK] at h;split at h
  ·split at h
   ·exact kJ h
   cases h
  split at h
  ·obtain⟨m,e⟩:=kJ h;exact⟨⟨a.x,v⟩::m,by rw[e,List.append_assoc];rfl⟩
  split at h
  ·exact kJ h
  cases h
structure PlT(R:Ru)(s:PS):Prop extends PlS R s where
 pre:∃m,s.wt=s.hv++m
 told:s.k=1→∀c∈s.ky,((R.b.getD s.i default).a.l.getD c default).x.size=0∧bU ((R.b.getD s.i default).a.l.getD c default).w=true∨((R.b.getD s.i default).a.l.getD c default).x.size≠0∧((R.b.getD s.i default).a.l.getD c default).x∈s.hv
theorem pl{l:Li}(h:bO l=true)(k:Nat)(hv:List ByteArray):(cY l k hv).k=l.k:=by
 unfold cY;dsimp only;rcases lF h with e|e|e<;>rw[e]<;>rfl
theorem yG(r:Ru):∀(ks:List Nat) (hv:List ByteArray) (s:PS),s∈lG r ks hv→∃(i:Nat) (h:i<ks.length),s=cY (r.b.getD ks[i] default) ks[i] (cB r (ks.take i) hv)
 | [],hv,s,h=>by cases h
 |k::ks,hv,s,h=>by
  rcases Kj.1 h with rfl|h
  ·exact⟨0,Zm,rfl⟩
  obtain⟨i,hi,e⟩:=yG r ks _ s h;exact⟨i+1,by simpa using hi,e⟩
def Hd(r:Ru)(s:PS):Prop:=s.i<r.b.length∧s.hv.length≤1000000000∧s.wt.length≤1000000000∧s.ky.length≤1000000000
theorem F8{r:Ru}(hr:dF r=true):(bG r).length≤8∧∀s∈bG r,Hd r s:=by
 obtain⟨b1,b2,b3⟩:=dE hr;have hol:(bA r).length≤8:=by
  unfold bA pP;rw[List.length_map];exact Nat.le_trans (mP ..) b2
 refine⟨by unfold bG;rw[pA];exact hol,fun s hs=>?_⟩;have aCt:=rO r;obtain⟨i,hi,rfl⟩:=yG r _ _ s hs;have hk:=aCt _ (Kf hi);have hD:r.b.getD (bA r)[i] default=r.b[(bA r)[i]]:=by rw[Kc,Kd hk];rfl
 have hrl:=b3 _ (Kf hk);have h1:=vI r b3 ((bA r).take i) [] fun k hk=>aCt k (List.mem_of_mem_take hk);have h2:((bA r).take i).length*2097158≤8*2097158:=Nat.mul_le_mul_right _ (by rw[List.length_take];omega);simp only[Kz] at h1;have h3:=nW r.b[(bA r)[i]].ts (cB r ((bA r).take i) []);have h4:=kH hrl;refine⟨hk,by unfold cY;dsimp only;omega,by unfold cY;dsimp only;rw[hD];omega,?_⟩;unfold cY;dsimp only;rw[hD];split
 ·have:=sL (cB r ((bA r).take i) []) r.b[(bA r)[i]].a.l 0;have h5:=(gH hrl).1;unfold rF;omega
 simp
end Go.Proofs.YtlhedpgobaellaaGreatDoor
namespace Go.Proofs.YtlhedpgobaellaaGreatDoor
open Go.RowKit Go.Sort
attribute [local irreducible] IntKind.wrap
theorem kw{s:List ByteArray}:∀{ts:List Tr} {i c:Nat},c∈iQ s i ts→i≤c∧∃h:c-i<ts.length,ts[c-i].x.size=0∨ts[c-i].x∈s
 |t::ts,i,c,h=>by
  unfold iQ at h;have key:c∈iQ s (i+1) ts→i≤c∧∃h:c-i<(t::ts).length,(t::ts)[c-i].x.size=0∨(t::ts)[c-i].x∈s:=fun h=>by
   obtain⟨h1,h2,h3⟩:=kw h;obtain⟨d,hd⟩:∃d,c-i=d+1:=⟨c-i-1,or⟩;have e:c-(i+1)=d:=or;simp only[e] at h2 h3;simp only[hd];exact⟨or,by simpa using h2,by simpa using h3⟩
  split at h
  ·rename_i hc;rcases Kj.1 h with rfl|h
   ·simp only[Nat.sub_self];refine⟨Ku _,Zm,?_⟩;simp only[Bool.or_eq_true,decide_eq_true_eq,eY] at hc;exact hc
   exact key h
  exact key h
theorem qd{r:Ru}(hr:dF r=true):DI r.lo (bG r)∧∀s∈bG r,PlT r.lo s:=by
 obtain⟨b1,b2,b3⟩:=dE hr;obtain⟨h8,hok⟩:=F8 hr;have aCt:=rO r;have key:∀s∈bG r,PlT r.lo s:=fun s hs=>by
  obtain⟨q1,q2,q3,q4⟩:=hok s hs;obtain⟨i,hi,rfl⟩:=yG r _ _ s hs;have hk:=aCt _ (Kf hi);generalize (bA r)[i]=k at*;generalize hhv:cB r ((bA r).take i) []=hv at*;have hnd:hv.Nodup:=by rw[←hhv];exact qN r _ _ List.nodup_nil
  obtain⟨l,hD,hrl⟩:∃l,r.b.getD k default=l∧bO l=true:=⟨r.b[k],by rw[Kc,Kd hk];rfl,b3 _ (Kf hk)⟩;have hal:=(gH hrl).1;rw[hD] at q2 q3⊢;have hDl:r.lo.b.getD (cY l k hv).i default=l:=hD;have hky:∀c∈(cY l k hv).ky,∃h:c<l.a.l.length,l.a.l[c].x.size=0∨l.a.l[c].x∈hv:=fun c hc=>by
   unfold cY at hc;dsimp only at hc;split at hc
   ·obtain⟨_,h2,h3⟩:=kw hc;exact⟨h2,h3⟩
   cases hc
  refine⟨⟨hk,hnd,q2,q3,?_,?_,?_,?_,?_⟩,Ba _ _,?_⟩
  ·unfold cY;dsimp only;split
   ·have:=sL hv l.a.l 0;unfold rF;omega
   simp
  ·rw[hDl];exact fun c hc=>(hky c hc).1
  ·rw[hDl];exact hrl
  ·rw[hDl];exact pl hrl k hv
  ·rw[hDl];exact hal
  rw[hDl];intro h1 c hc;obtain⟨hcl,ht⟩:=hky c hc;have e:l.a.l.getD c default=l.a.l[c]:=by rw[Kc,Kd hcl];rfl
  rw[e];have hk1:l.k=1:=by rw[←pl hrl k hv];exact h1
  have hT:iK l.a.l[c]=true:=by
   unfold bO at hrl;rw[if_pos (.inl hk1)] at hrl;unfold mU at hrl;simp only[Bool.and_eq_true,List.all_eq_true] at hrl;exact hrl.1.1.1.2 _ (Kf _)
  by_cases h0:l.a.l[c].x.size=0
  ·refine .inl ⟨h0,?_⟩;unfold iK at hT;rwa [if_pos h0] at hT
  exact .inr ⟨h0,ht.resolve_left h0⟩
 exact⟨⟨or,fun s hs=>have t:=key s hs;⟨t.li,t.nd,t.hl,t.wl,t.kl,t.kc,t.rl,t.kd,t.al⟩⟩,key⟩
def hdB(R:Ru)(ps:List PS)(row:List Vl):List Vl×Int:=if (gD ps).length≠row.length then ([],6) else bY R.h (nM (gD ps) row)
theorem zj(R:Ru)(ps:List PS)(hp:ps.length≤1000)(hn:(gD ps).Nodup)(hw:(gD ps).length≤1000000000)(o:Own)(row:List Vl)(h:Hp):aM Tryz.prog 34 [dH R ps,vls o row] h (mkR (hdB R ps row)):=by
 refine aJ (fun L=>mt _ L) fun h' nx hh=>aB L.bBb fun hd=>?_;have hd:aS h' nx:=hd;simp only[List.length_cons,Kz,Ko,Kp,List.replicate_succ,List.replicate_zero,Kv,List.nil_append,V.undef];have C1:=fun h=>tK R ps hp hw h;obtain⟨ow,how⟩:=bX .leaf ((gD ps).map V.str);rw[how] at C1;obtain⟨PV,hPV,hPf,hlp⟩:∃PV,dH R ps= .agg PV∧(V.agg PV).fits (.agg 7)=true∧bB (.agg 2) 0 (.agg PV)=R.h.v:=by
  obtain⟨oS,hoS⟩:=bX (.agg 5) (ps.map PS.v);unfold dH;rw[hoS];exact⟨_,rfl,rfl,rfl⟩
 rw[hPV] at C1⊢;unfold hdB;refine aue (e2 hPf trivial) ?_;refine aV ((uY ow o (gD ps) row hn hw _ _).dom.mono ?_);rintro v h2 nx2 aAS ⟨⟨aA1,hk2⟩,hd2,_⟩;unfold bW;dsimp only at aA1 hk2;have aBl:Ke nx h' h2:=fun k hk=>by
  rw[hk2 k or];simp only[Kb];repeat rw[if_neg or]
 by_cases hlr:(gD ps).length=row.length
 ·rw[if_pos hlr] at aA1;rw[if_neg (by simpa using hlr)];obtain⟨m,es,c,rfl,p1,p2,p3,p4⟩:=aA1;simp only[go_sem,reduceIte,Ko,Kp,KD,Kw,reduceCtorEq,Kx,KA];have hb:h2 nx=some (.arr (.agg 7) [.agg PV]):=by rw[hk2 nx or];simp only[go_sem,reduceIte,Ko,Kp,KD,Kw,reduceCtorEq,Kx,KA]
  have n0:nx<nx2:=or;have hv:veq (pO.iface true) V.nilIface V.nilIface=some true:=rfl;have CM:=qM R.h (nM (gD ps) row) m es c h2 p3 p4.at
  refine aue (e4 hv hb n0 hlp) ?_;refine aH CM rfl (aI _) ?_;refine au ?_;exact aN h' (aBl.le hd (Ka _)) ⟨rfl,rfl⟩
 rw[if_neg hlr] at aA1;rw[if_pos hlr];subst aA1;have hv6:veq (pO.iface true) (dC 6) V.nilIface=some false:=rfl;refine aue hv6 ?_;exact aN h' (aBl.le hd (Ka _)) ⟨rfl,rfl⟩
end Go.Proofs.YtlhedpgobaellaaGreatDoor
