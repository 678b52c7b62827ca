/-
Texts of this proof,one behind the other. No conditions.
-/
import Derived.Test.YtgbiopfghdilnaaGreatDoorKd
import Derived.Test.YtgbiopfghdilnaaGreatDoorKn
open List renaming getD_eq_getElem?_getD→Ka,getElem?_eq_getElem→Kb,mem_append→Kc,take_succ_eq_append_getElem→Kd,map_append→Ke,map_cons→Kf,getElem_mem→Kg,map_nil→Kh,length_take→Kj,mem_filter→Kk,append_nil→Km,take_of_length_le→Ko,mem_cons_of_mem→Kp,mem_cons→Ks,mem_cons_self→Kt,filter_nil→Kv,take_zero→Kw,nodup_nil→Kx
open Bool renaming and_eq_true→Ki,or_eq_false_iff→Kq,not_eq_true→Ku,true_and→Ky
open Nat renaming lt_or_ge→Kz,zero_le→KA
open Nat renaming reduceAdd→jA,reduceSub→jB,reduceLT→jC,reduceLeDiff→jD,reduceEqDiff→jE
open Int renaming reduceToNat→jF,toNat_natCast→jG,natCast_add→jH,natCast_one→jI,natCast_zero→jJ
open List renaming length_map→jK,length_cons→jL,length_nil→jM,replicate_succ→jN,replicate_zero→jO,cons_append→jP,nil_append→jQ
set_option linter.unusedSimpArgs false
set_option linter.unusedVariables false
set_option linter.unusedSectionVars false
set_option maxHeartbeats 8000000
namespace Go.Proofs.YtgbiopfghdilnaaGreatDoor
open Go.RowKit Go.Sort
attribute [local irreducible] IntKind.wrap
set_option maxHeartbeats 4000000
structure PS where
 k:Int
 i:Nat
 hv:List ByteArray
 wt:List ByteArray
 ky:List Nat
def PS.v(s:PS):V:= .agg [.int .i64 s.k, .int .i64 s.i,lst .leaf (s.hv.map V.str),lst .leaf (s.wt.map V.str),lst .leaf (s.ky.map kV)]
instance:Inhabited PS:=⟨⟨0,0,[],[],[]⟩⟩
def sT(l:Li)(k:Nat)(hv:List ByteArray):PS:=⟨if l.k=1 then 1 else if l.k=2 then 2 else 3,k,hv,nmL hv l.ts,if l.k=1∨l.k=2 then pT l.a hv else []⟩
def iX(r:Ru):List Nat→List ByteArray→List PS
 | [],_=>[]
 |k::ks,hv=>sT (r.b.getD k default) k hv::iX r ks (nmL hv (r.b.getD k default).ts)
def kF(r:Ru):List PS:=iX r (bX r) []
def bI(r:Ru):List Nat→List ByteArray→List ByteArray
 | [],hv=>hv
 |k::ks,hv=>bI r ks (nmL hv (r.b.getD k default).ts)
theorem zX(r:Ru):∀(a:List Nat) (k:Nat) (hv:List ByteArray),iX r (a++[k]) hv=iX r a hv++[sT (r.b.getD k default) k (bI r a hv)]
 | [],k,hv=>rfl
 |x::a,k,hv=>by simp only[jP,iX,bI,zX r a k]
theorem pM(r:Ru):∀(a:List Nat) (k:Nat) (hv:List ByteArray),bI r (a++[k]) hv=nmL (bI r a hv) (r.b.getD k default).ts
 | [],k,hv=>rfl
 |x::a,k,hv=>by simp only[jP,bI,pM r a k]
theorem rX(r:Ru):∀(a:List Nat) (hv:List ByteArray),(iX r a hv).length=a.length
 | [],hv=>rfl
 |x::a,hv=>by simp[iX,rX r a]
theorem wG(hv:List ByteArray):∀(ts:List Tr) (l:List ByteArray),nmL (hv++l.filter fun v=> !bZ v hv) ts=hv++(nmL l ts).filter fun v=> !bZ v hv
 | [],l=>rfl
 |t::ts,l=>by
  have key:nmT (hv++l.filter fun v=> !bZ v hv) t=hv++(nmT l t).filter fun v=> !bZ v hv:=by
   unfold nmT;by_cases h0:t.x.size=0
   ·simp[h0]
   by_cases h1:bZ t.x l=true
   ·have h2:bZ t.x (hv++l.filter fun v=> !bZ v hv)=true:=by
     rw[fC,Kc,Kk];by_cases h3:bZ t.x hv=true
     ·exact .inl (fC.1 h3)
     exact .inr ⟨fC.1 h1,by simpa using h3⟩
    simp[h1,h2]
   rw[Ku] at h1;by_cases h3:bZ t.x hv=true
   ·have h2:bZ t.x (hv++l.filter fun v=> !bZ v hv)=true:=by rw[fC,Kc];exact .inl (fC.1 h3)
    simp[h0,h1,h2,h3]
   rw[Ku] at h3;have h2:bZ t.x (hv++l.filter fun v=> !bZ v hv)=false:=by
    rw[gZ,Kc,Kk];rintro(h|h)
    ·exact gZ.1 h3 h
    exact gZ.1 h1 h.1
   simp[h0,h1,h2,h3]
  show nmL (nmT _ t) ts=hv++(nmL (nmT l t) ts).filter _;rw[key,wG hv ts]
theorem s8(hv:List ByteArray)(l:Li):nmL hv l.ts=hv++l.vars.filter fun v=> !bZ v hv:=by
 have:=wG hv l.ts [];unfold Li.vars;simpa using this
def loO:Own→Own
 | .nil=> .nil
 |_=> .free
def Ru.lo(r:Ru):Ru:=⟨⟨r.h.r,loO r.h.o,r.h.l⟩,r.g,r.c,loO r.o,r.b,r.at_⟩
def kE(r:Ru)(l:List PS):V:= .agg [.str r.h.r,trs r.h.o r.h.l, .int .i64 r.g, .int .i64 r.c, .sl (.agg 17) r.o (r.b.map Li.v), .int .i64 r.at_,lst (.agg 5) (l.map PS.v)]
def ru0:Ru:=⟨⟨⟨#[]⟩, .nil,[]⟩,0,0, .nil,[],0⟩
def sX(r:Ru):Ru×List PS×Int:=if eM r=false then (ru0,[],2) else if cY r (eG r) false≠ [] then (ru0,[],8) else (r.lo,kF r,0)
def mY(r:Ru):V:= .tup [kE (sX r).1 (sX r).2.1,xN (sX r).2.2]
theorem oh.acc{own:Own}{es:List V}{nx:Nat}{h:Hp}{v:V}{h':Hp}(ho:lst .leaf es= .sl .leaf own es)(hd:aV h nx)(c:oh .leaf own es nx h v h'):∃o,v= .sl .leaf o es∧Acc h' nx o es∧Hp.same nx h h':=by
 rcases c with⟨h1,rfl,rfl⟩|⟨h1,id,h2,rfl,rfl⟩
 ·subst h1;cases es with
  |nil=>exact⟨.nil,rfl, .inl ⟨rfl,rfl⟩,Hp.same.aCU⟩
  |cons a b=>cases ho
 cases es with
 |nil=>rw[cr] at ho;injection ho with _ e _;exact absurd e.symm h1
 |cons a b=>exact⟨_,rfl, .inr ⟨Zm,id,h2,rfl,by simp[Hp.set]⟩,fun m hm=>by simp only[Hp.set];rw[if_neg or]⟩
theorem r8{h:Hp}{n0:Nat}{o:Own}{es:List V}(a:Acc h n0 o es):(V.sl .leaf o es).loose=lst .leaf es:=by
 rcases a with⟨rfl,rfl⟩|⟨h1,id,_,rfl,_⟩
 ·rfl
 cases es with
 |nil=>exact absurd rfl h1
 |cons a b=>rfl
theorem tN{P:Program}{f:FuncId}{args:List V}{h:Hp}{v:V}(hv:∀L,bD L args→v.names L)(hc:∀h' nx,h.has h'→aQ P f args h' nx fun v' h'' _=>v'.aAp=v∧h'.le h''):aL P f args h v:=
 wA hv fun h' nx hh=>(hc h' nx hh).aJ2 fun v' h'' nx' _ _ hq=>⟨h',hq.2,hq.1,rfl⟩
theorem wF(r:Ru):∀k∈bX r,k<r.b.length:=by
 have key:∀(n:Nat) (s:List ByteArray) (left:List Nat),(∀k∈left,k<r.b.length)→∀p∈fU r n s left,p.1<r.b.length:=by
  intro n;induction n with
  |zero=>intro s left _ p hp;cases hp
  |succ n ih=>
   intro s left hl p hp;unfold fU at hp;split at hp
   ·cases hp
   rename_i aBY;rcases Ks.1 hp with rfl|hp
   ·rcases qG r s left with h|⟨i,h,hi⟩
    ·omega
    rw[h,jG];have:left.getD i 0=left[i]:=by rw[Ka,Kb hi];rfl
    dsimp only;rw[this];exact hl _ (Kg _)
   exact ih _ _ (fun k hk=>hl k (List.mem_of_mem_eraseIdx hk)) p hp
 intro k hk;obtain⟨p,hp,rfl⟩:=List.mem_map.1 hk;exact key _ _ _ (fun k hk=>by simpa using hk) p hp
theorem pL(r:Ru)(hb:∀l∈r.b,cT l=true):∀(ks:List Nat) (hv:List ByteArray),(∀k∈ks,k<r.b.length)→(bI r ks hv).length≤hv.length+ks.length*2097158
 | [],hv,_=>by simp[bI]
 |k::ks,hv,h=>by
  have h1:=pL r hb ks (nmL hv (r.b.getD k default).ts) fun x hx=>h x (Kp _ hx);have hk:=h k Kt;have h2:=lT (r.b.getD k default).ts hv;have h3:(r.b.getD k default).ts.length≤2097158:=by
   rw[Ka,Kb hk];exact iR (hb _ (Kg _))
  unfold bI;simp only[jL,Nat.add_mul,Nat.one_mul];omega
theorem sr{l:Li}(h:cT l=true):l.k=1∨l.k=2∨l.k=3:=by
 unfold cT at h;split at h
 ·rename_i hk;omega
 simp only[Ki,decide_eq_true_eq] at h;exact .inr (.inr h.1.1.1)
theorem Ru.aBw(r:Ru)(l:List PS)(L:Nat→Prop)(h:bD L [r.v]):(kE r.lo l).names L:=by
 have h:=h.1;simp only[Ru.v,V.names,bD] at h;obtain⟨_,⟨h1,h2⟩,_,_,⟨h3,h4⟩,_⟩:=h;have lo:∀(o:Own) n,loO o= .tok n→L n:=fun o n e=>by cases o<;>cases e
 refine⟨trivial,⟨lo _,h2⟩,trivial,trivial,⟨lo _,h4⟩,trivial,?_,trivial⟩;refine eF (fun L=>bO (fun s=>?_) _) L;exact⟨trivial,trivial,eF (fun L=>bO (f:=V.str) (fun _=>trivial) _) L,eF (fun L=>bO (f:=V.str) (fun _=>trivial) _) L,eF (fun L=>bO (f:=kV) (fun _=>trivial) _) L,trivial⟩
theorem gq(r:Ru){h:Hp}{n0:Nat}{oS:Own}{ps:List PS}(a:Acc h n0 oS (ps.map PS.v)):(V.agg [.str r.h.r, .sl (.agg 4) r.h.o (r.h.l.map Tr.v), .int .i64 r.g, .int .i64 r.c, .sl (.agg 17) r.o (r.b.map Li.v), .int .i64 r.at_, .sl (.agg 5) oS (ps.map PS.v)]).loose=kE r.lo ps:=by
 have h5:V.sl (.agg 5) (loO oS) (ps.map PS.v)=lst (.agg 5) (ps.map PS.v):=by
  rcases a with⟨h1,rfl⟩|⟨h1,id,_,rfl,_⟩
  ·rw[h1];rfl
  cases hm:ps.map PS.v with
  |nil=>exact absurd hm h1
  |cons a b=>rfl
 obtain⟨⟨hr,ho,hl⟩,g,c,o,b,at_⟩:=r;unfold kE Ru.lo;rw[←h5];cases ho<;>cases o<;>cases oS<;>rfl
theorem ku(k:Int)(i:Nat)(ow o2:Own)(hv w:List ByteArray)(how:lst .leaf (hv.map V.str)= .sl .leaf ow (hv.map V.str)){h:Hp}{n0:Nat}(a:Acc h n0 o2 (w.map V.str)):(V.agg [.int .i64 k, .int .i64 i, .sl .leaf ow (hv.map V.str), .sl .leaf o2 (w.map V.str), .sl .leaf .nil []]).loose= .agg [.int .i64 k, .int .i64 i,lst .leaf (hv.map V.str),lst .leaf (w.map V.str), .sl .leaf .nil []]:=by
 have h1:(V.sl .leaf ow (hv.map V.str)).loose=lst .leaf (hv.map V.str):=by
  rw[←how];unfold lst;split<;>rfl
 rw[←h1,←r8 a];cases ow<;>cases o2<;>rfl
set_option maxHeartbeats 8000000 in
theorem sY(r:Ru)(h:Hp):aL Tryz.prog 9 [r.v] h (mY r):=by
 have hnm:∀L,bD L [r.v]→(mY r).names L:=fun L hL=>by
  unfold mY sX;refine⟨?_,nh L _,trivial⟩;split
  ·simp[kE,ru0,V.names,bD,lst]
  split
  ·simp[kE,ru0,V.names,bD,lst]
  exact Ru.aBw r _ L hL
 refine tN hnm fun h' nx hh=>aC L.g3z fun hd=>?_;have hd:aV h' nx:=hd;have C1:=fun h=>lu r h;have C2:=fun hr h=>bt r hr h;have C3:=fun hr h=>wE r hr h;simp only[Ru.v] at C1 C2 C3;simp only[jL,jM,jA,jB,jN,jO,jP,jQ,V.undef];unfold mY sX;cases hr:eM r with
 |false=>
  rw[hr] at C1;clear C2 C3;refine aue (e2 Ru.v.eq_1 trs.eq_1) ?_;refine kP (by simp only[go_sem,reduceIte,jA,jB,jC,jD,reduceCtorEq,jE,jF]) h' (leo hd) ⟨?_,leo hd⟩;refine Zn ?_;rfl
 |true=>
  rw[hr] at C1
  replace C2:=C2 hr
  replace C3:=C3 hr
  obtain⟨b1,b2,b3⟩:=dA hr;rw[if_neg Zm];cases hsv:cY r (eG r) false with
  |cons a b=>
   rw[hsv] at C2;have g1:decide ((0:Int)<(((a::b).map V.str).length:Int))=true:=dct Zm;have g2:decide ((((a::b).map V.str).length:Int)>0)=true:=dct Zm;generalize (a::b).map V.str=q at C2 g1 g2;clear C3;refine aue (e4 Ru.v.eq_1 trs.eq_1 g1 g2) ?_;refine kP (by simp only[go_sem,reduceIte,jA,jB,jC,jD,reduceCtorEq,jE,jF]) h' (leo hd) ⟨?_,leo hd⟩;refine Zn ?_;rfl
  |nil=>
   rw[hsv] at C2;rw[if_neg Zm];obtain⟨oo,hoo⟩:=cU .leaf ((bX r).map kV);rw[hoo] at C3;have hol:(bX r).length≤8:=by
    unfold bX lO;rw[jK];exact Nat.le_trans (lN ..) b2
   have hz:decide ((0:Int)<((0:Nat):Int))=false:=rfl;refine aue (e4 Ru.v.eq_1 trs.eq_1 (@jK Nat V) hz) ?_;have aEN:=wF r;obtain⟨O,hO⟩:∃O,bX r=O:=⟨_,rfl⟩;have aKZ:kF r=iX r O []:=by unfold kF;rw[hO]
   rw[hO] at hol aEN⊢;rw[aKZ];have hbl:∀i,(bI r (O.take i) []).length≤16777264:=fun i=>by
    have h1:=pL r b3 (O.take i) [] fun k hk=>aEN k (List.mem_of_mem_take hk);have h2:(O.take i).length*2097158≤8*2097158:=Nat.mul_le_mul_right _ (by rw[Kj];omega);simp only[jM] at h1;omega
   obtain⟨RB,hRB⟩:∃RB,V.agg [.str r.h.r, .sl (.agg 4) r.h.o (r.h.l.map Tr.v), .int .i64 r.g, .int .i64 r.c, .sl (.agg 17) r.o (r.b.map Li.v), .int .i64 r.at_]=RB:=⟨_,rfl⟩
   refine aW (fun q:Nat×Own=>aF 82 0 [(1, .ptr nx (.agg 6) 0 0),(2, .ptr (nx+1) (.agg 7) 0 0),(3, .nilIface),(4, .ptr (nx+2) (.agg 7) 0 0),(5,lst .leaf ((bI r (O.take q.1) []).map V.str)),(28, .sl .leaf oo (O.map kV)),(29, .int .i64 O.length),(30, .int .i64 q.1)])
    (fun q hp nx1=>q.1≤O.length∧nx+4≤nx1∧aV hp nx1∧Hp.same nx h' hp∧hp nx=some (.arr (.agg 6) [.agg [.str r.h.r, .sl (.agg 4) r.h.o (r.h.l.map Tr.v), .int .i64 r.g, .int .i64 r.c, .sl (.agg 17) r.o (r.b.map Li.v), .int .i64 r.at_]])∧
      hp (nx+1)=some (.arr (.agg 7) [.agg [.str ⟨#[]⟩, .sl (.agg 4) .nil [], .int .i64 0, .int .i64 0, .sl (.agg 17) .nil [], .int .i64 0, .sl (.agg 5) .nil []]])∧
      hp (nx+2)=some (.arr (.agg 7) [.agg [.str r.h.r, .sl (.agg 4) r.h.o (r.h.l.map Tr.v), .int .i64 r.g, .int .i64 r.c, .sl (.agg 17) r.o (r.b.map Li.v), .int .i64 r.at_, .sl (.agg 5) q.2 ((iX r (O.take q.1) []).map PS.v)]])∧
      Acc hp (nx+4) q.2 ((iX r (O.take q.1) []).map PS.v))
    (fun q=>O.length-q.1) (0, .nil) ⟨KA _,Zw,by exact dmo hd,by exact kep Hp.same.aCU,by simp only[go_sem,reduceIte,jA,jB,jC,jD,reduceCtorEq,jE,jF],by simp only[go_sem,reduceIte,jA,jB,jC,jD,reduceCtorEq,jE,jF],by simp only[go_sem,reduceIte,jA,jB,jC,jD,reduceCtorEq,jE,jF];rfl, .inl ⟨rfl,rfl⟩⟩ (by simp only[WkL,aF,jH,jI,jJ,jK,bI,cr,go_sem,reduceIte,jA,jB,jC,jD,reduceCtorEq,jE,jF]) ?_
   rintro⟨i,oS⟩ hp nx1 ⟨hi,hnx,hdm,hsm,hb0,hb1,hb2,aCm⟩;generalize hQ:bP _ _ _ _ _=Q0;dsimp only at hi aCm hb2;simp only[aF,go_sem,reduceIte,jA,jB,jC,jD,reduceCtorEq,jE,jF];have n1:nx<nx1:=or;have n2:nx+1<nx1:=or;have n3:nx+2<nx1:=or;rcases Kz i O.length with hlt|hge
   ·have hc:decide ((i:Int)<(O.length:Int))=true:=dct;have hg:(O.map kV).getD i (.tup [])= .int .i64 O[i]:=aS kV O i hlt;have hw:IntKind.i64.wrap ((i:Int)+1)=((i+1:Nat):Int):=wrp;have hkb:=aEN O[i] (Kg _);have hpa:iX r (O.take (i+1)) []=iX r (O.take i) []++[sT (r.b.getD O[i] default) O[i] (bI r (O.take i) [])]:=by rw[Kd hlt,zX]
    have hba:bI r (O.take (i+1)) []=nmL (bI r (O.take i) []) (r.b.getD O[i] default).ts:=by rw[Kd hlt,pM]
    have hvl:=hbl i;have hpl:(iX r (O.take i) []).length≤8:=by rw[rX,Kj];omega
    generalize bI r (O.take i) []=hv at*;generalize iX r (O.take i) []=ps at*;have hD:r.b.getD O[i] default=r.b[O[i]]:=by rw[Ka,Kb hkb];rfl
    have hg2:=aS Li.v r.b O[i] hkb;have hrl:=b3 r.b[O[i]] (Kg _);rw[hD] at hpa hba;generalize r.b[O[i]]=l at hg2 hrl hpa hba;generalize O[i]=k at hg hkb hg2 hpa;have hlv:=nR hrl;have hf:=Li.aAK l;obtain⟨o1,ho1⟩:=cU .leaf (l.vars.map V.str);have C4:∀h:Hp,aL Tryz.prog 40 [l.v] h (.sl .leaf o1 (l.vars.map V.str)):=fun h=>ho1▸rM l hrl h;have C3:=fun h=>rg l h;obtain⟨T,hT,hk0,hat⟩:∃T,l.v= .agg T∧T.getD 0 (.tup [])= .int .i64 l.k∧(T.drop 1).take 2=[.str l.a.r,trs l.a.o l.a.l]:=⟨_,rfl,rfl,rfl⟩;rw[hT] at hg2 hf C3 C4;obtain⟨ow,how⟩:=cU .leaf (hv.map V.str);rw[how];clear C1 C2;refine aue (e12 hc hg hlt hb0 n1 hg2 hf hkb hk0 (@jK Nat V) (@jK Li V) jG) ?_;refine cC ((tI pd or ow (hv.map V.str) (by rw[jK];omega) (fun e=>by rw[e] at how;cases hm:hv.map V.str with|nil=>rfl|cons a b=>rw[hm] at how;cases how) _ (nx1+2)).dom.mono ?_);rintro vC h2 nx2 aAd ⟨hcl,hd2,_⟩;have hdA:aV ((hp.set nx1 (.arr (.agg 17) [.agg [.int .i64 0, .str ⟨#[]⟩, .sl (.agg 4) .nil [], .int .i64 0, .int .i64 0, .str ⟨#[]⟩, .int .i64 0, .int .i64 0, .str ⟨#[]⟩, .sl (.agg 6) .nil [], .int .i64 0, .str ⟨#[]⟩, .int .i64 0, .int .i64 0, .str ⟨#[]⟩, .sl (.agg 6) .nil [], .int .i64 0]])).set nx1 (.arr (.agg 17) [.agg T])) (nx1+2):=dmo hdm;obtain⟨oc,rfl,aKs,hs2⟩:=hcl.acc how hdA;unfold dR;refine Zn ?_;have hb8:h2 nx1=some (.arr (.agg 17) [.agg T]):=by rw[hs2 nx1 or];simp only[go_sem,reduceIte,jA,jB,jC,jD,reduceCtorEq,jE,jF]
    have n8:nx1<nx2:=or;have aOd:=hdm;refine aue (e6 hf hb8 n8 trs.eq_1 (@jK ByteArray V) hc) ?_;obtain⟨kd,hkd⟩:∃kd:Int,(if l.k=1 then 1 else if l.k=2 then 2 else 3)=kd:=⟨_,rfl⟩;rw[hkd];have hwt:nmL hv l.ts=hv++l.vars.filter fun v=> !bZ v hv:=s8 hv l;generalize hSQ:mR (lwp Tryz.prog _) _=SQ
    refine aW (fun q:Nat×Own=>aF 82 0 [(1, .ptr nx (.agg 6) 0 0),(2, .ptr (nx+1) (.agg 7) 0 0),(3, .nilIface),(4, .ptr (nx+2) (.agg 7) 0 0),(5, .sl .leaf ow (hv.map V.str)),(8, .ptr nx1 (.agg 17) 0 0),(9, .ptr nx2 (.agg 5) 0 0),(28, .sl .leaf oo (O.map kV)),(29, .int .i64 O.length),(30, .int .i64 i),(47, .sl .leaf o1 (l.vars.map V.str)),(48, .int .i64 l.vars.length),(49, .int .i64 q.1)])
     (fun q hp3 nx3=>q.1≤l.vars.length∧nx2+2≤nx3∧aV hp3 nx3∧Hp.same (nx1+2) h2 hp3∧hp3 nx2=some (.arr (.agg 5) [.agg [.int .i64 kd, .int .i64 k, .sl .leaf ow (hv.map V.str), .sl .leaf q.2 ((hv++(l.vars.take q.1).filter fun v=> !bZ v hv).map V.str), .sl .leaf .nil []]])∧
       Acc hp3 (nx1+2) q.2 ((hv++(l.vars.take q.1).filter fun v=> !bZ v hv).map V.str))
     (fun q=>l.vars.length-q.1) (0,oc) ⟨KA _,Zw,by exact dmo hd2,by exact kep Hp.same.aCU,by simp only[Kw,Kv,Km,go_sem,reduceIte,jA,jB,jC,jD,reduceCtorEq,jE,jF],by simp only[Kw,Kv,Km];exact acc aKs hd2⟩ (by simp only[WkL,aF,jH,jI,jJ,jK,go_sem,reduceIte,jA,jB,jC,jD,reduceCtorEq,jE,jF]) ?_
    rintro⟨j,ow2⟩ hp3 nx3 ⟨hj,aNg,hdm,aJ6,hb9,aAv⟩;generalize hQ2:bP _ _ _ _ _=Q2;dsimp only at hj aAv hb9;simp only[aF,go_sem,reduceIte,jA,jB,jC,jD,reduceCtorEq,jE,jF];have n9:nx2<nx3:=or;rcases Kz j l.vars.length with hjl|hjg
    ·have hc2:decide ((j:Int)<(l.vars.length:Int))=true:=dct;have hgv:=aS V.str l.vars j hjl;have hw2:IntKind.i64.wrap ((j:Int)+1)=((j+1:Nat):Int):=wrp;have htk:hv++(l.vars.take (j+1)).filter (fun v=> !bZ v hv)=(hv++(l.vars.take j).filter fun v=> !bZ v hv)++(if bZ l.vars[j] hv=true then [] else [l.vars[j]]):=by
      rw[Kd hjl,List.filter_append,List.append_assoc];congr 2;cases hq:bZ l.vars[j] hv<;>simp[hq]
     have hwl:(hv++(l.vars.take j).filter fun v=> !bZ v hv).length≤100000000:=by
      rw[List.length_append];have:=List.length_filter_le (fun v=> !bZ v hv) (l.vars.take j);rw[Kj] at this;omega
     generalize (hv++(l.vars.take j).filter fun v=> !bZ v hv)=W at hb9 aAv htk hwl;generalize l.vars[j]=x at hgv htk;have C1:∀h:Hp,aL Tryz.prog 41 [.sl .leaf ow (hv.map V.str), .str x] h (.bool (bZ x hv)):=fun h=>gF ow hv or x h;have hml:(W.map V.str).length=W.length:=jK ..;cases hb:bZ x hv with
     |true=>
      rw[hb] at C1 htk;rw[if_pos rfl,Km] at htk;refine aue (e6 hc2 hgv hjl (@jK ByteArray V) jG hw2) ?_;rw[←hQ2];exact aH (j+1,ow2) Zw ⟨hjl,or,dmo hdm,kep aJ6,by dsimp only;rw[htk];exact hb9,by dsimp only;rw[htk];exact aAv⟩ (by simp only[WkL,aF,jH,jI,jJ,go_sem,reduceIte,jA,jB,jC,jD,reduceCtorEq,jE,jF])
     |false=>
      rw[hb] at C1 htk;rw[if_neg Zm] at htk;have aOc:∀H:Hp,H.aBR ow2 nx2=if ow2= .tok nx2 then none else H nx2:=fun H=>by
       unfold Hp.aBR;cases ow2 with
       |tok m=>
        simp only[Hp.del,Own.tok.injEq];by_cases hm:nx2=m
        ·simp[hm]
        rw[if_neg hm,if_neg (fun e=>hm e.symm)]
       |_=>simp
      have aOP:(ow2= .tok nx2)=False:=eq_false fun e=>by
       rcases aAv with⟨_,h⟩|⟨_,id,_,h,h3⟩
       ·rw[h] at e;cases e
       rw[h] at e;injection e with e;rw[e,hb9] at h3;cases h3
      refine aue (e12 hc2 hgv hjl (@jK ByteArray V) jG hw2 hb9 n9 hml hwl aOc aOP) ?_;rw[←hQ2];have f9:(nx3+1=nx2)=False:=fls;refine aH (j+1, .tok (nx3+1)) Zw ⟨hjl,or,dmo hdm,t7 aJ6 aAv,?_,?_⟩ (by simp only[WkL,aF,jH,jI,jJ,go_sem,reduceIte,jA,jB,jC,jD,reduceCtorEq,jE,jF])
      ·dsimp only;rw[htk,Ke];simp only[Kf,Kh,go_sem,reduceIte,jA,jB,jC,jD,reduceCtorEq,jE,jF]
      dsimp only;rw[htk,Ke];exact .inr ⟨Zm,nx3+1,or,rfl,by simp only[f9,go_sem,reduceIte,jA,jB,jC,jD,reduceCtorEq,jE,jF]⟩
    have hc2:decide ((j:Int)<(l.vars.length:Int))=false:=dcf;refine aue hc2 ?_;rw[←hQ2];refine au ?_;rw[Ko or,←hwt] at hb9 aAv;rw[←hSQ];refine lF (sh (n:=nx2) (k:= .agg 5) hb9) ?_;simp only[Kf,Kh];rw[ku kd k ow ow2 hv (nmL hv l.ts) how aAv];clear aAv hQ2 hSQ hwt;have aAi:∀m,m<nx1→hp3 m=hp m:=fun m hm=>by
     rw[aJ6 m or,hs2 m or];simp only[Hp.set];rw[if_neg or,if_neg or]
    have hc0:=(aAi nx n1).trans hb0;have hc1:=(aAi (nx+1) n2).trans hb1;have hc2:=(aAi (nx+2) n3).trans hb2;have hc8:=(aJ6 nx1 or).trans hb8;have aNd:Hp.same nx h' hp3:=fun m hm=>by rw[aAi m or];exact hsm m hm
    have aAv:Acc hp3 (nx+4) oS (ps.map PS.v):=aCm.imp id fun⟨a,id,b,c,d⟩=>⟨a,id,b,c,by rw[aAi id (by rcases aCm with h|⟨_,id2,_,h2,h3⟩;exact absurd h.1 a;rw[c] at h2;injection h2 with h2;rw[h2];exact aOd _ _ h3)];exact d⟩;have m1:nx<nx3:=or;have m2:nx+1<nx3:=or;have m3:nx+2<nx3:=or;have m4:nx1<nx3:=or;have k1:(nx1=nx2)=False:=fls;have k2:(nx=nx2)=False:=fls;have k3:(nx+1=nx2)=False:=fls;have k4:(nx+2=nx2)=False:=fls;have k5:(nx2=nx+2)=False:=fls;have hPS:(sT l k hv).v= .agg [.int .i64 kd, .int .i64 k,lst .leaf (hv.map V.str),lst .leaf ((nmL hv l.ts).map V.str),lst .leaf ((if l.k=1∨l.k=2 then pT l.a hv else []).map kV)]:=by rw[←hkd];rfl
    generalize nmL hv l.ts=W at hPS hba hb9⊢;obtain⟨ow3,aKa⟩:=cU .leaf (W.map V.str);have hml:(ps.map PS.v).length=ps.length:=jK ..;rw[how,aKa] at hPS⊢;have hd0:∀H:Hp,H.aBR oS nx=H nx:=fun H=>uZ fun id e=>by have:=aAv.ge id e;omega
    have hd1:∀H:Hp,H.aBR oS (nx+1)=H (nx+1):=fun H=>uZ fun id e=>by have:=aAv.ge id e;omega
    have hd2:∀H:Hp,H.aBR oS (nx+2)=H (nx+2):=fun H=>uZ fun id e=>by have:=aAv.ge id e;omega
    have hd9:∀H:Hp,H.aBR oS nx2=H nx2:=fun H=>uZ fun id e q=>by
     rcases aAv with h|⟨_,id2,_,h2,h3⟩
     ·rw[h.2] at e;cases e
     rw[h2] at e;injection e with e;rw[e,←q,hb9] at h3;cases h3
    by_cases hk3:l.k=3
    ·have g3:(kd != 3)=false:=bnf (by rw[←hkd,hk3];rfl);rw[if_neg or] at hPS;have hPS:(sT l k hv).v= .agg [.int .i64 kd, .int .i64 k, .sl .leaf ow (hv.map V.str), .sl .leaf ow3 (W.map V.str), .sl .leaf .nil []]:=hPS;refine aue (e11 hc hc0 hc2 hc8 m3 g3 n9 hpl hml (e4 k4 k5 k1 (e4 hd0 hd1 hd2 hd9)) (e2 hw m1)) ?_;rw[←hQ];have hW:lst .leaf ((bI r (O.take (i+1)) []).map V.str)= .sl .leaf ow3 (W.map V.str):=by rw[hba,aKa]
     refine aH (i+1, .tok (nx3+1)) Zw ⟨hlt,or,dmo hdm,t7 aNd aAv,by simp only[hd0,hc0,m1,k2,go_sem,reduceIte,jA,jB,jC,jD,reduceCtorEq,jE,jF],by simp only[hd1,hc1,m2,k3,go_sem,reduceIte,jA,jB,jC,jD,reduceCtorEq,jE,jF],?_,?_⟩ (by simp only[WkL,aF,jH,jI,jJ,hW,go_sem,reduceIte,jA,jB,jC,jD,reduceCtorEq,jE,jF])
     ·dsimp only;rw[hpa,Ke,Kf,Kh,hPS];simp only[go_sem,reduceIte,jA,jB,jC,jD,reduceCtorEq,jE,jF]
     dsimp only;rw[hpa,Ke,Kf,Kh,hPS];exact .inr ⟨Zm,nx3+1,or,rfl,by simp only[(fls:(nx3+1=nx+2)=False),go_sem,reduceIte,jA,jB,jC,jD,reduceCtorEq,jE,jF]⟩
    have aKg:l.k=1∨l.k=2:=by
     have:=(sr hrl);omega
    have g3:(kd != 3)=true:=by
     rw[←hkd];rcases aKg with e|e<;>simp[e]
    have hlp:bF (.agg 2) 1 (.agg T)= .agg [.str l.a.r,trs l.a.o l.a.l]:=congrArg V.agg hat
    obtain⟨o5,ho5⟩:=cU .leaf ((pT l.a hv).map kV);have C2:=fun h=>qc l.a (by
     unfold cT at hrl;rw[if_pos aKg] at hrl;unfold lS at hrl;simp only[Ki,decide_eq_true_eq] at hrl;have:=hrl.1.1.1.2;omega) ow hv or h
    simp only[Am.v,trs] at C2;rw[ho5] at C2;rw[if_pos aKg,ho5] at hPS;have aOS:((pT l.a hv).map kV).length=(pT l.a hv).length:=jK ..;refine aue (e11 hc hc0 hc2 hc8 m3 g3 n9 hpl hml (e4 k4 k5 k1 (e5 hd0 hd1 hd2 hd9 m4)) (e5 hw m1 aOS hlp trs.eq_1)) ?_;rw[←hQ];have hW:lst .leaf ((bI r (O.take (i+1)) []).map V.str)= .sl .leaf ow3 (W.map V.str):=by rw[hba,aKa]
    refine aH (i+1, .tok (nx3+2)) Zw ⟨hlt,or,dmo hdm,t7 aNd aAv,by simp only[hd0,hc0,m1,k2,go_sem,reduceIte,jA,jB,jC,jD,reduceCtorEq,jE,jF],by simp only[hd1,hc1,m2,k3,go_sem,reduceIte,jA,jB,jC,jD,reduceCtorEq,jE,jF],?_,?_⟩ (by simp only[WkL,aF,jH,jI,jJ,hW,go_sem,reduceIte,jA,jB,jC,jD,reduceCtorEq,jE,jF])
    ·dsimp only;rw[hpa,Ke,Kf,Kh,hPS];simp only[go_sem,reduceIte,jA,jB,jC,jD,reduceCtorEq,jE,jF]
    dsimp only;rw[hpa,Ke,Kf,Kh,hPS];exact .inr ⟨Zm,nx3+2,or,rfl,by simp only[(fls:(nx3+2=nx+2)=False),go_sem,reduceIte,jA,jB,jC,jD,reduceCtorEq,jE,jF]⟩
   have hc:decide ((i:Int)<(O.length:Int))=false:=dcf;refine aue hc ?_;rw[←hQ];rw[Ko or] at aCm hb2;refine aue (e5 hb1 hb2 n1 n2 n3) ?_;refine kP (by simp only[hb1,hb2,go_sem,reduceIte,jA,jB,jC,jD,reduceCtorEq,jE,jF]) h' (lef hd (hsm.le hd (Hp.le_refl _))) ⟨?_,Hp.le_refl _⟩;rw[←gq r aCm];refine Zn ?_;rfl
end Go.Proofs.YtgbiopfghdilnaaGreatDoor
namespace Go.Proofs.YtgbiopfghdilnaaGreatDoor
open Go.RowKit Go.Sort
theorem g8{r:Ru}{x:ByteArray}:x∈r.vars↔(∃t∈r.h.l,t.x=x∧t.x.size≠0)∨∃l∈r.b,x∈l.vars:=by
 have key:∀(b:List Li) (o:List ByteArray),x∈b.foldl (fun o l=>nmL o l.ts) o↔x∈o∨∃l∈b,x∈l.vars:=by
  intro b;induction b with
  |nil=>intro o;simp
  |cons a b ih=>
   intro o;rw[List.foldl_cons,ih,lV];simp only[Ks,exists_eq_or_imp,nB (l:=a)];rw[or_assoc]
 unfold Ru.vars;rw[key,lV];simp
theorem zB(r:Ru):r.vars.Nodup:=by
 have key:∀(b:List Li) (o:List ByteArray),o.Nodup→(b.foldl (fun o l=>nmL o l.ts) o).Nodup:=by
  intro b;induction b with
  |nil=>intro o h;exact h
  |cons a b ih=>intro o h;exact ih _ (nW h)
 exact key _ _ (nW Kx)
theorem rH(r:Ru):∀(ks:List Nat) (hv:List ByteArray),hv.Nodup→(bI r ks hv).Nodup
 | [],hv,h=>h
 |k::ks,hv,h=>rH r ks _ (nW h)
theorem yB(r:Ru)(x:ByteArray):∀(ks:List Nat) (hv:List ByteArray),(∀k∈ks,k<r.b.length)→x∈bI r ks hv→x∈hv∨∃l∈r.b,x∈l.vars
 | [],hv,_,h=> .inl h
 |k::ks,hv,hk,h=>by
  have hkb:=hk k Kt;rcases yB r x ks _ (fun y hy=>hk y (Kp _ hy)) h with h|h
  ·rw[lV] at h;rcases h with h|h
   ·exact .inl h
   have hD:r.b.getD k default=r.b[k]:=by rw[Ka,Kb hkb];rfl
   rw[hD] at h;exact .inr ⟨_,Kg hkb,nB.2 h⟩
  exact .inr h
theorem qX{α:Type}{p:α→Bool}{l:List α}(h:aY p l<0):∀x∈l,p x=false:=by
 have h1:=kI p l;rw[decide_eq_false or] at h1;intro x hx;cases hp:p x with
 |false=>rfl
 |true=>rw[List.any_eq_true.2 ⟨x,hx,hp⟩] at h1;cases h1
theorem xr{r:Ru}(hr:∀l∈r.b,cT l=true){s:List ByteArray}{left:List Nat}(h:iD r s left<0)(inv:∀k,k<r.b.length→k∈left∨∀x∈(r.b.getD k default).vars,x∈s):∀x∈eG r,x∈s:=by
 have h1:(∀k∈left,gO s (r.b.getD k default)=false)∧∀k∈left,decide ((r.b.getD k default).k=1)=false:=by
  unfold iD at h;split at h
  ·omega
  exact⟨qX or,qX h⟩
 obtain⟨he,hp⟩:=h1;have aDK:∀l∈r.b,(∀x∈l.vars,x∈s)∨(gO s l=false∧l.k≠1):=by
  intro l hl;obtain⟨k,hk,rfl⟩:=List.getElem_of_mem hl;have hD:r.b.getD k default=r.b[k]:=by rw[Ka,Kb hk];rfl
  rcases inv k hk with h2|h2
  ·have a:=he k h2;have b:=hp k h2;rw[hD] at a b;exact .inr ⟨a,of_decide_eq_false b⟩
  rw[hD] at h2;exact .inl h2
 have key:∀(n:Nat) (s0:List ByteArray),(∀x∈s0,x∈s)→∀x∈fM r.b n s0,x∈s:=by
  intro n;induction n with
  |zero=>intro s0 h0 x hx;exact h0 x hx
  |succ n ih=>
   intro s0 h0 x hx;unfold fM at hx;cases hf:r.b.find? (fV s0) with
   |none=>rw[hf] at hx;exact h0 x hx
   |some l=>
    rw[hf] at hx;refine ih (s0++l.vars) (fun y hy=>?_) x hx;rcases Kc.1 hy with hy|hy
    ·exact h0 y hy
    have hl:=List.mem_of_find?_eq_some hf;have hs0:=List.find?_some hf;rcases aDK l hl with h3|⟨h3,h4⟩
    ·exact h3 y hy
    exfalso;unfold gO at h3;simp only[Kq,Bool.and_eq_false_iff] at h3;obtain⟨h3,h5⟩:=h3;have h3:iN s l.vars=false:=by
     rcases h3 with h3|h3
     ·exact absurd h4 (by simpa using h3)
     exact h3
    have hlr:=hr l hl;unfold fV at hs0 h5;simp only[Ki,Bool.or_eq_true,decide_eq_true_eq,Bool.not_eq_true'] at hs0;obtain⟨⟨hk,hop⟩,hs0⟩:=hs0;rw[decide_eq_true (p:=l.k=3∧l.op=1) ⟨hk,hop⟩,Ky,Kq] at h5;obtain⟨h5,h6⟩:=h5;unfold cT at hlr;rw[if_neg or] at hlr;simp only[Ki,decide_eq_true_eq] at hlr;have hal:=hlr.1.1.2.2.1;have aAo:∀(p q:Ex),(∀t,t∈l.ts↔t∈p.ts∨t∈q.ts)→(cL p).size≠0→iN s0 (nmL [] q.ts)=true→(decide ((cL p).size≠0)&& !bZ (cL p) s&&iN s (nmL [] q.ts))=false→False:=by
     intro p q hts hp1 hq hf;have hq':=sN h0 hq;rw[hq',Bool.and_true,decide_eq_true hp1,Ky,Bool.not_eq_false'] at hf;have hps:=fC.1 hf;obtain⟨e1,e2⟩:=j2 hp1;have:iN s l.vars=true:=by
      rw[jZ];intro v hv;obtain⟨t,ht,hx,hz⟩:=nB.1 hv;rcases(hts t).1 ht with ht|ht
      ·rw[e1,List.mem_singleton] at ht;rw[←hx,ht,←e2];exact hps
      exact jZ.1 hq' v (lV.2 (.inr ⟨t,ht,hx,hz⟩))
     rw[this] at h3;cases h3
    rcases hs0 with⟨⟨a,b⟩,c⟩|⟨⟨a,b⟩,c⟩
    ·exact aAo l.x l.y (fun t=>by simp[Li.ts,hal]) a c h5
    exact aAo l.y l.x (fun t=>by simp[Li.ts,hal,or_comm]) a c h6
 refine key _ _ fun x hx=>?_;unfold tO at hx;rw[List.mem_flatMap] at hx;obtain⟨l,hl,hx⟩:=hx;split at hx
 ·rename_i hk;rcases aDK l hl with h2|⟨_,h2⟩
  ·exact h2 x hx
  exact absurd hk h2
 cases hx
theorem qd{r:Ru}(hr:∀l∈r.b,cT l=true):∀(n:Nat) (s:List ByteArray) (left:List Nat) (hv:List ByteArray),left.length=n→(∀k,k<r.b.length→k∈left∨∀x∈(r.b.getD k default).vars,x∈s)→(∀x,x∈hv↔x∈s)→∀x∈eG r,x∈bI r ((fU r n s left).map Prod.fst) hv:=by
 intro n;induction n with
 |zero=>
  intro s left hv hl inv hs x hx;have:left=[]:=List.length_eq_zero_iff.1 hl;subst this;exact(hs x).2 (xr hr (by rcases qG r s [] with e|⟨i,e,h⟩;omega;cases h) inv x hx)
 |succ n ih=>
  intro s left hv hl inv hs x hx;unfold fU;split
  ·rename_i h;exact(hs x).2 (xr hr h inv x hx)
  rename_i h;rcases qG r s left with e|⟨i,e,hi⟩
  ·omega
  rw[e];simp only[Int.toNat_natCast,Kf,bI];refine ih _ _ _ (by rw[List.length_eraseIdx_of_lt hi];omega) (fun k hk=>?_) (fun y=>?_) x hx
  ·rcases inv k hk with h2|h2
   ·have hd:left.getD i 0=left[i]:=by rw[Ka,Kb hi];rfl
    rw[hd];have e2:left=left.take i++left[i]::left.drop (i+1):=by rw[List.getElem_cons_drop,List.take_append_drop]
    have h3:k∈left.take i++left[i]::left.drop (i+1):=e2▸h2;rw[List.eraseIdx_eq_take_drop_succ];simp only[Kc,Ks] at h3⊢;rcases h3 with h3|h3|h3
    ·exact .inl (.inl h3)
    ·subst h3;exact .inr fun y hy=> .inr hy
    exact .inl (.inr h3)
   exact .inr fun y hy=>Kc.2 (.inl (h2 y hy))
  rw[lV,Kc,hs,nB]
theorem jz{r:Ru}(hr:eM r=true)(hs:cY r (eG r) false=[]):(bI r (bX r) []).length=r.vars.length:=by
 obtain⟨_,_,b3⟩:=dA hr;have h1:∀x∈r.vars,x∈eG r:=fun x hx=>by
  cases hb:bZ x (eG r) with
  |true=>exact fC.1 hb
  |false=>
   have:x∈cY r (eG r) false:=Kk.2 ⟨hx,by rw[hb];rfl⟩;rw[hs] at this;cases this
 refine((List.perm_ext_iff_of_nodup (rH r _ _ Kx) (zB r)).2 fun x=>⟨fun h=>?_,fun h=>?_⟩).length_eq
 ·rcases yB r x _ _ (wF r) h with h|h
  ·cases h
  exact g8.2 (.inr h)
 unfold bX lO;exact qd b3 _ [] (List.range r.b.length) [] Zm (fun k hk=> .inl (List.mem_range.2 hk)) (fun x=>Iff.rfl) x (h1 x h)
end Go.Proofs.YtgbiopfghdilnaaGreatDoor
