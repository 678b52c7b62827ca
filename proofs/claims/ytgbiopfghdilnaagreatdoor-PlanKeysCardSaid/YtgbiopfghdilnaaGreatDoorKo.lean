/-
Texts of this proof,one behind the other. No conditions.
-/
import Derived.Test.YtgbiopfghdilnaaGreatDoorKd
import Derived.Test.YtgbiopfghdilnaaGreatDoorKn
import Derived.Test.YtgbiopfghdilnaaGreatDoorKj
open List renaming take_succ_eq_append_getElem→Ka,map_append→Kb,getD_eq_getElem?_getD→Kc,map_cons→Kd,getElem?_eq_getElem→Ke,map_nil→Kf,getElem_mem→Kg,length_take→Kh,mem_append→Ki,append_nil→Kj,take_of_length_le→Kk,mem_filter→Kp,filter_nil→Kq,take_zero→Ks
open Bool renaming not_eq_true→Km,and_eq_true→Ko
open Nat renaming lt_or_ge→Kt,zero_le→Ku
open Nat renaming reduceAdd→jA,reduceSub→jB,reduceLT→jC,reduceLeDiff→jD,reduceEqDiff→jE
open Int renaming reduceToNat→jF,toNat_natCast→jG,natCast_add→jH,natCast_one→jI,natCast_zero→jJ
open List renaming length_map→jK,length_cons→jL,length_nil→jM,replicate_succ→jN,replicate_zero→jO,cons_append→jP,nil_append→jQ
set_option linter.unusedSimpArgs false
set_option linter.unusedVariables false
set_option linter.unusedSectionVars false
set_option maxHeartbeats 8000000
namespace Go.Proofs.YtgbiopfghdilnaaGreatDoor
open Go.RowKit Go.Sort
attribute [local irreducible] IntKind.wrap
set_option maxHeartbeats 4000000
structure PS where
 k:Int
 i:Nat
 hv:List ByteArray
 wt:List ByteArray
 ky:List Nat
def PS.v(s:PS):V:= .agg [.int .i64 s.k, .int .i64 s.i,lst .leaf (s.hv.map V.str),lst .leaf (s.wt.map V.str),lst .leaf (s.ky.map kV)]
theorem PS.aAD(s:PS):s.v.fits (.agg 5)=true:=by
 show(true&&((V.int .i64 s.k).aAE&&((V.int .i64 s.i).aAE&&((lst .leaf (s.hv.map V.str)).aAE&&((lst .leaf (s.wt.map V.str)).aAE&&((lst .leaf (s.ky.map kV)).aAE&&true))))))=true;simp only[wb];rfl
instance:Inhabited PS:=⟨⟨0,0,[],[],[]⟩⟩
def kA(l:Li)(k:Nat)(hv:List ByteArray):PS:=⟨if l.k=1 then 1 else if l.k=2 then 2 else 3,k,hv,nmL hv l.ts,if l.k=1∨l.k=2 then pX l.a hv else []⟩
def kH(r:Ru):List Nat→List ByteArray→List PS
 | [],_=>[]
 |k::ks,hv=>kA (r.b.getD k default) k hv::kH r ks (nmL hv (r.b.getD k default).ts)
def rV(r:Ru):List PS:=kH r (dB r) []
def cW(r:Ru):List Nat→List ByteArray→List ByteArray
 | [],hv=>hv
 |k::ks,hv=>cW r ks (nmL hv (r.b.getD k default).ts)
theorem df(r:Ru):∀(a:List Nat) (k:Nat) (hv:List ByteArray),kH r (a++[k]) hv=kH r a hv++[kA (r.b.getD k default) k (cW r a hv)]
 | [],k,hv=>rfl
 |x::a,k,hv=>by simp only[jP,kH,cW,df r a k]
theorem aa(r:Ru):∀(a:List Nat) (k:Nat) (hv:List ByteArray),cW r (a++[k]) hv=nmL (cW r a hv) (r.b.getD k default).ts
 | [],k,hv=>rfl
 |x::a,k,hv=>by simp only[jP,cW,aa r a k]
theorem tO(r:Ru):∀(a:List Nat) (hv:List ByteArray),(kH r a hv).length=a.length
 | [],hv=>rfl
 |x::a,hv=>by simp[kH,tO r a]
theorem yB(hv:List ByteArray):∀(ts:List Tr) (l:List ByteArray),nmL (hv++l.filter fun v=> !cD v hv) ts=hv++(nmL l ts).filter fun v=> !cD v hv
 | [],l=>rfl
 |t::ts,l=>by
  have key:nmT (hv++l.filter fun v=> !cD v hv) t=hv++(nmT l t).filter fun v=> !cD v hv:=by
   unfold nmT;by_cases h0:t.x.size=0
   ·simp[h0]
   by_cases h1:cD t.x l=true
   ·have h2:cD t.x (hv++l.filter fun v=> !cD v hv)=true:=by
     rw[gN,Ki,Kp];by_cases h3:cD t.x hv=true
     ·exact .inl (gN.1 h3)
     exact .inr ⟨gN.1 h1,by simpa using h3⟩
    simp[h1,h2]
   rw[Km] at h1;by_cases h3:cD t.x hv=true
   ·have h2:cD t.x (hv++l.filter fun v=> !cD v hv)=true:=by rw[gN,Ki];exact .inl (gN.1 h3)
    simp[h0,h1,h2,h3]
   rw[Km] at h3;have h2:cD t.x (hv++l.filter fun v=> !cD v hv)=false:=by
    rw[iO,Ki,Kp];rintro(h|h)
    ·exact iO.1 h3 h
    exact iO.1 h1 h.1
   simp[h0,h1,h2,h3]
  show nmL (nmT _ t) ts=hv++(nmL (nmT l t) ts).filter _;rw[key,yB hv ts]
theorem y4(hv:List ByteArray)(l:Li):nmL hv l.ts=hv++l.vars.filter fun v=> !cD v hv:=by
 have:=yB hv l.ts [];unfold Li.vars;simpa using this
def loO:Own→Own
 | .nil=> .nil
 |_=> .free
def Ru.lo(r:Ru):Ru:=⟨⟨r.h.r,loO r.h.o,r.h.l⟩,r.g,r.c,loO r.o,r.b,r.at_⟩
def dJ(r:Ru)(l:List PS):V:= .agg [.str r.h.r,trs r.h.o r.h.l, .int .i64 r.g, .int .i64 r.c, .sl (.agg 17) r.o (r.b.map Li.v), .int .i64 r.at_,lst (.agg 5) (l.map PS.v)]
def ru0:Ru:=⟨⟨⟨#[]⟩, .nil,[]⟩,0,0, .nil,[],0⟩
def de(r:Ru):Ru×List PS×Int:=if eQ r=false then (ru0,[],2) else if dU r (iT r) false≠ [] then (ru0,[],8) else (r.lo,rV r,0)
def xX(r:Ru):V:= .tup [dJ (de r).1 (de r).2.1,dP (de r).2.2]
theorem sh.acc{own:Own}{es:List V}{nx:Nat}{h:Hp}{v:V}{h':Hp}(ho:lst .leaf es= .sl .leaf own es)(hd:aW h nx)(c:sh .leaf own es nx h v h'):∃o,v= .sl .leaf o es∧Acc h' nx o es∧Hp.same nx h h':=by
 rcases c with⟨h1,rfl,rfl⟩|⟨h1,id,h2,rfl,rfl⟩
 ·subst h1;cases es with
  |nil=>exact⟨.nil,rfl, .inl ⟨rfl,rfl⟩,Hp.same.aBb⟩
  |cons a b=>cases ho
 cases es with
 |nil=>rw[th] at ho;injection ho with _ e _;exact absurd e.symm h1
 |cons a b=>exact⟨_,rfl, .inr ⟨Zm,id,h2,rfl,by simp[Hp.set]⟩,fun m hm=>by simp only[Hp.set];rw[if_neg or]⟩
theorem xy{h:Hp}{n0:Nat}{o:Own}{es:List V}(a:Acc h n0 o es):(V.sl .leaf o es).loose=lst .leaf es:=by
 rcases a with⟨rfl,rfl⟩|⟨h1,id,_,rfl,_⟩
 ·rfl
 cases es with
 |nil=>exact absurd rfl h1
 |cons a b=>rfl
theorem vY{P:Program}{f:FuncId}{args:List V}{h:Hp}{v:V}(hv:∀L,bD L args→v.names L)(hc:∀h' nx,h.has h'→aQ P f args h' nx fun v' h'' _=>v'.aAu=v∧h'.le h''):aM P f args h v:=
 rT hv fun h' nx hh=>(hc h' nx hh).aMC fun v' h'' nx' _ _ hq=>⟨h',hq.2,hq.1,rfl⟩
theorem yA(r:Ru):∀k∈dB r,k<r.b.length:=by
 have key:∀(n:Nat) (s:List ByteArray) (left:List Nat),(∀k∈left,k<r.b.length)→∀p∈iR r n s left,p.1<r.b.length:=by
  intro n;induction n with
  |zero=>intro s left _ p hp;cases hp
  |succ n ih=>
   intro s left hl p hp;unfold iR at hp;split at hp
   ·cases hp
   rename_i aBg;rcases List.mem_cons.1 hp with rfl|hp
   ·rcases k7 r s left with h|⟨i,h,hi⟩
    ·omega
    rw[h,jG];have:left.getD i 0=left[i]:=by rw[Kc,Ke hi];rfl
    dsimp only;rw[this];exact hl _ (Kg _)
   exact ih _ _ (fun k hk=>hl k (List.mem_of_mem_eraseIdx hk)) p hp
 intro k hk;obtain⟨p,hp,rfl⟩:=List.mem_map.1 hk;exact key _ _ _ (fun k hk=>by simpa using hk) p hp
theorem qZ(r:Ru)(hb:∀l∈r.b,cF l=true):∀(ks:List Nat) (hv:List ByteArray),(∀k∈ks,k<r.b.length)→(cW r ks hv).length≤hv.length+ks.length*2097158
 | [],hv,_=>by simp[cW]
 |k::ks,hv,h=>by
  have h1:=qZ r hb ks (nmL hv (r.b.getD k default).ts) fun x hx=>h x (List.mem_cons_of_mem _ hx);have hk:=h k List.mem_cons_self;have h2:=lE (r.b.getD k default).ts hv;have h3:(r.b.getD k default).ts.length≤2097158:=by
   rw[Kc,Ke hk];exact gW (hb _ (Kg _))
  unfold cW;simp only[jL,Nat.add_mul,Nat.one_mul];omega
theorem xR{l:Li}(h:cF l=true):l.k=1∨l.k=2∨l.k=3:=by
 unfold cF at h;split at h
 ·rename_i hk;omega
 simp only[Ko,decide_eq_true_eq] at h;exact .inr (.inr h.1.1.1)
theorem Ru.aB2(r:Ru)(l:List PS)(L:Nat→Prop)(h:bD L [r.v]):(dJ r.lo l).names L:=by
 have h:=h.1;simp only[Ru.v,V.names,bD] at h;obtain⟨_,⟨h1,h2⟩,_,_,⟨h3,h4⟩,_⟩:=h;have lo:∀(o:Own) n,loO o= .tok n→L n:=fun o n e=>by cases o<;>cases e
 refine⟨trivial,⟨lo _,h2⟩,trivial,trivial,⟨lo _,h4⟩,trivial,?_,trivial⟩;refine cZ (fun L=>bB (fun s=>?_) _) L;exact⟨trivial,trivial,cZ (fun L=>bB (f:=V.str) (fun _=>trivial) _) L,cZ (fun L=>bB (f:=V.str) (fun _=>trivial) _) L,cZ (fun L=>bB (f:=kV) (fun _=>trivial) _) L,trivial⟩
theorem ku(r:Ru){h:Hp}{n0:Nat}{oS:Own}{ps:List PS}(a:Acc h n0 oS (ps.map PS.v)):(V.agg [.str r.h.r, .sl (.agg 4) r.h.o (r.h.l.map Tr.v), .int .i64 r.g, .int .i64 r.c, .sl (.agg 17) r.o (r.b.map Li.v), .int .i64 r.at_, .sl (.agg 5) oS (ps.map PS.v)]).loose=dJ r.lo ps:=by
 have h5:V.sl (.agg 5) (loO oS) (ps.map PS.v)=lst (.agg 5) (ps.map PS.v):=by
  rcases a with⟨h1,rfl⟩|⟨h1,id,_,rfl,_⟩
  ·rw[h1];rfl
  cases hm:ps.map PS.v with
  |nil=>exact absurd hm h1
  |cons a b=>rfl
 obtain⟨⟨hr,ho,hl⟩,g,c,o,b,at_⟩:=r;unfold dJ Ru.lo;rw[←h5];cases ho<;>cases o<;>cases oS<;>rfl
theorem pj(k:Int)(i:Nat)(ow o2:Own)(hv w:List ByteArray)(how:lst .leaf (hv.map V.str)= .sl .leaf ow (hv.map V.str)){h:Hp}{n0:Nat}(a:Acc h n0 o2 (w.map V.str)):(V.agg [.int .i64 k, .int .i64 i, .sl .leaf ow (hv.map V.str), .sl .leaf o2 (w.map V.str), .sl .leaf .nil []]).loose= .agg [.int .i64 k, .int .i64 i,lst .leaf (hv.map V.str),lst .leaf (w.map V.str), .sl .leaf .nil []]:=by
 have h1:(V.sl .leaf ow (hv.map V.str)).loose=lst .leaf (hv.map V.str):=by
  rw[←how];unfold lst;split<;>rfl
 rw[←h1,←xy a];cases ow<;>cases o2<;>rfl
set_option maxHeartbeats 8000000 in
theorem vH(r:Ru)(h:Hp):aM Tryz.prog 9 [r.v] h (xX r):=by
 have hnm:∀L,bD L [r.v]→(xX r).names L:=fun L hL=>by
  unfold xX de;refine⟨?_,dO L _,trivial⟩;split
  ·simp[dJ,ru0,V.names,bD,lst]
  split
  ·simp[dJ,ru0,V.names,bD,lst]
  exact Ru.aB2 r _ L hL
 refine vY hnm fun h' nx hh=>aB L.g3z fun hd=>?_;have hd:aW h' nx:=hd;have C1:=fun h=>pw r h;have C2:=fun hr h=>gh r hr h;have C3:=fun hr h=>qd r hr h;simp only[Ru.v] at C1 C2 C3;simp only[jL,jM,jA,jB,jN,jO,jP,jQ,V.undef];unfold xX de;cases hr:eQ r with
 |false=>
  rw[hr] at C1;clear C2 C3;refine aue (e2 Ru.v.eq_1 trs.eq_1) ?_;refine bI (by simp only[go_sem,reduceIte,jA,jB,jC,jD,reduceCtorEq,jE,jF]) h' (leo hd) ⟨?_,leo hd⟩;refine Zn ?_;rfl
 |true=>
  rw[hr] at C1
  replace C2:=C2 hr
  replace C3:=C3 hr
  obtain⟨b1,b2,b3⟩:=dI hr;rw[if_neg Zm];cases hsv:dU r (iT r) false with
  |cons a b=>
   rw[hsv] at C2;have g1:decide ((0:Int)<(((a::b).map V.str).length:Int))=true:=dct Zm;have g2:decide ((((a::b).map V.str).length:Int)>0)=true:=dct Zm;generalize (a::b).map V.str=q at C2 g1 g2;clear C3;refine aue (e4 Ru.v.eq_1 trs.eq_1 g1 g2) ?_;refine bI (by simp only[go_sem,reduceIte,jA,jB,jC,jD,reduceCtorEq,jE,jF]) h' (leo hd) ⟨?_,leo hd⟩;refine Zn ?_;rfl
  |nil=>
   rw[hsv] at C2;rw[if_neg Zm];obtain⟨oo,hoo⟩:=cL .leaf ((dB r).map kV);rw[hoo] at C3;have hol:(dB r).length≤8:=by
    unfold dB nY;rw[jK];exact Nat.le_trans (mT ..) b2
   have hz:decide ((0:Int)<((0:Nat):Int))=false:=rfl;refine aue (e4 Ru.v.eq_1 trs.eq_1 (@jK Nat V) hz) ?_;have aDT:=yA r;obtain⟨O,hO⟩:∃O,dB r=O:=⟨_,rfl⟩;have aMl:rV r=kH r O []:=by unfold rV;rw[hO]
   rw[hO] at hol aDT⊢;rw[aMl];have hbl:∀i,(cW r (O.take i) []).length≤16777264:=fun i=>by
    have h1:=qZ r b3 (O.take i) [] fun k hk=>aDT k (List.mem_of_mem_take hk);have h2:(O.take i).length*2097158≤8*2097158:=Nat.mul_le_mul_right _ (by rw[Kh];omega);simp only[jM] at h1;omega
   obtain⟨RB,hRB⟩:∃RB,V.agg [.str r.h.r, .sl (.agg 4) r.h.o (r.h.l.map Tr.v), .int .i64 r.g, .int .i64 r.c, .sl (.agg 17) r.o (r.b.map Li.v), .int .i64 r.at_]=RB:=⟨_,rfl⟩
   refine aS (fun q:Nat×Own=>aF 82 0 [(1, .ptr nx (.agg 6) 0 0),(2, .ptr (nx+1) (.agg 7) 0 0),(3, .nilIface),(4, .ptr (nx+2) (.agg 7) 0 0),(5,lst .leaf ((cW r (O.take q.1) []).map V.str)),(28, .sl .leaf oo (O.map kV)),(29, .int .i64 O.length),(30, .int .i64 q.1)])
    (fun q hp nx1=>q.1≤O.length∧nx+4≤nx1∧aW hp nx1∧Hp.same nx h' hp∧hp nx=some (.arr (.agg 6) [.agg [.str r.h.r, .sl (.agg 4) r.h.o (r.h.l.map Tr.v), .int .i64 r.g, .int .i64 r.c, .sl (.agg 17) r.o (r.b.map Li.v), .int .i64 r.at_]])∧
      hp (nx+1)=some (.arr (.agg 7) [.agg [.str ⟨#[]⟩, .sl (.agg 4) .nil [], .int .i64 0, .int .i64 0, .sl (.agg 17) .nil [], .int .i64 0, .sl (.agg 5) .nil []]])∧
      hp (nx+2)=some (.arr (.agg 7) [.agg [.str r.h.r, .sl (.agg 4) r.h.o (r.h.l.map Tr.v), .int .i64 r.g, .int .i64 r.c, .sl (.agg 17) r.o (r.b.map Li.v), .int .i64 r.at_, .sl (.agg 5) q.2 ((kH r (O.take q.1) []).map PS.v)]])∧
      Acc hp (nx+4) q.2 ((kH r (O.take q.1) []).map PS.v))
    (fun q=>O.length-q.1) (0, .nil) ⟨Ku _,Zw,by exact dmo hd,by exact kep Hp.same.aBb,by simp only[go_sem,reduceIte,jA,jB,jC,jD,reduceCtorEq,jE,jF],by simp only[go_sem,reduceIte,jA,jB,jC,jD,reduceCtorEq,jE,jF],by simp only[go_sem,reduceIte,jA,jB,jC,jD,reduceCtorEq,jE,jF];rfl, .inl ⟨rfl,rfl⟩⟩ (by simp only[WkL,aF,jH,jI,jJ,jK,cW,th,go_sem,reduceIte,jA,jB,jC,jD,reduceCtorEq,jE,jF]) ?_
   rintro⟨i,oS⟩ hp nx1 ⟨hi,hnx,hdm,hsm,hb0,hb1,hb2,aCu⟩;generalize hQ:bK _ _ _ _ _=Q0;dsimp only at hi aCu hb2;simp only[aF,go_sem,reduceIte,jA,jB,jC,jD,reduceCtorEq,jE,jF];have n1:nx<nx1:=or;have n2:nx+1<nx1:=or;have n3:nx+2<nx1:=or;rcases Kt i O.length with hlt|hge
   ·have hc:decide ((i:Int)<(O.length:Int))=true:=dct;have hg:(O.map kV).getD i (.tup [])= .int .i64 O[i]:=aN kV O i hlt;have hw:IntKind.i64.wrap ((i:Int)+1)=((i+1:Nat):Int):=wrp;have hkb:=aDT O[i] (Kg _);have hpa:kH r (O.take (i+1)) []=kH r (O.take i) []++[kA (r.b.getD O[i] default) O[i] (cW r (O.take i) [])]:=by rw[Ka hlt,df]
    have hba:cW r (O.take (i+1)) []=nmL (cW r (O.take i) []) (r.b.getD O[i] default).ts:=by rw[Ka hlt,aa]
    have hvl:=hbl i;have hpl:(kH r (O.take i) []).length≤8:=by rw[tO,Kh];omega
    generalize cW r (O.take i) []=hv at*;generalize kH r (O.take i) []=ps at*;have hD:r.b.getD O[i] default=r.b[O[i]]:=by rw[Kc,Ke hkb];rfl
    have hg2:=aN Li.v r.b O[i] hkb;have hrl:=b3 r.b[O[i]] (Kg _);rw[hD] at hpa hba;generalize r.b[O[i]]=l at hg2 hrl hpa hba;generalize O[i]=k at hg hkb hg2 hpa;have hlv:=pC hrl;have hf:=Li.aAD l;obtain⟨o1,ho1⟩:=cL .leaf (l.vars.map V.str);have C4:∀h:Hp,aM Tryz.prog 40 [l.v] h (.sl .leaf o1 (l.vars.map V.str)):=fun h=>ho1▸tC l hrl h;have C3:=fun h=>wm l h;obtain⟨T,hT,hk0,hat⟩:∃T,l.v= .agg T∧T.getD 0 (.tup [])= .int .i64 l.k∧(T.drop 1).take 2=[.str l.a.r,trs l.a.o l.a.l]:=⟨_,rfl,rfl,rfl⟩;rw[hT] at hg2 hf C3 C4;obtain⟨ow,how⟩:=cL .leaf (hv.map V.str);rw[how];clear C1 C2;refine aue (e12 hc hg hlt hb0 n1 hg2 hf hkb hk0 (@jK Nat V) (@jK Li V) jG) ?_;refine bG ((vR tj or ow (hv.map V.str) (by rw[jK];omega) (fun e=>by rw[e] at how;cases hm:hv.map V.str with|nil=>rfl|cons a b=>rw[hm] at how;cases how) _ (nx1+2)).dom.mono ?_);rintro vC h2 nx2 aAd ⟨hcl,hd2,_⟩;have hdA:aW ((hp.set nx1 (.arr (.agg 17) [.agg [.int .i64 0, .str ⟨#[]⟩, .sl (.agg 4) .nil [], .int .i64 0, .int .i64 0, .str ⟨#[]⟩, .int .i64 0, .int .i64 0, .str ⟨#[]⟩, .sl (.agg 6) .nil [], .int .i64 0, .str ⟨#[]⟩, .int .i64 0, .int .i64 0, .str ⟨#[]⟩, .sl (.agg 6) .nil [], .int .i64 0]])).set nx1 (.arr (.agg 17) [.agg T])) (nx1+2):=dmo hdm;obtain⟨oc,rfl,aM4,hs2⟩:=hcl.acc how hdA;unfold cN;refine Zn ?_;have hb8:h2 nx1=some (.arr (.agg 17) [.agg T]):=by rw[hs2 nx1 or];simp only[go_sem,reduceIte,jA,jB,jC,jD,reduceCtorEq,jE,jF]
    have n8:nx1<nx2:=or;have aTL:=hdm;refine aue (e6 hf hb8 n8 trs.eq_1 (@jK ByteArray V) hc) ?_;obtain⟨kd,hkd⟩:∃kd:Int,(if l.k=1 then 1 else if l.k=2 then 2 else 3)=kd:=⟨_,rfl⟩;rw[hkd];have hwt:nmL hv l.ts=hv++l.vars.filter fun v=> !cD v hv:=y4 hv l;generalize hSQ:lP (lwp Tryz.prog _) _=SQ
    refine aS (fun q:Nat×Own=>aF 82 0 [(1, .ptr nx (.agg 6) 0 0),(2, .ptr (nx+1) (.agg 7) 0 0),(3, .nilIface),(4, .ptr (nx+2) (.agg 7) 0 0),(5, .sl .leaf ow (hv.map V.str)),(8, .ptr nx1 (.agg 17) 0 0),(9, .ptr nx2 (.agg 5) 0 0),(28, .sl .leaf oo (O.map kV)),(29, .int .i64 O.length),(30, .int .i64 i),(47, .sl .leaf o1 (l.vars.map V.str)),(48, .int .i64 l.vars.length),(49, .int .i64 q.1)])
     (fun q hp3 nx3=>q.1≤l.vars.length∧nx2+2≤nx3∧aW hp3 nx3∧Hp.same (nx1+2) h2 hp3∧hp3 nx2=some (.arr (.agg 5) [.agg [.int .i64 kd, .int .i64 k, .sl .leaf ow (hv.map V.str), .sl .leaf q.2 ((hv++(l.vars.take q.1).filter fun v=> !cD v hv).map V.str), .sl .leaf .nil []]])∧
       Acc hp3 (nx1+2) q.2 ((hv++(l.vars.take q.1).filter fun v=> !cD v hv).map V.str))
     (fun q=>l.vars.length-q.1) (0,oc) ⟨Ku _,Zw,by exact dmo hd2,by exact kep Hp.same.aBb,by simp only[Ks,Kq,Kj,go_sem,reduceIte,jA,jB,jC,jD,reduceCtorEq,jE,jF],by simp only[Ks,Kq,Kj];exact acc aM4 hd2⟩ (by simp only[WkL,aF,jH,jI,jJ,jK,go_sem,reduceIte,jA,jB,jC,jD,reduceCtorEq,jE,jF]) ?_
    rintro⟨j,ow2⟩ hp3 nx3 ⟨hj,aSK,hdm,aFl,hb9,aAz⟩;generalize hQ2:bK _ _ _ _ _=Q2;dsimp only at hj aAz hb9;simp only[aF,go_sem,reduceIte,jA,jB,jC,jD,reduceCtorEq,jE,jF];have n9:nx2<nx3:=or;rcases Kt j l.vars.length with hjl|hjg
    ·have hc2:decide ((j:Int)<(l.vars.length:Int))=true:=dct;have hgv:=aN V.str l.vars j hjl;have hw2:IntKind.i64.wrap ((j:Int)+1)=((j+1:Nat):Int):=wrp;have htk:hv++(l.vars.take (j+1)).filter (fun v=> !cD v hv)=(hv++(l.vars.take j).filter fun v=> !cD v hv)++(if cD l.vars[j] hv=true then [] else [l.vars[j]]):=by
      rw[Ka hjl,List.filter_append,List.append_assoc];congr 2;cases hq:cD l.vars[j] hv<;>simp[hq]
     have hwl:(hv++(l.vars.take j).filter fun v=> !cD v hv).length≤100000000:=by
      rw[List.length_append];have:=List.length_filter_le (fun v=> !cD v hv) (l.vars.take j);rw[Kh] at this;omega
     generalize (hv++(l.vars.take j).filter fun v=> !cD v hv)=W at hb9 aAz htk hwl;generalize l.vars[j]=x at hgv htk;have C1:∀h:Hp,aM Tryz.prog 41 [.sl .leaf ow (hv.map V.str), .str x] h (.bool (cD x hv)):=fun h=>gP ow hv or x h;have hml:(W.map V.str).length=W.length:=jK ..;cases hb:cD x hv with
     |true=>
      rw[hb] at C1 htk;rw[if_pos rfl,Kj] at htk;refine aue (e6 hc2 hgv hjl (@jK ByteArray V) jG hw2) ?_;rw[←hQ2];exact aG (j+1,ow2) Zw ⟨hjl,or,dmo hdm,kep aFl,by dsimp only;rw[htk];exact hb9,by dsimp only;rw[htk];exact aAz⟩ (by simp only[WkL,aF,jH,jI,jJ,go_sem,reduceIte,jA,jB,jC,jD,reduceCtorEq,jE,jF])
     |false=>
      rw[hb] at C1 htk;rw[if_neg Zm] at htk;have aTK:∀H:Hp,H.aBY ow2 nx2=if ow2= .tok nx2 then none else H nx2:=fun H=>by
       unfold Hp.aBY;cases ow2 with
       |tok m=>
        simp only[Hp.del,Own.tok.injEq];by_cases hm:nx2=m
        ·simp[hm]
        rw[if_neg hm,if_neg (fun e=>hm e.symm)]
       |_=>simp
      have aS9:(ow2= .tok nx2)=False:=eq_false fun e=>by
       rcases aAz with⟨_,h⟩|⟨_,id,_,h,h3⟩
       ·rw[h] at e;cases e
       rw[h] at e;injection e with e;rw[e,hb9] at h3;cases h3
      refine aue (e12 hc2 hgv hjl (@jK ByteArray V) jG hw2 hb9 n9 hml hwl aTK aS9) ?_;rw[←hQ2];have f9:(nx3+1=nx2)=False:=fls;refine aG (j+1, .tok (nx3+1)) Zw ⟨hjl,or,dmo hdm,zw aFl aAz,?_,?_⟩ (by simp only[WkL,aF,jH,jI,jJ,go_sem,reduceIte,jA,jB,jC,jD,reduceCtorEq,jE,jF])
      ·dsimp only;rw[htk,Kb];simp only[Kd,Kf,go_sem,reduceIte,jA,jB,jC,jD,reduceCtorEq,jE,jF]
      dsimp only;rw[htk,Kb];exact .inr ⟨Zm,nx3+1,or,rfl,by simp only[f9,go_sem,reduceIte,jA,jB,jC,jD,reduceCtorEq,jE,jF]⟩
    have hc2:decide ((j:Int)<(l.vars.length:Int))=false:=dcf;refine aue hc2 ?_;rw[←hQ2];refine au ?_;rw[Kk or,←hwt] at hb9 aAz;rw[←hSQ];refine fF (yg (n:=nx2) (k:= .agg 5) hb9) ?_;simp only[Kd,Kf];rw[pj kd k ow ow2 hv (nmL hv l.ts) how aAz];clear aAz hQ2 hSQ hwt;have aAi:∀m,m<nx1→hp3 m=hp m:=fun m hm=>by
     rw[aFl m or,hs2 m or];simp only[Hp.set];rw[if_neg or,if_neg or]
    have hc0:=(aAi nx n1).trans hb0;have hc1:=(aAi (nx+1) n2).trans hb1;have hc2:=(aAi (nx+2) n3).trans hb2;have hc8:=(aFl nx1 or).trans hb8;have aSG:Hp.same nx h' hp3:=fun m hm=>by rw[aAi m or];exact hsm m hm
    have aAz:Acc hp3 (nx+4) oS (ps.map PS.v):=aCu.imp id fun⟨a,id,b,c,d⟩=>⟨a,id,b,c,by rw[aAi id (by rcases aCu with h|⟨_,id2,_,h2,h3⟩;exact absurd h.1 a;rw[c] at h2;injection h2 with h2;rw[h2];exact aTL _ _ h3)];exact d⟩;have m1:nx<nx3:=or;have m2:nx+1<nx3:=or;have m3:nx+2<nx3:=or;have m4:nx1<nx3:=or;have k1:(nx1=nx2)=False:=fls;have k2:(nx=nx2)=False:=fls;have k3:(nx+1=nx2)=False:=fls;have k4:(nx+2=nx2)=False:=fls;have k5:(nx2=nx+2)=False:=fls;have hPS:(kA l k hv).v= .agg [.int .i64 kd, .int .i64 k,lst .leaf (hv.map V.str),lst .leaf ((nmL hv l.ts).map V.str),lst .leaf ((if l.k=1∨l.k=2 then pX l.a hv else []).map kV)]:=by rw[←hkd];rfl
    generalize nmL hv l.ts=W at hPS hba hb9⊢;obtain⟨ow3,aMm⟩:=cL .leaf (W.map V.str);have hml:(ps.map PS.v).length=ps.length:=jK ..;rw[how,aMm] at hPS⊢;have hd0:∀H:Hp,H.aBY oS nx=H nx:=fun H=>wR fun id e=>by have:=aAz.ge id e;omega
    have hd1:∀H:Hp,H.aBY oS (nx+1)=H (nx+1):=fun H=>wR fun id e=>by have:=aAz.ge id e;omega
    have hd2:∀H:Hp,H.aBY oS (nx+2)=H (nx+2):=fun H=>wR fun id e=>by have:=aAz.ge id e;omega
    have hd9:∀H:Hp,H.aBY oS nx2=H nx2:=fun H=>wR fun id e q=>by
     rcases aAz with h|⟨_,id2,_,h2,h3⟩
     ·rw[h.2] at e;cases e
     rw[h2] at e;injection e with e;rw[e,←q,hb9] at h3;cases h3
    by_cases hk3:l.k=3
    ·have g3:(kd != 3)=false:=bnf (by rw[←hkd,hk3];rfl);rw[if_neg or] at hPS;have hPS:(kA l k hv).v= .agg [.int .i64 kd, .int .i64 k, .sl .leaf ow (hv.map V.str), .sl .leaf ow3 (W.map V.str), .sl .leaf .nil []]:=hPS;refine aue (e11 hc hc0 hc2 hc8 m3 g3 n9 hpl hml (e4 k4 k5 k1 (e4 hd0 hd1 hd2 hd9)) (e2 hw m1)) ?_;rw[←hQ];have hW:lst .leaf ((cW r (O.take (i+1)) []).map V.str)= .sl .leaf ow3 (W.map V.str):=by rw[hba,aMm]
     refine aG (i+1, .tok (nx3+1)) Zw ⟨hlt,or,dmo hdm,zw aSG aAz,by simp only[hd0,hc0,m1,k2,go_sem,reduceIte,jA,jB,jC,jD,reduceCtorEq,jE,jF],by simp only[hd1,hc1,m2,k3,go_sem,reduceIte,jA,jB,jC,jD,reduceCtorEq,jE,jF],?_,?_⟩ (by simp only[WkL,aF,jH,jI,jJ,hW,go_sem,reduceIte,jA,jB,jC,jD,reduceCtorEq,jE,jF])
     ·dsimp only;rw[hpa,Kb,Kd,Kf,hPS];simp only[go_sem,reduceIte,jA,jB,jC,jD,reduceCtorEq,jE,jF]
     dsimp only;rw[hpa,Kb,Kd,Kf,hPS];exact .inr ⟨Zm,nx3+1,or,rfl,by simp only[(fls:(nx3+1=nx+2)=False),go_sem,reduceIte,jA,jB,jC,jD,reduceCtorEq,jE,jF]⟩
    have aMr:l.k=1∨l.k=2:=by
     have:=(xR hrl);omega
    have g3:(kd != 3)=true:=by
     rw[←hkd];rcases aMr with e|e<;>simp[e]
    have hlp:aX (.agg 2) 1 (.agg T)= .agg [.str l.a.r,trs l.a.o l.a.l]:=congrArg V.agg hat
    obtain⟨o5,ho5⟩:=cL .leaf ((pX l.a hv).map kV);have C2:=fun h=>ut l.a (by
     unfold cF at hrl;rw[if_pos aMr] at hrl;unfold lR at hrl;simp only[Ko,decide_eq_true_eq] at hrl;have:=hrl.1.1.1.2;omega) ow hv or h
    simp only[Am.v,trs] at C2;rw[ho5] at C2;rw[if_pos aMr,ho5] at hPS;have aTB:((pX l.a hv).map kV).length=(pX l.a hv).length:=jK ..;refine aue (e11 hc hc0 hc2 hc8 m3 g3 n9 hpl hml (e4 k4 k5 k1 (e5 hd0 hd1 hd2 hd9 m4)) (e5 hw m1 aTB hlp trs.eq_1)) ?_;rw[←hQ];have hW:lst .leaf ((cW r (O.take (i+1)) []).map V.str)= .sl .leaf ow3 (W.map V.str):=by rw[hba,aMm]
    refine aG (i+1, .tok (nx3+2)) Zw ⟨hlt,or,dmo hdm,zw aSG aAz,by simp only[hd0,hc0,m1,k2,go_sem,reduceIte,jA,jB,jC,jD,reduceCtorEq,jE,jF],by simp only[hd1,hc1,m2,k3,go_sem,reduceIte,jA,jB,jC,jD,reduceCtorEq,jE,jF],?_,?_⟩ (by simp only[WkL,aF,jH,jI,jJ,hW,go_sem,reduceIte,jA,jB,jC,jD,reduceCtorEq,jE,jF])
    ·dsimp only;rw[hpa,Kb,Kd,Kf,hPS];simp only[go_sem,reduceIte,jA,jB,jC,jD,reduceCtorEq,jE,jF]
    dsimp only;rw[hpa,Kb,Kd,Kf,hPS];exact .inr ⟨Zm,nx3+2,or,rfl,by simp only[(fls:(nx3+2=nx+2)=False),go_sem,reduceIte,jA,jB,jC,jD,reduceCtorEq,jE,jF]⟩
   have hc:decide ((i:Int)<(O.length:Int))=false:=dcf;refine aue hc ?_;rw[←hQ];rw[Kk or] at aCu hb2;refine aue (e5 hb1 hb2 n1 n2 n3) ?_;refine bI (by simp only[hb1,hb2,go_sem,reduceIte,jA,jB,jC,jD,reduceCtorEq,jE,jF]) h' (lef hd (hsm.le hd (Hp.le_refl _))) ⟨?_,Hp.le_refl _⟩;rw[←ku r aCu];refine Zn ?_;rfl
end Go.Proofs.YtgbiopfghdilnaaGreatDoor
namespace Go.Proofs.YtgbiopfghdilnaaGreatDoor
open Go.RowKit Go.Sort
theorem sX(r:Ru):∀(ks:List Nat) (hv:List ByteArray),hv.Nodup→(cW r ks hv).Nodup
 | [],hv,h=>h
 |k::ks,hv,h=>sX r ks _ (dm h)
end Go.Proofs.YtgbiopfghdilnaaGreatDoor
