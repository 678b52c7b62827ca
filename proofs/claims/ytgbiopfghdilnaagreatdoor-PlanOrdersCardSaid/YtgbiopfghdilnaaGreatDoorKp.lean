/-
Texts of this proof,one behind the other. No conditions.
-/
import Derived.Test.YtgbiopfghdilnaaGreatDoorKd
import Derived.Test.YtgbiopfghdilnaaGreatDoorKo
import Derived.Test.YtgbiopfghdilnaaGreatDoorKj
import Derived.Test.YtgbiopfghdilnaaGreatDoorKev
import Derived.Test.YtgbiopfghdilnaaGreatDoorKh
open List renaming forall_mem_cons→Ka,length_eq_zero_iff→Kb,take_of_length_le→Kc,getD_eq_getElem?_getD→Kd,getElem?_eq_getElem→Ke,take_length→Kf,not_mem_nil→Kg
open Nat renaming reduceAdd→jA,reduceSub→jB,reduceLT→jC,reduceLeDiff→jD,reduceEqDiff→jE
open Int renaming reduceToNat→jF,toNat_natCast→jG,natCast_add→jH,natCast_one→jI,natCast_zero→jJ
open List renaming length_map→jK,length_cons→jL,length_nil→jM,replicate_succ→jN,replicate_zero→jO,cons_append→jP,nil_append→jQ
set_option linter.unusedSimpArgs false
set_option linter.unusedVariables false
set_option linter.unusedSectionVars false
set_option maxHeartbeats 8000000
namespace Go.Proofs.YtgbiopfghdilnaaGreatDoor
open Go.RowKit Go.Sort
attribute [local irreducible] IntKind.wrap
set_option maxHeartbeats 4000000
def mH(ps:List PS):List ByteArray:=(ps.getD (ps.length-1) default).wt
theorem oL(r:Ru)(ps:List PS)(hp:ps.length≤1000)(hw:(mH ps).length≤1000000000)(h:Hp):aL Tryz.prog 13 [kE r ps] h (lst .leaf ((mH ps).map V.str)):=by
 refine aJ (fun L=>eF (fun L=>bO (f:=V.str) (fun _=>trivial) _) L) fun h' nx hh=>aC L.g7z fun hd=>?_;obtain⟨oS,hoS⟩:=cU (.agg 5) (ps.map PS.v);unfold kE;rw[hoS];simp only[jL,jM,jA,jB,jN,jO,jP,jQ,V.undef];by_cases hlp:ps.length=0
 ·have hz:((ps.length:Int)==0)=true:=by rw[hlp];rfl
  have aAc:ps=[]:=Kb.1 hlp;refine aue (e3 trs.eq_1 hz (@jK PS V)) ?_;refine aB h' (leo hd) ⟨?_,rfl⟩;rw[aAc];rfl
 have hlp:0<ps.length:=or;have hz:((ps.length:Int)==0)=false:=bqf;have hg:(ps.map PS.v).getD (ps.length-1) (.tup [])=(ps.getD (ps.length-1) default).v:=by
  rw[aS PS.v ps (ps.length-1) or,Kd,Ke or];rfl
 have hw1:IntKind.i64.wrap ((ps.length:Int)-1)=((ps.length-1:Nat):Int):=by
  rw[(wrp:IntKind.i64.wrap ((ps.length:Int)-1)=(ps.length:Int)-1)];omega
 obtain⟨ow,how⟩:=cU .leaf ((mH ps).map V.str);have C1:∀h:Hp,aL Tryz.prog 39 [.sl .leaf ow ((mH ps).map V.str)] h (V.sl .leaf ow ((mH ps).map V.str)).loose:=fun h=>n6 pd or ow _ (by rw[jK];omega) (fun e=>by rw[e] at how;cases hm:(mH ps).map V.str with|nil=>rfl|cons a b=>rw[hm] at how;cases how) (fun L=>bO (f:=V.str) (fun _=>trivial) _) h;have hll:(V.sl .leaf ow ((mH ps).map V.str)).loose=lst .leaf ((mH ps).map V.str):=by rw[←how];unfold lst;split<;>rfl
 rw[hll] at C1;have hwt:(ps.getD (ps.length-1) default).v.cell 3= .sl .leaf ow ((mH ps).map V.str):=how;generalize (ps.getD (ps.length-1) default).v=s at hg hwt;have n0:ps.length-1<ps.length:=or;refine aue (e7 trs.eq_1 hz hg hw1 hwt n0 (@jK PS V)) ?_;exact aB h' (leo hd) ⟨rfl,rfl⟩
theorem zW(r:Ru):∀(O:List Nat) (hv:List ByteArray) (i:Nat) (h:i<O.length),(iX r O hv).getD i default=sT (r.b.getD O[i] default) O[i] (bI r (O.take i) hv)
 |k::ks,hv,0,_=>rfl
 |k::ks,hv,i+1,h=>zW r ks _ i (by simpa using h)
theorem jy(r:Ru)(O:List Nat)(i:Nat)(h:i<O.length):bI r (O.take (i+1)) []=nmL (bI r (O.take i) []) (r.b.getD O[i] default).ts:=by
 rw[List.take_succ_eq_append_getElem h,pM]
set_option maxHeartbeats 8000000 in
theorem wC(ha:∀h,aL Tryz.prog 7 [] h (.bool true))(r:Ru)(hr:r.s47)(h:Hp):aL Tryz.prog 3 [r.v] h (.bool true):=by
 refine aJ (fun L=>trivial) fun h' nx hh=>aC L.g0z fun hd=>?_;have hd:aV h' nx:=hd;have C1:=ha;have C2:=fun h=>mb r hr h;have C3:=fun h=>sY r h;have C4:=fun hr h=>wE r hr h;have C5:=fun hr h nx=>yI r hr h nx;obtain⟨RV,hRV⟩:∃RV,r.v= .agg RV:=⟨_,rfl⟩;have hRf:(V.agg RV).fits (.agg 6)=true:=by rw[←hRV];rfl
 rw[hRV] at C2 C3 C4 C5⊢;simp only[jL,jM,jA,jB,jN,jO,jP,jQ,V.undef];obtain⟨N,hN⟩:∃N,sq r=N:=⟨_,rfl⟩;rw[hN] at C2;by_cases hlt:N<0
 ·have g1:decide (N<0)=true:=dct;clear C3 C4 C5;refine aue (e3 hRf g1 trs.eq_1) ?_;exact aB h' (leo hd) ⟨rfl,rfl⟩
 have g1:decide (N<0)=false:=dcf;cases hrr:eM r with
 |false=>
  have hE:mY r= .tup [.agg [.str ⟨#[]⟩, .sl (.agg 4) .nil [], .int .i64 0, .int .i64 0, .sl (.agg 17) .nil [], .int .i64 0, .sl (.agg 5) .nil []],xN 2]:=by unfold mY sX;rw[hrr];rfl
  rw[hE] at C3;clear C4 C5;have hv2:veq (sO.iface true) (xN 2) V.nilIface=some false:=rfl;have hz:((0:Int)==0)=true:=rfl;refine aue (e4 hRf g1 hv2 hz) ?_;exact aB h' (leo hd) ⟨rfl,rfl⟩
 |true=>
  replace C4:=C4 hrr
  replace C5:=C5 hrr
  cases hsv:cY r (eG r) false with
  |cons a b=>
   have hE:mY r= .tup [.agg [.str ⟨#[]⟩, .sl (.agg 4) .nil [], .int .i64 0, .int .i64 0, .sl (.agg 17) .nil [], .int .i64 0, .sl (.agg 5) .nil []],xN 8]:=by unfold mY sX;rw[hrr,if_neg Zm,hsv,if_pos Zm];rfl
   rw[hE] at C3;clear C4 C5;have hv2:veq (sO.iface true) (xN 8) V.nilIface=some false:=rfl;have hz:((0:Int)==0)=true:=rfl;refine aue (e4 hRf g1 hv2 hz) ?_;exact aB h' (leo hd) ⟨rfl,rfl⟩
  |nil=>
   have hE:mY r= .tup [kE r.lo (kF r),xN 0]:=by unfold mY sX;rw[hrr,if_neg Zm,hsv,if_neg Zm]
   rw[hE] at C3;obtain⟨oo,hoo⟩:=cU .leaf ((bX r).map kV);rw[hoo] at C4;obtain⟨oS,hoS⟩:=cU (.agg 5) ((kF r).map PS.v);have hPV:kE r.lo (kF r)= .agg [.str r.h.r, .sl (.agg 4) (loO r.h.o) (r.h.l.map Tr.v), .int .i64 r.g, .int .i64 r.c, .sl (.agg 17) (loO r.o) (r.b.map Li.v), .int .i64 r.at_, .sl (.agg 5) oS ((kF r).map PS.v)]:=by unfold kE;rw[hoS];rfl
   rw[hPV] at C3;have hlen:(kF r).length=(bX r).length:=rX r _ _;have hne:((bX r).length != (kF r).length)=false:=by simp[hlen]
   have aOQ:(((bX r).length:Int) != ((kF r).length:Int))=false:=bnf;have hv2:veq (sO.iface true) (xN 0) V.nilIface=some true:=rfl;refine aue (e6 hRf g1 hv2 (@jK Nat V) (@jK PS V) aOQ) ?_;obtain⟨b1,b2,b3⟩:=dA hrr;have aEN:=wF r;have aAS:=jz hrr hsv;have hol:(bX r).length≤8:=by
    unfold bX lO;rw[jK];exact Nat.le_trans (lN ..) b2
   have hgt:∀i,(h:i<(bX r).length)→(kF r).getD i default=sT (r.b.getD (bX r)[i] default) (bX r)[i] (bI r ((bX r).take i) []):=fun i h=>zW r _ _ i h;have hbk:=fun i h=>jy r (bX r) i h;have hwl:(mH (kF r))=bI r (bX r) []:=by
    unfold mH;by_cases h0:(bX r).length=0
    ·rw[Kb.1 (hlen.trans h0),Kb.1 h0];rfl
    rw[hlen,hgt _ or];have h1:=hbk ((bX r).length-1) or;rw[Kc or] at h1;rw[h1];rfl
   have hbl:∀i,(bI r ((bX r).take i) []).length≤16777264:=fun i=>by
    have h1:=pL r b3 ((bX r).take i) [] fun k hk=>aEN k (List.mem_of_mem_take hk);have h2:((bX r).take i).length*2097158≤8*2097158:=Nat.mul_le_mul_right _ (by rw[List.length_take];omega);simp only[jM] at h1;omega
   have C6:=fun h=>oL r.lo (kF r) or (by rw[hwl];have:=hbl (bX r).length;rw[Kf] at this;omega) h;rw[hPV,hwl] at C6;clear C3;generalize kF r=PL at*;generalize bX r=O at*
   refine aW (fun i:Nat=>aF 88 0 [(1, .ptr nx (.agg 6) 0 0),(2, .bool false),(3, .ptr (nx+1) (.agg 7) 0 0),(5, .sl .leaf oo (O.map kV)),(6,lst .leaf ((bI r (O.take i) []).map V.str)),(34, .sl (.agg 5) oS (PL.map PS.v)),(35, .int .i64 PL.length),(36, .int .i64 i)])
    (fun i hp nx1=>i≤PL.length∧nx+2≤nx1∧aV hp nx1∧Hp.same nx h' hp∧hp nx=some (.arr (.agg 6) [.agg RV])∧hp (nx+1)=some (.arr (.agg 7) [.agg [.str r.h.r, .sl (.agg 4) (loO r.h.o) (r.h.l.map Tr.v), .int .i64 r.g, .int .i64 r.c, .sl (.agg 17) (loO r.o) (r.b.map Li.v), .int .i64 r.at_, .sl (.agg 5) oS (PL.map PS.v)]]))
    (fun i=>PL.length-i) 0 ⟨Nat.zero_le _,Zw,by exact dmo hd,by exact kep Hp.same.aCU,by simp only[go_sem,reduceIte,jA,jB,jC,jD,reduceCtorEq,jE,jF],by simp only[go_sem,reduceIte,jA,jB,jC,jD,reduceCtorEq,jE,jF]⟩ (by simp only[WkL,aF,jH,jI,jJ,jK,bI,cr,go_sem,reduceIte,jA,jB,jC,jD,reduceCtorEq,jE,jF]) ?_
   rintro i hp nx1 ⟨hi,hnx,hdm,hsm,hb0,hb1⟩;generalize hQ:bP _ _ _ _ _=Q0;simp only[aF,go_sem,reduceIte,jA,jB,jC,jD,reduceCtorEq,jE,jF];have n0:nx<nx1:=or;have n1:nx+1<nx1:=or;rcases Nat.lt_or_ge i PL.length with hil|hge
   ·have hc:decide ((i:Int)<(PL.length:Int))=true:=dct;have hg:(PL.map PS.v).getD i (.tup [])=(PL.getD i default).v:=by
     rw[aS PS.v PL i hil,Kd,Ke hil];rfl
    have hO:i<O.length:=or;rw[hgt i hO] at hg;have hgo:(O.map kV).getD i (.tup [])= .int .i64 O[i]:=aS kV O i hO;have hw:IntKind.i64.wrap ((i:Int)+1)=((i+1:Nat):Int):=wrp;have hb:=hbk i hO;have hv1:=hbl i;have hv2:=hbl (i+1);generalize bI r (O.take i) []=hv at*;obtain⟨m,hm⟩:=o8 (r.b.getD O[i] default).ts hv;obtain⟨ow,how⟩:=cU .leaf (hv.map V.str);obtain⟨o2,ho2⟩:=cU .leaf ((nmL hv (r.b.getD O[i] default).ts).map V.str);rw[how];obtain⟨kk,hkk⟩:∃kk:Int,(if (r.b.getD O[i] default).k=1 then 1 else if (r.b.getD O[i] default).k=2 then 2 else 3)=kk:=⟨_,rfl⟩;obtain⟨ky,hky⟩:∃ky:V,lst .leaf ((if (r.b.getD O[i] default).k=1∨(r.b.getD O[i] default).k=2 then pT (r.b.getD O[i] default).a hv else []).map kV)=ky:=⟨_,rfl⟩;have hkl:ky.aAD=true:=hky▸qw ..;have hSV:(sT (r.b.getD O[i] default) O[i] hv).v= .agg [.int .i64 kk, .int .i64 O[i], .sl .leaf ow (hv.map V.str), .sl .leaf o2 ((nmL hv (r.b.getD O[i] default).ts).map V.str),ky]:=by rw[←hkk,←hky,←how,←ho2];rfl
    rw[hSV] at hg;generalize nmL hv (r.b.getD O[i] default).ts=W at*;have D1:∀h:Hp,aL Tryz.prog 11 [.sl .leaf ow (hv.map V.str), .sl .leaf ow (hv.map V.str)] h (.bool true):=fun h=>by
     have:=oY ow ow hv hv or or h;rwa [decide_eq_true rfl] at this
    clear C1 C2 C4 C5 C6;have aDM:((O[i]:Int) != (O[i]:Int))=false:=bnf;have hWl:hv.length≤W.length:=by rw[hm,List.length_append];omega
    have g7:decide ((W.length:Int)<(hv.length:Int))=false:=dcf;have htk:(W.map V.str).take hv.length=hv.map V.str:=by rw[hm,List.map_append,List.take_append_of_le_length Zm,Kc Zm]
    have D2:∀h:Hp,aL Tryz.prog 11 [.sl .leaf (aCE o2 (W.map V.str) (some (hv.length:Int)) none) (hv.map V.str), .sl .leaf ow (hv.map V.str)] h (.bool true):=fun h=>by
     have:=oY (aCE o2 (W.map V.str) (some (hv.length:Int)) none) ow hv hv or or h;rwa [decide_eq_true rfl] at this
    have aDN:((hv.length:Int)≤(W.length:Int))=True:=eq_true or;generalize O[i]=kO at*;refine aue (e12 hc hg hgo hil hO hw hkl (@jK ByteArray V) (@jK Nat V) (@jK PS V) jG (e7 n0 n1 aDM hWl g7 htk aDN)) ?_;rw[←hQ];have hW:lst .leaf ((bI r (O.take (i+1)) []).map V.str)= .sl .leaf o2 (W.map V.str):=by rw[hb,ho2]
    exact aH (i+1) or ⟨hil,or,dmo hdm,kep hsm,by simp only[hb0,n0,go_sem,reduceIte,jA,jB,jC,jD,reduceCtorEq,jE,jF],by simp only[hb1,n1,go_sem,reduceIte,jA,jB,jC,jD,reduceCtorEq,jE,jF]⟩ (by simp only[WkL,aF,jH,jI,jJ,hW,go_sem,reduceIte,jA,jB,jC,jD,reduceCtorEq,jE,jF])
   have hc:decide ((i:Int)<(PL.length:Int))=false:=dcf;have hEO:bI r (O.take i) []=bI r O []:=by rw[Kc or]
   have hvl:=hbl O.length;rw[Kf] at hvl;rw[hEO];obtain⟨ow,how⟩:=cU .leaf ((bI r O []).map V.str);rw[how] at C6⊢;clear C1 C2 C4;have C1:=C6;clear C6 hEO;generalize bI r O []=W at*;have C2:∀h:Hp,aL Tryz.prog 11 [.sl .leaf ow (W.map V.str), .sl .leaf ow (W.map V.str)] h (.bool true):=fun h=>by
    have:=oY ow ow W W or or h;rwa [decide_eq_true rfl] at this
   refine aue (e4 hc hb0 n0 n1) ?_;rw[←hQ];refine aue (e6 hc hb0 n0 n1 hRf (@jK ByteArray V)) ?_;refine cC ((C5 hp nx1).dom.mono ?_);rintro v h2 nx2 aAd ⟨⟨aOM,hs2⟩,hd2,_⟩;unfold dR;refine Zn ?_;have aNp:=(hs2 (nx+1) n1).trans hb1;have n1':nx+1<nx2:=or;have heq:((W.length:Int)==(r.vars.length:Int))=true:=bqt;have hlv:(r.vars.map V.str).length=r.vars.length:=jK ..;have hle:h'.le h2:=hs2.le (hd.up or) (hsm.le hd (Hp.le_refl _));rcases aOM with⟨hm,rfl⟩|⟨hm,id,hid,rfl,aQt⟩
   ·have hl0:r.vars.length=0:=by rw[←hlv,hm];rfl
    have aOb:((W.length:Int)==0)=true:=by rw[aAS,hl0];rfl
    have aOa:((W.length:Int)==((0:Nat):Int))=true:=by rw[aAS,hl0];rfl
    refine aue (e5 aOa aOb aNp n1' (@jK ByteArray V)) ?_;exact aB h' hle ⟨rfl,rfl⟩
   refine aue (e5 heq aNp n1' hlv (@jK ByteArray V)) ?_;exact aB h' hle ⟨rfl,rfl⟩
end Go.Proofs.YtgbiopfghdilnaaGreatDoor
namespace Go.Proofs.YtgbiopfghdilnaaGreatDoor
open Go.RowKit
set_option maxRecDepth 100000
def evT:List (Nat×LFn):=[(7,L.g1),(33,L.g9),(18,L.g8),(11,L.g5),(74,L.g23),(75,L.g24),(117,L.g41),(116,L.g40),(118,L.g42),(119,L.g43),(120,L.g44),(121,L.g45),(160,L.g65),(161,L.g66),(163,L.g68),(162,L.g67),(165,L.g70),(166,L.g71),(167,L.g72),(82,L.g31),(164,L.g69),(189,L.g84),(190,L.g85),(128,L.g51),(188,L.g83),(205,L.g93),(172,L.g75),(204,L.g92),(219,L.aOA),(124,L.g48),(217,L.aOC),(218,L.aOB),(54,L.g21),(170,L.g74),(212,L.g98),(226,L.aN9),(97,L.g36),(98,L.g37),(147,L.g60),(148,L.g61),(149,L.g62),(182,L.g79)]
theorem yq:∀p∈evT,aE Tryz.prog p.1=some p.2:=by
 refine Ka.2 ⟨L.g1z,?_⟩;refine Ka.2 ⟨L.g9z,?_⟩;refine Ka.2 ⟨L.g8z,?_⟩;refine Ka.2 ⟨L.g5z,?_⟩;refine Ka.2 ⟨L.aQQ,?_⟩;refine Ka.2 ⟨L.aQP,?_⟩;refine Ka.2 ⟨L.aQB,?_⟩;refine Ka.2 ⟨L.aQC,?_⟩;refine Ka.2 ⟨L.aQA,?_⟩;refine Ka.2 ⟨L.aP9,?_⟩;refine Ka.2 ⟨L.aP8,?_⟩;refine Ka.2 ⟨L.aP7,?_⟩;refine Ka.2 ⟨L.aPf,?_⟩;refine Ka.2 ⟨L.aPe,?_⟩;refine Ka.2 ⟨L.aPc,?_⟩;refine Ka.2 ⟨L.aPd,?_⟩;refine Ka.2 ⟨L.aPP,?_⟩;refine Ka.2 ⟨L.aPO,?_⟩;refine Ka.2 ⟨L.aPN,?_⟩;refine Ka.2 ⟨L.aM1,?_⟩;refine Ka.2 ⟨L.aPb,?_⟩;refine Ka.2 ⟨L.aO8,?_⟩;refine Ka.2 ⟨L.aO7,?_⟩;refine Ka.2 ⟨L.aN3,?_⟩;refine Ka.2 ⟨L.aKG,?_⟩;refine Ka.2 ⟨L.aOz,?_⟩;refine Ka.2 ⟨L.aLd,?_⟩;refine Ka.2 ⟨L.aO0,?_⟩;refine Ka.2 ⟨L.aNK,?_⟩;refine Ka.2 ⟨L.aN4,?_⟩;refine Ka.2 ⟨L.aNM,?_⟩;refine Ka.2 ⟨L.aNL,?_⟩;refine Ka.2 ⟨L.aN7,?_⟩;refine Ka.2 ⟨L.aNy,?_⟩;refine Ka.2 ⟨L.aOv,?_⟩;refine Ka.2 ⟨L.aNJ,?_⟩;refine Ka.2 ⟨L.aN6,?_⟩;refine Ka.2 ⟨L.aN5,?_⟩;refine Ka.2 ⟨L.aN1,?_⟩;refine Ka.2 ⟨L.aN0,?_⟩;refine Ka.2 ⟨L.aPi,?_⟩;refine Ka.2 ⟨L.aPI,?_⟩;exact fun _ h=>absurd h Kg
def u0:ByteArray:=⟨#[112,40,88,44,32,90,41,32,58,45,32,101,40,88,44,32,89,41,44,32,101,40,89,44,32,90,41,46]⟩
def yz:List Tk:=[⟨2,⟨#[112]⟩,0⟩,⟨5,⟨#[40]⟩,1⟩,⟨3,⟨#[88]⟩,2⟩,⟨5,⟨#[44]⟩,3⟩,⟨3,⟨#[90]⟩,5⟩,⟨5,⟨#[41]⟩,6⟩,⟨5,⟨#[58,45]⟩,8⟩,⟨2,⟨#[101]⟩,11⟩,⟨5,⟨#[40]⟩,12⟩,⟨3,⟨#[88]⟩,13⟩,⟨5,⟨#[44]⟩,14⟩,⟨3,⟨#[89]⟩,16⟩,⟨5,⟨#[41]⟩,17⟩,⟨5,⟨#[44]⟩,18⟩,⟨2,⟨#[101]⟩,20⟩,⟨5,⟨#[40]⟩,21⟩,⟨3,⟨#[89]⟩,22⟩,⟨5,⟨#[44]⟩,23⟩,⟨3,⟨#[90]⟩,25⟩,⟨5,⟨#[41]⟩,26⟩,⟨5,⟨#[46]⟩,27⟩]
theorem y4:gN fX u0 (bT u0 0)=(yz,none):=Zz
def zr:Tr:=⟨⟨#[88]⟩,ol⟩
def zq:Tr:=⟨⟨#[89]⟩,ol⟩
def zp:Tr:=⟨⟨#[90]⟩,ol⟩
def xe:Ex:= .mk 0 om .nil []
def od:Ru:=⟨⟨⟨#[112]⟩, .tok 73,[zr,zp]⟩,0,0, .tok 270,[⟨1,⟨⟨#[101]⟩, .tok 161,[zr,zq]⟩,0,xe,xe,11⟩,⟨1,⟨⟨#[101]⟩, .tok 255,[zq,zp]⟩,0,xe,xe,20⟩],0⟩
def u5:List PS:=[⟨1,0,[],[⟨#[88]⟩,⟨#[89]⟩],[]⟩,⟨1,1,[⟨#[88]⟩,⟨#[89]⟩],[⟨#[88]⟩,⟨#[89]⟩,⟨#[90]⟩],[0]⟩]
theorem xd:mY od= .tup [kE od.lo u5,xN 0]:=Zz
def zt:j5:=[(115,[.str u0], .tup [.sl (.agg 3) .free (yz.map Tk.v), .int .i64 0, .nilIface]),(9,[od.v], .tup [kE od.lo u5,xN 0]),(13,[kE od.lo u5],lst .leaf ((mH u5).map V.str))]
theorem xf:∀p∈zt,aL Tryz.prog p.1 p.2.1 Hp.none p.2.2:=by
 refine Ka.2 ⟨?_,Ka.2 ⟨?_,Ka.2 ⟨oL od.lo u5 ZM ZM _,fun _ h=>absurd h Kg⟩⟩⟩
 ·have h:=sA u0 Hp.none;have e:oO u0= .tup [.sl (.agg 3) .free (yz.map Tk.v), .int .i64 0, .nilIface]:=by
   unfold oO;rw[if_neg ZM,y4];rfl
  rw[e] at h;exact h
 have h:=sY od Hp.none;rw[xd] at h;exact h
def zu:Bool:=match evF evT zt 1000 60 7 [] [] 0 with
 |some (.bool b,_,_)=>b
 |_=>false
theorem y0:zu=true:=Zz
theorem dt(h:Hp):aL Tryz.prog 7 [] h (.bool true):=by
 have e:=y0;unfold zu at e;split at e
 ·rename_i b l a he;subst e;have c:=uk yq xf 60 _ _ _ _ _ _ _ he;have p:=ql (c.mono fun v h' nx' _ hv=>hv.1);exact p.mono (aZ h)
 cases e
theorem tQ(r:Ru)(hr:r.s47)(h:Hp):aL Tryz.prog 3 [r.v] h (.bool true):=wC dt r hr h
end Go.Proofs.YtgbiopfghdilnaaGreatDoor
