/-
Texts of this proof,one behind the other. No conditions.
-/
import Derived.Test.YtgbiopfghdilnaaGreatDoorKd
import Derived.Test.YtgbiopfghdilnaaGreatDoorKv
import Derived.Test.YtgbiopfghdilnaaGreatDoorKp
open List renaming getD_eq_getElem?_getD→Ka,getElem?_eq_getElem→Kb,map_append→Kc,getElem_mem→Kd,length_eq_zero_iff→Ke,append_nil→Kf,map_cons→Kh,map_nil→Kj,range_zero→Km,filter_nil→Ko,range→Kq
open Bool renaming true_and→Kg,false_and→Kp
open Nat renaming lt_or_ge→Ki,zero_le→Kk
open Nat renaming reduceAdd→jA,reduceSub→jB,reduceLT→jC,reduceLeDiff→jD,reduceEqDiff→jE
open Int renaming reduceToNat→jF,toNat_natCast→jG,natCast_add→jH,natCast_one→jI,natCast_zero→jJ
open List renaming length_map→jK,length_cons→jL,length_nil→jM,replicate_succ→jN,replicate_zero→jO,cons_append→jP,nil_append→jQ
set_option linter.unusedSimpArgs false
set_option linter.unusedVariables false
set_option linter.unusedSectionVars false
set_option maxHeartbeats 8000000
namespace Go.Proofs.YtgbiopfghdilnaaGreatDoor
open Go.RowKit Go.Sort
attribute [local irreducible] IntKind.wrap
set_option maxHeartbeats 4000000
theorem ux(l:List PS)(i:Nat)(h:i<l.length):(vs9 l).getD i (.tup [])=(l.getD i default).v9 (o9 i):=by
 unfold vs9;rw[Ka,Kb (by simpa using h),List.getElem_mapIdx,Ka,Kb h];rfl
def k8(ps:List PS):V:=if ps.length=0 then .sl .leaf .nil [] else .sl .leaf .free ((gV ps).map V.str)
theorem rc(ps:List PS)(hp:ps.length≤1000)(h:Hp):aI Tryz.prog 17 [lst (.agg 5) (vs9 ps)] h (k8 ps):=by
 refine aH (fun L=>?_) fun h' nx hh=>aC L.aW9 fun hd=>?_
 ·unfold k8;split
  ·exact⟨fun n e=>(by cases e),trivial⟩
  exact⟨fun n e=>(by cases e),aS (f:=V.str) (fun _=>trivial) _⟩
 obtain⟨oS,hoS⟩:=bR (.agg 5) (vs9 ps);rw[hoS];simp only[jL,jM,jA,jB,jN,jO,jP,jQ,V.undef];unfold k8;by_cases hlp:ps.length=0
 ·have hz:((ps.length:Int)==0)=true:=by rw[hlp];rfl
  refine aue (e2 hz (pP)) ?_;refine aB h' (leo hd) ⟨?_,rfl⟩;rw[if_pos hlp];rfl
 have aXV:0<ps.length:=or;have hz:((ps.length:Int)==0)=false:=bqf;have hg:=ux ps (ps.length-1) or;have hw1:IntKind.i64.wrap ((ps.length:Int)-1)=((ps.length-1:Nat):Int):=by
  rw[(wrp:IntKind.i64.wrap ((ps.length:Int)-1)=(ps.length:Int)-1)];omega
 have hwt:((ps.getD (ps.length-1) default).v9 (o9 (ps.length-1))).cell 3= .sl .leaf .free ((gV ps).map V.str):=rfl;generalize (ps.getD (ps.length-1) default).v9 (o9 (ps.length-1))=s at hg hwt;have n0:ps.length-1<ps.length:=or;rw[if_neg hlp];refine aue (e7 hz hg hw1 hwt n0 pP jG) ?_;exact aB h' (leo hd) ⟨rfl,rfl⟩
def zn(r:Ru)(ps:List PS)(aAP:List ByteArray)(i:Nat):Bool:=decide ((ps.getD i default).k=1)&&bB (r.b.getD (ps.getD i default).i default).a.r aAP
def dV(r:Ru)(ps:List PS)(aAP:List ByteArray)(i:Nat):List Nat:=(Kq i).filter (zn r ps aAP)
theorem wL(r:Ru)(ps:List PS)(aAP:List ByteArray)(i:Nat):dV r ps aAP (i+1)=dV r ps aAP i++(if zn r ps aAP i=true then [i] else []):=by
 unfold dV;rw[List.range_succ,List.filter_append];congr 1;cases h:zn r ps aAP i<;>simp[h]
theorem rO(r:Ru)(ps:List PS)(aAP:List ByteArray)(i:Nat):(dV r ps aAP i).length≤i:=by
 have:=List.length_filter_le (zn r ps aAP) (Kq i);rwa [List.length_range] at this
theorem t6(r:Ru)(ps:List PS)(hp8:ps.length≤1000)(hi8:∀s∈ps,s.i<r.b.length)(o:Own)(aAP:List ByteArray)(hl:aAP.length≤1000000000)(h:Hp):aI Tryz.prog 19 [gW r ps, .sl .leaf o (aAP.map V.str)] h (lst .leaf ((dV r ps aAP ps.length).map kV)):=by
 refine cP (fun L=>bO (fun L=>aS (f:=kV) (fun _=>trivial) _) L) fun h' nx hh=>aC L.aWu fun hd=>?_;have hd:aQ h' nx:=hd;obtain⟨oS,hoS⟩:=bR (.agg 5) (ps.map PS.v);unfold gW;rw[hoS];simp only[jL,jM,jA,jB,jN,jO,jP,jQ,V.undef];refine aue (e3 trs.eq_1 (@jK PS V) (@jK Li V)) ?_
 refine aO (fun q:Nat×Own=>aD 38 0 [(1, .sl .leaf o (aAP.map V.str)),(2, .ptr nx (.agg 7) 0 0),(4, .sl .leaf .nil []),(5, .sl .leaf q.2 ((dV r ps aAP q.1).map kV)),(9, .sl (.agg 5) oS (ps.map PS.v)),(10, .int .i64 ps.length),(11, .int .i64 q.1)])
  (fun q hp nx1=>q.1≤ps.length∧nx+1≤nx1∧aQ hp nx1∧Hp.same nx h' hp∧hp nx=some (.arr (.agg 7) [.agg [.str r.h.r, .sl (.agg 4) r.h.o (r.h.l.map Tr.v), .int .i64 r.g, .int .i64 r.c, .sl (.agg 17) r.o (r.b.map Li.v), .int .i64 r.at_, .sl (.agg 5) oS (ps.map PS.v)]])∧Acc hp (nx+1) q.2 ((dV r ps aAP q.1).map kV))
  (fun q=>ps.length-q.1) (0, .nil) ⟨Kk _,Zw,by exact dmo hd,by exact kep Hp.same.aA0,by simp only[go_sem,reduceIte,jA,jB,jC,jD,reduceCtorEq,jE,jF], .inl ⟨rfl,rfl⟩⟩ (by simp only[WkL,aD,jH,jI,jJ,jK,dV,Km,Ko,go_sem,reduceIte,jA,jB,jC,jD,reduceCtorEq,jE,jF]) ?_
 rintro⟨i,oo⟩ hp nx1 ⟨hi,hnx,hdm,hsm,hbx,hac⟩;generalize hQ:aX _ _ _ _ _=Q0;dsimp only at hi hac;simp only[aD,go_sem,reduceIte,jA,jB,jC,jD,reduceCtorEq,jE,jF];have n1:nx<nx1:=or;rcases Ki i ps.length with hlt|hge
 ·have hc:decide ((i:Int)<(ps.length:Int))=true:=dct;have hg:=aM PS.v ps i hlt;have hD:ps.getD i default=ps[i]:=by rw[Ka,Kb hlt];rfl
  have hw:IntKind.i64.wrap ((i:Int)+1)=((i+1:Nat):Int):=wrp;have hst:=wL r ps aAP i;have hsi:=hi8 ps[i] (Kd _);unfold zn at hst;rw[hD] at hst;have hdl:=rO r ps aAP i;generalize dV r ps aAP i=W at*;generalize ps[i]=s at*;have hg2:=aM Li.v r.b s.i hsi;have hD2:r.b.getD s.i default=r.b[s.i]:=by rw[Ka,Kb hsi];rfl
  rw[hD2] at hst;have hlr:r.b[s.i].v.cell 1= .str r.b[s.i].a.r:=rfl;generalize r.b[s.i].a.r=x at*;generalize r.b[s.i].v=X at*;have hsf:=PS.aAF s;obtain⟨T,hT,hk0,hk1⟩:∃T,s.v= .agg T∧T.getD 0 (.tup [])= .int .i64 s.k∧T.getD 1 (.tup [])= .int .i64 s.i:=⟨_,rfl,rfl,rfl⟩;rw[hT] at hg hsf;have C1:∀h:Hp,aI Tryz.prog 41 [.sl .leaf o (aAP.map V.str), .str x] h (.bool (bB x aAP)):=fun h=>fT o aAP hl x h;have hml:(W.map kV).length=W.length:=jK ..;have E:∀(hst:dV r ps aAP (i+1)=W) (sl:List V) (hp2:Hp) (nx2:Nat),nx1≤nx2→aQ hp2 nx2→(∀m,m<nx1→hp2 m=hp m)→WkL sl (aD 38 0 [(1, .sl .leaf o (aAP.map V.str)),(2, .ptr nx (.agg 7) 0 0),(4, .sl .leaf .nil []),(5, .sl .leaf oo (W.map kV)),(9, .sl (.agg 5) oS (ps.map PS.v)),(10, .int .i64 ps.length),(11, .int .i64 ((i+1:Nat):Int))])→Q0 .normal ⟨sl,hp2,nx2⟩:=by
   intro hst sl hp2 nx2 h1 h2 h3 h4;rw[←hQ];refine aE (i+1,oo) Zw ⟨hlt,or,h2,fun m hm=>(h3 m or).trans (hsm m hm),(h3 nx n1).trans hbx,by dsimp only;rw[hst];exact hac.aA2 hdm fun m hm _=>h3 m hm⟩ ?_;rw[hst];exact h4
  by_cases k1:s.k=1
  ·have g1:(s.k==1)=true:=bqt;cases hb:bB x aAP with
   |true=>
    rw[hb] at C1 hst;rw[decide_eq_true k1,Kg,if_pos rfl] at hst;refine aun (e14 hc hg hlt hbx n1 hsf hk0 hk1 hg2 hsi hlr g1 (@jK Li V) (e3 (@jK PS V) jG hml)) ?_;generalize hH:Hp.set _ _ _=H;have hk5:∀m,m<nx1→H m=hp m:=fun m hm=>by rw[←hH];simp only[Hp.set];repeat rw[if_neg or]
    have hd5:aQ H (nx1+3):=by rw[←hH];exact dmo hdm
    clear hH;refine fV (n0:=nx+1) rfl (hac.aA2 hdm fun m hm _=>hk5 m hm) Zw hd5 rfl (by simp only[hml,jL,jM];omega) ?_;intro o6 h6 ha6 hd6 ho6 hs6 aCC;dsimp only at hd6 ho6 hs6 aCC;refine aue hw ?_;rw[←hQ];refine aE (i+1,o6) Zw ⟨hlt,or,by exact dmo hd6,fun m hm=>by rw[hs6 m or,hk5 m or];exact hsm m hm,by rw[hs6 nx or,hk5 nx n1];exact hbx,by dsimp only;rw[hst,Kc];exact ha6⟩ (by simp only[WkL,aD,jH,jI,jJ,hst,Kc,Kh,Kj,kV,go_sem,reduceIte,jA,jB,jC,jD,reduceCtorEq,jE,jF])
   |false=>
    rw[hb] at C1 hst;rw[decide_eq_true k1,Kg,if_neg Zm,Kf] at hst;refine aue (e14 hc hg hlt hbx n1 hsf hk0 hk1 hg2 hsi hlr g1 (@jK Li V) (e3 (@jK PS V) jG hw)) ?_;exact E hst _ _ _ or (dmo hdm) (fun m hm=>by simp only[Hp.set];repeat rw[if_neg or]) (by simp only[WkL,aD,jH,jI,jJ,go_sem,reduceIte,jA,jB,jC,jD,reduceCtorEq,jE,jF])
  have g1:(s.k==1)=false:=bqf;rw[decide_eq_false k1,Kp,if_neg Zm,Kf] at hst;refine aue (e14 hc hg hlt hbx n1 hsf hk0 hk1 hg2 hsi hlr g1 (@jK Li V) (e3 (@jK PS V) jG hw)) ?_;exact E hst _ _ _ or (dmo hdm) (fun m hm=>by simp only[Hp.set];repeat rw[if_neg or]) (by simp only[WkL,aD,jH,jI,jJ,go_sem,reduceIte,jA,jB,jC,jD,reduceCtorEq,jE,jF])
 have hc:decide ((i:Int)<(ps.length:Int))=false:=dcf;refine aue hc ?_;rw[←hQ];refine au ?_;rw[show i=ps.length by omega] at hac⊢;exact aB h' (hsm.le hd (Hp.le_refl _)) ⟨kA hac,Hp.le_refl _⟩
set_option maxHeartbeats 4000000
theorem fj(r:Ru):∀(ks:List Nat) (hv:List ByteArray) (s:PS),s∈eV r ks hv→∃(i:Nat) (h:i<ks.length),s=iT (r.b.getD ks[i] default) ks[i] (cN r (ks.take i) hv)
 | [],hv,s,h=>by cases h
 |k::ks,hv,s,h=>by
  rcases List.mem_cons.1 h with rfl|h
  ·exact⟨0,Zm,rfl⟩
  obtain⟨i,hi,e⟩:=fj r ks _ s h;exact⟨i+1,by simpa using hi,e⟩
def Ah(r:Ru)(s:PS):Prop:=s.i<r.b.length∧s.hv.length≤1000000000∧s.wt.length≤1000000000∧s.ky.length≤1000000000
theorem BE{r:Ru}(hr:bM r=true):(nT r).length≤8∧∀s∈nT r,Ah r s:=by
 obtain⟨b1,b2,b3⟩:=cF hr;have hol:(cK r).length≤8:=by
  unfold cK mE;rw[jK];exact Nat.le_trans (lG ..) b2
 refine⟨by unfold nT;rw[pX];exact hol,fun s hs=>?_⟩;have aC9:=yZ r;obtain⟨i,hi,rfl⟩:=fj r _ _ s hs;have hk:=aC9 _ (Kd hi);have hD:r.b.getD (cK r)[i] default=r.b[(cK r)[i]]:=by rw[Ka,Kb hk];rfl
 have hrl:=b3 _ (Kd hk);have h1:=nO r b3 ((cK r).take i) [] fun k hk=>aC9 k (List.mem_of_mem_take hk);have h2:((cK r).take i).length*2097158≤8*2097158:=Nat.mul_le_mul_right _ (by rw[List.length_take];omega);simp only[jM] at h1;have h3:=iE r.b[(cK r)[i]].ts (cN r ((cK r).take i) []);have h4:=fF hrl;refine⟨hk,by unfold iT;dsimp only;omega,by unfold iT;dsimp only;rw[hD];omega,?_⟩;unfold iT;dsimp only;rw[hD];split
 ·have:=pS (cN r ((cK r).take i) []) r.b[(cK r)[i]].a.l 0;have h5:=(iW hrl).1;unfold nS;omega
 simp
theorem xp(r:Ru):∃(R:Ru) (ps:List PS) (e:Int),yW r= .tup [gW R ps,cq e]∧BH r.cp= .tup [lst (.agg 5) (vs9 ps), .int .i64 e]∧ps.length≤8∧(∀s∈ps,Ah r s∧s.i<R.b.length)∧(∀i aAP,i≤ps.length→dV R ps aAP i=dV r ps aAP i):=by
 unfold yW fi BH BI;rw[xe,zq,ew,Ar];cases hr:bM r with
 |false=>exact⟨_,[],_,rfl,rfl,Zm,fun s h=>(by cases h),fun i aAP h=>by simp at h;subst h;rfl⟩
 |true=>
  simp only[Bool.true_eq_false,if_false];by_cases hs:bY r (dJ r) false≠ []
  ·simp only[if_pos hs];exact⟨_,[],_,rfl,rfl,Zm,fun s h=>(by cases h),fun i aAP h=>by simp at h;subst h;rfl⟩
  simp only[if_neg hs];have h:=BE hr;exact⟨_,_,_,rfl,rfl,h.1,fun s hs=>⟨h.2 s hs,(h.2 s hs).1⟩,fun i aAP _=>rfl⟩
set_option maxHeartbeats 8000000 in
set_option maxRecDepth 100000 in
theorem cm(ha:∀h,aI Tryz.prog 7 [] h (.bool true))(r:Ru)(hr:r.s47)(o:Own)(aAP:List ByteArray)(h:Hp):aI Tryz.prog 4 [r.v, .sl .leaf o (aAP.map V.str)] h (.bool true):=by
 refine aH (fun L=>trivial) fun h' nx hh=>aC L.g0z fun hd=>?_;have hd:aQ h' nx:=hd;have C1:=ha;have C2:=fun h=>sj r hr h;have C3:=fun h=>wB r h;have C4:=fun hf h=>oe r hf h;have hff:=fun h0=>An hr h0;obtain⟨RV,hRV⟩:∃RV,r.v= .agg RV:=⟨_,rfl⟩;have hRf:(V.agg RV).fits (.agg 6)=true:=by rw[←hRV];rfl
 have hRb:RV.getD 4 (.tup [])= .sl (.agg 17) r.o (r.b.map Li.v):=by have:r.v.cell 4= .sl (.agg 17) r.o (r.b.map Li.v):=rfl;rw[hRV] at this;exact this
 rw[hRV] at C2 C3 C4⊢;simp only[jL,jM,jA,jB,jN,jO,jP,jQ,V.undef];obtain⟨N,hN⟩:∃N,m6 r=N:=⟨_,rfl⟩;rw[hN] at C2 hff;by_cases hlt:N<0
 ·have g1:decide (N<0)=true:=dct;clear C3 C4;refine aue (e3 hRf g1 trs.eq_1) ?_;exact aB h' (leo hd) ⟨rfl,rfl⟩
 have g1:decide (N<0)=false:=dcf;by_cases hrl:aAP.length>20
 ·have g2:decide ((20:Int)<(aAP.length:Int))=true:=dct;clear C3 C4;refine aue (e4 hRf g1 (@jK ByteArray V) g2) ?_;exact aB h' (leo hd) ⟨rfl,rfl⟩
 have g2:decide ((20:Int)<(aAP.length:Int))=false:=dcf
 replace C4:=C4 (hff or)
 obtain⟨R,ps,e,hE,h9,hp8,hok,hdl⟩:=xp r;rw[hE] at C3;obtain⟨oS,hoS⟩:=bR (.agg 5) (ps.map PS.v);have hPV:gW R ps= .agg [.str R.h.r, .sl (.agg 4) R.h.o (R.h.l.map Tr.v), .int .i64 R.g, .int .i64 R.c, .sl (.agg 17) R.o (R.b.map Li.v), .int .i64 R.at_, .sl (.agg 5) oS (ps.map PS.v)]:=by unfold gW;rw[hoS]
 rw[hPV] at C3;have C5:=fun h=>BG r.cp (Ru.aCy (Ru.aBG hr)) h;rw[h9] at C5;obtain⟨oN,hoN⟩:=bR (.agg 5) (vs9 ps);obtain⟨ow,how⟩:=bR .leaf ((gV ps).map V.str);obtain⟨oz,hoz⟩:∃oz,k8 ps= .sl .leaf oz ((gV ps).map V.str):=by
  unfold k8;split
  ·rename_i h0;rw[Ke.1 h0];exact⟨.nil,rfl⟩
  exact⟨.free,rfl⟩
 have hwl:(gV ps).length≤1000000000:=by
  unfold gV;by_cases h0:ps.length=0
  ·rw[Ke.1 h0];exact Nat.zero_le _
  have:=(hok _ (Kd (show ps.length-1<ps.length by omega))).1.2.2.1;rw[Ka,Kb or];exact this
 rw[hoN] at C5;refine aue (e4 hRf g1 (@jK ByteArray V) g2) ?_;clear C1 C2 C3 C4;have C1:=C5;clear C5;have C2:=fun h=>xu e h;have C3:=fun h=>qQ R ps or hwl h;have C4:=fun h=>rc ps or h;rw[hPV,how] at C3;rw[hoN,hoz] at C4;have he:(e != e)=false:=bnf;have hl:((ps.length:Int) != (ps.length:Int))=false:=bnf;refine aue (e6 he hl pP (@jK PS V) hRf g1) ?_;have T:∀h:Hp,aI Tryz.prog 11 [.sl .leaf ow ((gV ps).map V.str), .sl .leaf oz ((gV ps).map V.str)] h (.bool true):=fun h=>by
  have:=qZ ow oz (gV ps) (gV ps) hwl hwl h;rwa [decide_eq_true rfl] at this
 clear C1 C2 C3 C4;have C1:=T;refine aue (e2 pP (@jK PS V)) ?_;clear C1 T he hl;have hfP:(gW R ps).fits (.agg 7)=true:=by rw[hPV];rfl
 refine aO (fun q:Nat×Own=>aD 151 0 [(1, .sl .leaf o (aAP.map V.str)),(2, .ptr nx (.agg 6) 0 0),(4, .bool false),(5, .ptr (nx+1) (.agg 7) 0 0),(7, .sl (.agg 5) oN (vs9 ps)),(9, .sl .leaf q.2 ((dV r ps aAP q.1).map kV)),(57, .sl (.agg 5) oS (ps.map PS.v)),(58, .int .i64 ps.length),(59, .int .i64 q.1)])
  (fun q hp nx1=>q.1≤ps.length∧nx+3≤nx1∧aQ hp nx1∧Hp.same nx h' hp∧hp nx=some (.arr (.agg 6) [.agg RV])∧hp (nx+1)=some (.arr (.agg 7) [gW R ps])∧Acc hp (nx+2) q.2 ((dV r ps aAP q.1).map kV))
  (fun q=>ps.length-q.1) (0, .nil) ⟨Kk _,Zw,by exact dmo hd,by exact kep Hp.same.aA0,by simp only[go_sem,reduceIte,jA,jB,jC,jD,reduceCtorEq,jE,jF],by simp only[hPV,go_sem,reduceIte,jA,jB,jC,jD,reduceCtorEq,jE,jF], .inl ⟨rfl,rfl⟩⟩ (by simp only[WkL,aD,jH,jI,jJ,jK,dV,Km,Ko,go_sem,reduceIte,jA,jB,jC,jD,reduceCtorEq,jE,jF]) ?_
 rintro⟨i,oD⟩ hp nx1 ⟨hi,hnx,hdm,hsm,hb0,hb1,hac⟩;generalize hQ:aX _ _ _ _ _=Q0;dsimp only at hi hac;simp only[aD,go_sem,reduceIte,jA,jB,jC,jD,reduceCtorEq,jE,jF];have n0:nx<nx1:=or;have n1:nx+1<nx1:=or;rcases Ki i ps.length with hil|hge;rotate_left
 ·have hc:decide ((i:Int)<(ps.length:Int))=false:=dcf;rw[show i=ps.length by omega] at hac⊢;have hii:=hdl ps.length aAP (Nat.le_refl _);have aOO:=rO r ps aAP ps.length;have hd9:(dV r ps aAP ps.length).length≤1000000000:=or;have C1:=fun h=>t6 R ps or (fun s hs=>(hok s hs).2) o aAP or h;rw[hii] at C1;obtain⟨oE,hoE⟩:=bR .leaf ((dV r ps aAP ps.length).map kV);rw[hoE] at C1;have C2:∀h:Hp,aI Tryz.prog 18 [.sl .leaf oE ((dV r ps aAP ps.length).map kV), .sl .leaf oD ((dV r ps aAP ps.length).map kV)] h (.bool true):=fun h=>by
   have:=ia oE oD _ _ hd9 hd9 h;rwa [decide_eq_true rfl] at this
  generalize hPP:gW R ps=PP at*;rw[show i=ps.length by omega] at hc;refine aue (e4 hc hb1 n1 hfP) ?_;rw[←hQ];refine aue (e4 hc hb1 n1 hfP) ?_;exact aB h' (hsm.le hd (Hp.le_refl _)) ⟨rfl,rfl⟩
 have hc:decide ((i:Int)<(ps.length:Int))=true:=dct;have hg:=aM PS.v ps i hil;have hg9:=ux ps i hil;have hD:ps.getD i default=ps[i]:=by rw[Ka,Kb hil];rfl
 rw[hD] at hg9;have hst:=wL r ps aAP i;unfold zn at hst;rw[hD] at hst;have aOO:=rO r ps aAP i;have aNp:∀d∈dV r ps aAP i,d<i:=fun d hd=>List.mem_range.1 (List.mem_filter.1 hd).1;obtain⟨⟨q1,q2,q3,q4⟩,_⟩:=hok ps[i] (Kd _);generalize dV r ps aAP i=D at*;generalize ps[i]=s at*;obtain⟨a1,h1⟩:=bR .leaf (s.hv.map V.str);obtain⟨a2,h2⟩:=bR .leaf (s.wt.map V.str);obtain⟨a3,h3⟩:=bR .leaf (s.ky.map kV);have hSV:s.v= .agg [.int .i64 s.k, .int .i64 s.i, .sl .leaf a1 (s.hv.map V.str), .sl .leaf a2 (s.wt.map V.str), .sl .leaf a3 (s.ky.map kV)]:=by unfold PS.v;rw[h1,h2,h3]
 have hS9:s.v9 (o9 i)= .agg [.int .i64 s.k, .int .i64 s.i, .sl .leaf (o9 i) (s.hv.map V.str), .sl .leaf .free (s.wt.map V.str), .sl .leaf a3 (s.ky.map kV)]:=by unfold PS.v9;rw[h3]
 rw[hSV] at hg;rw[hS9] at hg9;have C1:∀h:Hp,aI Tryz.prog 11 [.sl .leaf a1 (s.hv.map V.str), .sl .leaf (o9 i) (s.hv.map V.str)] h (.bool true):=fun h=>by
  have:=qZ a1 (o9 i) s.hv s.hv q2 q2 h;rwa [decide_eq_true rfl] at this
 have C2:∀h:Hp,aI Tryz.prog 11 [.sl .leaf a2 (s.wt.map V.str), .sl .leaf .free (s.wt.map V.str)] h (.bool true):=fun h=>by
  have:=qZ a2 .free s.wt s.wt q3 q3 h;rwa [decide_eq_true rfl] at this
 have C3:∀h:Hp,aI Tryz.prog 18 [.sl .leaf a3 (s.ky.map kV), .sl .leaf a3 (s.ky.map kV)] h (.bool true):=fun h=>by
  have:=ia a3 a3 s.ky s.ky q4 q4 h;rwa [decide_eq_true rfl] at this
 have hk:(s.k != s.k)=false:=bnf;have hI:((s.i:Int) != (s.i:Int))=false:=bnf;refine aue (e12 hc hg hg9 hil hk hI n0 n1 (@jK PS V) pP jG (@jK ByteArray V)) ?_;generalize hH:Hp.set _ _ _=H;have hk5:∀m,m<nx1→H m=hp m:=fun m hm=>by rw[←hH];simp only[Hp.set];repeat rw[if_neg or]
 have hbX:H (nx1+2)=some (.arr (.agg 5) [.agg [.int .i64 s.k, .int .i64 s.i, .sl .leaf (o9 i) (s.hv.map V.str), .sl .leaf .free (s.wt.map V.str), .sl .leaf a3 (s.ky.map kV)]]):=by rw[←hH];simp only[go_sem,reduceIte,jA,jB,jC,jD,reduceCtorEq,jE,jF]
 have hdH:aQ H (nx1+4):=by rw[←hH];exact dmo hdm
 clear hH C1 C2 C3 hk hI;have hg2:=aM Li.v r.b s.i q1;have hD2:r.b.getD s.i default=r.b[s.i]:=by rw[Ka,Kb q1];rfl
 rw[hD2] at hst;have hlr:r.b[s.i].v.cell 1= .str r.b[s.i].a.r:=rfl;generalize r.b[s.i].a.r=x at*;generalize r.b[s.i].v=X at*;have hw:IntKind.i64.wrap ((i:Int)+1)=((i+1:Nat):Int):=wrp;obtain⟨F,hF⟩:∃F:Nat→Bool,∀j,F j=(decide (s.k=1)&&bB x (aAP.take j)):=⟨_,fun _=>rfl⟩;obtain⟨Dj,hDj⟩:∃Dj:Nat→List Nat,∀j,Dj j=D++(if F j=true then [i] else []):=⟨_,fun _=>rfl⟩;have hD0:Dj 0=D:=by rw[hDj,hF];simp[bB]
 have hDl:∀j,(Dj j).length≤9:=fun j=>by
  rw[hDj,List.length_append];have:(if F j=true then [i] else []).length≤1:=by split<;>simp
  omega
 refine aO (fun q:Nat×Own=>aD 151 0 [(1, .sl .leaf o (aAP.map V.str)),(2, .ptr nx (.agg 6) 0 0),(4, .bool false),(5, .ptr (nx+1) (.agg 7) 0 0),(7, .sl (.agg 5) oN (vs9 ps)),(9, .sl .leaf q.2 ((Dj q.1).map kV)),(10, .int .i64 i),(12, .ptr (nx1+2) (.agg 5) 0 0),(57, .sl (.agg 5) oS (ps.map PS.v)),(58, .int .i64 ps.length),(59, .int .i64 i),(104, .sl .leaf o (aAP.map V.str)),(105, .int .i64 aAP.length),(106, .int .i64 q.1)])
  (fun q hp2 nx2=>q.1≤aAP.length∧nx1+4≤nx2∧aQ hp2 nx2∧Hp.same nx h' hp2∧hp2 nx=some (.arr (.agg 6) [.agg RV])∧hp2 (nx+1)=some (.arr (.agg 7) [gW R ps])∧hp2 (nx1+2)=some (.arr (.agg 5) [.agg [.int .i64 s.k, .int .i64 s.i, .sl .leaf (o9 i) (s.hv.map V.str), .sl .leaf .free (s.wt.map V.str), .sl .leaf a3 (s.ky.map kV)]])∧Acc hp2 (nx+2) q.2 ((Dj q.1).map kV))
  (fun q=>aAP.length-q.1) (0,oD) ⟨Kk _,Zw,hdH,fun m hm=>(hk5 m or).trans (hsm m hm),(hk5 nx n0).trans hb0,(hk5 (nx+1) n1).trans hb1,hbX,by dsimp only;rw[hD0];exact hac.aA2 hdm fun m hm _=>hk5 m hm⟩ (by simp only[WkL,aD,jH,jI,jJ,jK,hD0,go_sem,reduceIte,jA,jB,jC,jD,reduceCtorEq,jE,jF]) ?_
 clear hbX hdH hk5;rintro⟨j,oj⟩ hp2 nx2 ⟨hj,aGh,aBC,aBI,hc0,hc1,hcX,aFL⟩;generalize hQ2:aX _ _ _ _ _=Q2;dsimp only at hj aFL;simp only[aD,go_sem,reduceIte,jA,jB,jC,jD,reduceCtorEq,jE,jF];have m0:nx<nx2:=or;have m1:nx+1<nx2:=or;have mX:nx1+2<nx2:=or;rcases Ki j aAP.length with hjl|hjg
 ·have hc2:decide ((j:Int)<(aAP.length:Int))=true:=dct;have hgr:=aM V.str aAP j hjl;have hw2:IntKind.i64.wrap ((j:Int)+1)=((j+1:Nat):Int):=wrp;have hFs:F (j+1)=(decide (s.k=1)&&(bB x (aAP.take j)||decide (x=aAP[j]))):=by
   rw[hF,List.take_succ_eq_append_getElem hjl];unfold bB;rw[List.any_append];simp
  have hFj:=hF j;have hDs:=hDj (j+1);have aCu:=hDj j;have aXX:=hDl j;have same:Dj (j+1)=Dj j→∀(sl:List V) (hp3:Hp) (nx3:Nat),nx2≤nx3→aQ hp3 nx3→(∀m,m<nx2→hp3 m=hp2 m)→WkL sl (aD 151 0 [(1, .sl .leaf o (aAP.map V.str)),(2, .ptr nx (.agg 6) 0 0),(4, .bool false),(5, .ptr (nx+1) (.agg 7) 0 0),(7, .sl (.agg 5) oN (vs9 ps)),(9, .sl .leaf oj ((Dj j).map kV)),(10, .int .i64 i),(12, .ptr (nx1+2) (.agg 5) 0 0),(57, .sl (.agg 5) oS (ps.map PS.v)),(58, .int .i64 ps.length),(59, .int .i64 i),(104, .sl .leaf o (aAP.map V.str)),(105, .int .i64 aAP.length),(106, .int .i64 ((j+1:Nat):Int))])→Q2 .normal ⟨sl,hp3,nx3⟩:=by
   intro e sl hp3 nx3 h1 h2 h3 h4;rw[←hQ2];refine aE (j+1,oj) Zw ⟨hjl,or,h2,fun m hm=>(h3 m or).trans (aBI m hm),(h3 nx m0).trans hc0,(h3 (nx+1) m1).trans hc1,(h3 (nx1+2) mX).trans hcX,by dsimp only;rw[e];exact aFL.aA2 aBC fun m hm _=>h3 m hm⟩ ?_;rw[e];exact h4
  generalize aAP[j]=y at*;by_cases k1:s.k=1
  ·have g1:(s.k==1)=true:=bqt;rw[decide_eq_true k1,Kg] at hFs hFj;by_cases hxy:y=x
   ·subst hxy;have he:(y.toList==y.toList)=true:=by rw[cV];exact decide_eq_true rfl
    rw[decide_eq_true rfl,Bool.or_true] at hFs;rw[hFs,if_pos rfl] at hDs;cases hfj:F j with
    |true=>
     rw[hfj,if_pos rfl] at aCu;have hlen:(Dj j).length=D.length+1:=by rw[aCu];simp
     have z1:(((Dj j).length:Int)==0)=false:=bqf;have hw3:IntKind.i64.wrap (((Dj j).length:Int)-1)=((D.length:Nat):Int):=wrp;have aDA:((Dj j).map kV).getD D.length (.tup [])= .int .i64 i:=by rw[aCu,Kc,Ka,List.getElem?_append_right Zm];simp[kV]
     have hne:((i:Int) != (i:Int))=false:=bnf;have hlt:D.length<(Dj j).length:=or;have hml:((Dj j).map kV).length=(Dj j).length:=jK ..;refine aue (e14 hc2 hgr hjl g1 hcX m0 m1 mX hc0 hRb hg2 q1 hlr (e11 he z1 hw3 aDA hne hlt hml (@jK ByteArray V) (@jK Li V) jG hw2)) ?_;exact same (by rw[hDs,aCu]) _ _ _ or (dmo aBC) (fun m hm=>rfl) (by simp only[WkL,aD,jH,jI,jJ,go_sem,reduceIte,jA,jB,jC,jD,reduceCtorEq,jE,jF])
    |false=>
     rw[hfj,if_neg Zm,Kf] at aCu;have hml:((Dj j).map kV).length=(Dj j).length:=jK ..;by_cases aXY:(Dj j).length=0
     ·have z1:(((Dj j).length:Int)==0)=true:=bqt;refine aun (e14 hc2 hgr hjl g1 hcX m0 m1 mX hc0 hRb hg2 q1 hlr (e7 he z1 hml (@jK ByteArray V) (@jK Li V) jG trivial)) ?_;generalize hH:Hp.set _ _ _=H;have hk5:∀m,m<nx2→H m=hp2 m:=fun m hm=>by rw[←hH];simp only[Hp.set];repeat rw[if_neg or]
      have hd5:aQ H (nx2+1):=by rw[←hH];exact dmo aBC
      clear hH;refine fV (n0:=nx+2) rfl (aFL.aA2 aBC fun m hm _=>hk5 m hm) Zw hd5 rfl (by simp only[jK,jL,jM];omega) ?_;intro o6 h6 ha6 hd6 ho6 hs6 aCC;dsimp only at hd6 ho6 hs6 aCC;have aOR:=(aCC (nx1+2) or (fun e=>by
       rcases aFL with⟨_,e3⟩|⟨_,id,_,e3,e4⟩
       ·rw[e3] at e;cases e
       rw[e3] at e;injection e with e;rw[e,hcX] at e4;cases e4)).trans ((hk5 (nx1+2) or).trans hcX)
      refine aue hw2 ?_;rw[←hQ2];exact aE (j+1,o6) Zw ⟨hjl,or,by exact dmo hd6,fun m hm=>by rw[hs6 m or,hk5 m or];exact aBI m hm,by rw[hs6 nx or,hk5 nx m0];exact hc0,by rw[hs6 (nx+1) or,hk5 (nx+1) m1];exact hc1,aOR,by dsimp only;rw[hDs,Kc,←aCu];exact ha6⟩ (by simp only[WkL,aD,jH,jI,jJ,hDs,←aCu,Kc,Kh,Kj,kV,go_sem,reduceIte,jA,jB,jC,jD,reduceCtorEq,jE,jF])
     have z1:(((Dj j).length:Int)==0)=false:=bqf;obtain⟨d,hd1,hd2⟩:∃d,((Dj j).map kV).getD ((Dj j).length-1) (.tup [])= .int .i64 ((d:Nat):Int)∧d<i:=⟨(Dj j)[(Dj j).length-1],aM kV (Dj j) _ or,aNp _ (by rw[←aCu];exact Kd _)⟩;have hw3:IntKind.i64.wrap (((Dj j).length:Int)-1)=(((Dj j).length-1:Nat):Int):=by
      rw[(wrp:IntKind.i64.wrap (((Dj j).length:Int)-1)=((Dj j).length:Int)-1)];omega
     have hne:((d:Int) != (i:Int))=true:=bnt;have hlt:(Dj j).length-1<(Dj j).length:=or;refine aun (e14 hc2 hgr hjl g1 hcX m0 m1 mX hc0 hRb hg2 q1 hlr (e11 he z1 hw3 hd1 hne hlt hml (@jK ByteArray V) (@jK Li V) jG trivial)) ?_;generalize hH:Hp.set _ _ _=H;have hk5:∀m,m<nx2→H m=hp2 m:=fun m hm=>by rw[←hH];simp only[Hp.set];repeat rw[if_neg or]
     have hd5:aQ H (nx2+1):=by rw[←hH];exact dmo aBC
     clear hH;refine fV (n0:=nx+2) rfl (aFL.aA2 aBC fun m hm _=>hk5 m hm) Zw hd5 rfl (by simp only[jK,jL,jM];omega) ?_;intro o6 h6 ha6 hd6 ho6 hs6 aCC;dsimp only at hd6 ho6 hs6 aCC;have aOR:=(aCC (nx1+2) or (fun e=>by
      rcases aFL with⟨_,e3⟩|⟨_,id,_,e3,e4⟩
      ·rw[e3] at e;cases e
      rw[e3] at e;injection e with e;rw[e,hcX] at e4;cases e4)).trans ((hk5 (nx1+2) or).trans hcX)
     refine aue hw2 ?_;rw[←hQ2];exact aE (j+1,o6) Zw ⟨hjl,or,by exact dmo hd6,fun m hm=>by rw[hs6 m or,hk5 m or];exact aBI m hm,by rw[hs6 nx or,hk5 nx m0];exact hc0,by rw[hs6 (nx+1) or,hk5 (nx+1) m1];exact hc1,aOR,by dsimp only;rw[hDs,Kc,←aCu];exact ha6⟩ (by simp only[WkL,aD,jH,jI,jJ,hDs,←aCu,Kc,Kh,Kj,kV,go_sem,reduceIte,jA,jB,jC,jD,reduceCtorEq,jE,jF])
   have he:(y.toList==x.toList)=false:=by rw[cV];exact decide_eq_false hxy
   rw[decide_eq_false (fun e=>hxy e.symm),Bool.or_false,←hFj] at hFs;refine aue (e14 hc2 hgr hjl g1 hcX m0 m1 mX hc0 hRb hg2 q1 hlr (e5 he (@jK ByteArray V) (@jK Li V) jG hw2)) ?_;exact same (by rw[hDs,aCu,hFs]) _ _ _ or (dmo aBC) (fun m hm=>rfl) (by simp only[WkL,aD,jH,jI,jJ,go_sem,reduceIte,jA,jB,jC,jD,reduceCtorEq,jE,jF])
  have g1:(s.k==1)=false:=bqf;rw[decide_eq_false k1,Kp] at hFs hFj;refine aue (e10 hc2 hgr hjl g1 hcX m0 m1 mX (@jK ByteArray V) (e2 jG hw2)) ?_;exact same (by rw[hDs,aCu,hFs,hFj]) _ _ _ or (dmo aBC) (fun m hm=>rfl) (by simp only[WkL,aD,jH,jI,jJ,go_sem,reduceIte,jA,jB,jC,jD,reduceCtorEq,jE,jF])
 have hc2:decide ((j:Int)<(aAP.length:Int))=false:=dcf;refine aue (e2 hc2 hw) ?_;rw[←hQ2];refine aue hw ?_;rw[←hQ];have aAm:Dj j=dV r ps aAP (i+1):=by rw[hDj,hF,List.take_of_length_le or,hst]
 exact aE (i+1,oj) Zw ⟨hil,or,dmo aBC,kep aBI,hc0,hc1,by dsimp only;rw[←aAm];exact aFL⟩ (by simp only[WkL,aD,jH,jI,jJ,aAm,go_sem,reduceIte,jA,jB,jC,jD,reduceCtorEq,jE,jF])
end Go.Proofs.YtgbiopfghdilnaaGreatDoor
