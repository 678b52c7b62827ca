/-
Texts of this proof,one behind the other. No conditions.
-/
import Derived.Test.YtecepaehmojpgaaGreatKd
import Derived.Test.YtecepaehmojpgaaGreatKu
open Go.Proofs.YtecepaehmojpgaaGreat.Cg renaming v→Ka
open Go.Proofs.YtecepaehmojpgaaGreat.Hp renaming set→Kb,del→Kc,le_refl→Kd,same→Ke
open List renaming take_succ_eq_append_getElem→Kf,map_append→Kg,length_append→Ki,getElem_mem→Km,map_cons→Ko,map_nil→Kp,length→Ks
open Nat renaming le_refl→Kh,lt_or_ge→Kj,zero_le→Kk,le_trans→Kq
open Nat renaming reduceAdd→jA,reduceSub→jB,reduceLT→jC,reduceLeDiff→jD,reduceEqDiff→jE
open Int renaming reduceToNat→jF,toNat_natCast→jG,natCast_add→jH,natCast_one→jI,natCast_zero→jJ
open List renaming length_map→jK,length_cons→jL,length_nil→jM,replicate_succ→jN,replicate_zero→jO,cons_append→jP,nil_append→jQ
set_option linter.unusedSimpArgs false
set_option linter.unusedVariables false
set_option linter.unusedSectionVars false
set_option maxHeartbeats 8000000
namespace Go.Proofs.YtecepaehmojpgaaGreat
open Go.RowKit Go.Sort
noncomputable def kW(x:DW)(i:Nat)(n:Nt)(k:Nat):List (List Cg):=(x.Vs.take k).mapIdx fun t C=>if t=i then (bP x.P C n.ds).1 else C
def lE(i:Int)(n:Nt)(k:Nat):List DN:=(List.range k).flatMap fun t:Nat=>if (t:Int)=i then [] else [⟨i,(t:Int),n⟩]
theorem Cq(x:DW)(i:Nat)(n:Nt){k:Nat}(h:k<x.Vs.length):kW x i n (k+1)=kW x i n k++[if k=i then (bP x.P x.Vs[k] n.ds).1 else x.Vs[k]]:=by
 unfold kW;rw[Kf h,List.mapIdx_concat];have:(x.Vs.take k).length=k:=by simp;omega
 rw[this]
theorem pz(i:Int)(n:Nt)(k:Nat):lE i n (k+1)=lE i n k++if (k:Int)=i then [] else [⟨i,(k:Int),n⟩]:=by
 unfold lE;rw[List.range_succ,List.flatMap_append];simp
theorem DS(i:Int)(n:Nt)(k:Nat):(lE i n k).length≤k:=by
 induction k with
 |zero=>simp[lE]
 |succ k ih=>rw[pz,Ki];split<;>simp<;>omega
theorem xy(x:DW)(i:Nat)(n:Nt)(k:Nat):(kW x i n k).length≤k:=by simp[kW];omega
attribute [local irreducible] IntKind.wrap
set_option maxRecDepth 100000 in
set_option maxHeartbeats 8000000 in
theorem BJ(om oN:Own)(x:DW)(hx:x.Ok)(i:Nat)(n:Nt)(hm:n.made.length≤1000)(nx:Nat)(hp:Hp)(nx1:Nat)(hnx:nx+4≤nx1)(tv:V)(htv:tv.aAD=true)(bx id0:Nat)(hp0:Hp)(nx0:Nat)(hbx:nx1≤bx)(hi0:nx1≤id0)(aVk:aI hp0 nx0)(aNt:Ke nx1 hp hp0)
 (b0:hp nx=some (.arr (.agg 5) [.agg [.int .i64 x.P,wys om x.ws, .sl (.agg 4) (cO x.T) (x.T.map Ka), .sl .leaf (cO x.Vs) (x.Vs.map vwV), .sl (.agg 3) oN (x.Ns.map DN.v)]])) (w0:hp0 bx=some (.arr (.agg 5) [.agg [.int .i64 x.P,wys om x.ws,tv, .sl .leaf .nil [], .sl (.agg 3) (.tok id0) (x.Ns.map DN.v)]])) (ht0:hp0 id0=some .tip) (QX:cM→St→Prop)
 (hQX:∀(hp2:Hp) (nx2:Nat) (sl:List V) (ov:Own) (id2:Nat),Ke nx1 hp hp2→aI hp2 nx2→hp2 bx=some (.arr (.agg 5) [.agg [.int .i64 x.P,wys om x.ws,tv, .sl .leaf ov ((kW x i n x.Vs.length).map vwV), .sl (.agg 3) (.tok id2) ((x.Ns++lE i n x.Vs.length).map DN.v)]])→Acc hp2 nx1 ov ((kW x i n x.Vs.length).map vwV)→WkL sl (aB 144 0 [(8, .ptr (nx+2) (.agg 5) 0 0),(9, .int .i64 0),(15, .ptr bx (.agg 5) 0 0)])→QX (.exit 4) ⟨sl,hp2,nx2⟩)
 (sl0:List V) (hsl:WkL sl0 (aB 144 0 [(1, .int .i64 i),(4, .ptr nx (.agg 5) 0 0),(8, .ptr (nx+2) (.agg 5) 0 0),(9, .int .i64 0),(10, .sl (.agg 4) .free (n.ds.map Ka)),(15, .ptr bx (.agg 5) 0 0),(16, .int .i64 0)])):
 lwp Tryz.prog (.loop L.aDv) QX ⟨sl0,hp0,nx0⟩:=by
 have hvl:(x.Vs.map vwV).length=x.Vs.length:=jK ..;have aVR:=hx.vl;have hnl:=hx.nl;have hdl:n.ds.length≤1001:=by simp[Nt.ds];omega
 obtain⟨W,hW⟩:∃W:Nat→Own→Nat→V,∀k ov id,W k ov id= .agg [.int .i64 x.P,wys om x.ws,tv, .sl .leaf ov ((kW x i n k).map vwV), .sl (.agg 3) (.tok id) ((x.Ns++lE i n k).map DN.v)]:=⟨_,fun _ _ _=>rfl⟩
 refine aO (fun q:Nat×Own×Nat=>aB 144 0 [(1, .int .i64 i),(4, .ptr nx (.agg 5) 0 0),(8, .ptr (nx+2) (.agg 5) 0 0),(9, .int .i64 0),(10, .sl (.agg 4) .free (n.ds.map Ka)),(15, .ptr bx (.agg 5) 0 0),(16, .int .i64 q.1)])
  (fun q hp2 nx2=>q.1≤x.Vs.length∧aI hp2 nx2∧Ke nx1 hp hp2∧hp2 bx=some (.arr (.agg 5) [W q.1 q.2.1 q.2.2])∧Acc hp2 nx1 q.2.1 ((kW x i n q.1).map vwV)∧nx1≤q.2.2∧hp2 q.2.2=some .tip∧q.2.1≠ .tok q.2.2)
  (fun q=>x.Vs.length-q.1) (0, .nil,id0) ⟨Kk _,aVk,aNt,?_,?_,hi0,ht0,fun e=>by cases e⟩ hsl ?_
 ·dsimp only;rw[hW];simpa [kW,lE] using w0
 ·exact .inl ⟨by simp[kW],rfl⟩
 clear aVk aNt w0 ht0 hsl;rintro⟨k,ov,id2⟩ hp2 nx2 ⟨hk,hdm,hsm,w1,aAU,hid,aBH,hne⟩;generalize hQ:bH _ _ _ _ _=Q0;dsimp only at hk w1 aAU hid aBH hne;rw[hW] at w1;simp only[aB,go_sem,reduceIte,jA,jB,jC,jD,reduceCtorEq,jE,jF];have c0:=(hsm nx or).trans b0;have n0:nx<nx2:=hdm _ _ c0;have n1:bx<nx2:=hdm _ _ w1;have n2:id2<nx2:=hdm _ _ aBH;rcases Kj k x.Vs.length with hlt|hge;case inr=>
  have hc1:decide ((k:Int)<(x.Vs.length:Int))=false:=dcf;refine aue (e4 hc1 c0 n0 hvl) ?_;rw[←hQ];have hke:k=x.Vs.length:=or;subst hke;exact dC (hQX hp2 _ _ ov id2 hsm (hdm.up ZN) w1 aAU (wkl trivial))
 have hc1:decide ((k:Int)<(x.Vs.length:Int))=true:=dct;have hw1:IntKind.i64.wrap ((k:Int)+1)=((k+1:Nat):Int):=wrp;have hgv:(x.Vs.map vwV).getD k (.tup [])=vwV x.Vs[k]:=bY vwV _ x.Vs k hlt;have hVn:=Cq x i n hlt;have hNn:=pz i n k;have hdo:=sa aAU hdm (n:=bx) (.inr (by rw[w1];exact fun e=>by cases e));have hvk:((kW x i n k).map vwV).length≤100:=by rw[jK];have:=xy x i n k;omega
 have aVT:((kW x i n k).length+1)*24≤140737488355328:=by have:=xy x i n k;omega
 by_cases hki:k=i;case pos=>
  have g1:((k:Int)==(i:Int))=true:=bqt;obtain⟨C,hC⟩:∃C,C=x.Vs[k]:=⟨_,rfl⟩;have hCl:C.length≤10000:=by rw[hC];exact hx.vs _ (Km hlt)
  rw[if_pos hki,←hC] at hVn;rw[if_pos or,List.append_nil] at hNn;rw[←hC,show vwV C= .sl (.agg 4) (cO C) (C.map Ka) from lM ..] at hgv;have D1:∀h,aY Tryz.prog 50 [.agg [.int .i64 x.P,wys om x.ws], .sl (.agg 4) (cO C) (C.map Ka), .sl (.agg 4) .free (n.ds.map Ka)] h (.tup [vwV (bP x.P C n.ds).1, .int .i64 (bP x.P C n.ds).2]):=fun h=>oA om (cO C) .free x.P x.ws C n.ds hCl or (lM ..) h;have hvf:∀C,(vwV C).aAD=true:=fun C=>pK ..;have hVm:(kW x i n (k+1)).map vwV=(kW x i n k).map vwV++[vwV (bP x.P C n.ds).1]:=by rw[hVn,Kg];rfl
  refine aue (e14 hc1 c0 w1 n0 n1 hvl hgv hlt g1 hw1 htv hdo aVT (e4 (@jK (List Cg) V) jG (hvf (bP x.P C n.ds).1) hVm)) ?_;rw[←hQ];have hib:id2≠bx:=(db w1 aBH).symm;refine aD (k+1, .tok (nx2+15),id2) Zw ⟨hlt,dmo hdm,kv hsm aAU,?_,?_,hid,?_,fun e=>by have hh:nx2+15=id2:=Own.tok.inj e;omega⟩ (wkl trivial)
  ·dsimp only;rw[hW,hVm,hNn];simp only[Kb,if_true]
  ·dsimp only;rw[hVm];refine Acc.set (Acc.new _ Zm or) ?_ _;simp only[Kb];rw[if_neg or,hdo];simp only[Kb];rw[if_neg or,w1];exact fun e=>by cases e
  dsimp only;have hdi:∀H:Hp,H.aAb ov id2=H id2:=fun H=>by
   cases ov with
   |tok id=>
    show H.del id id2=H id2;unfold Kc;rw[if_neg (fun e=>hne (by rw[e]))]
   |_=>rfl
  simp only[Kb];rw[if_neg hib,if_neg or,hdi];simp only[Kb];rw[if_neg or];exact aBH
 have g1:((k:Int)==(i:Int))=false:=bqf;rw[if_neg hki] at hVn;rw[if_neg or] at hNn;have hvf:∀C,(vwV C).aAD=true:=fun C=>pK ..;have hVm:(kW x i n (k+1)).map vwV=(kW x i n k).map vwV++[vwV x.Vs[k]]:=by rw[hVn,Kg];rfl
 have hNm:(x.Ns++lE i n (k+1)).map DN.v=(x.Ns++lE i n k).map DN.v++[.agg [.int .i64 i, .int .i64 k, .sl (.agg 4) .free (n.ds.map Ka)]]:=by
  rw[hNn,←List.append_assoc,Kg,Ko,Kp];rfl
 have aOf:k≤100:=or;have aWq:(x.Ns++lE i n k).length≤10100:=by
  rw[Ki];exact Nat.add_le_add hnl (Kq (DS i n k) aOf)
 have aWr:((x.Ns++lE i n k).length+1)*40≤140737488355328:=Kq (Nat.mul_le_mul_right 40 (Nat.succ_le_succ aWq)) ZM;have hib:id2≠bx:=(db w1 aBH).symm;unfold L.aDv;generalize hD:aZ.draw 10 L.aFf L.aDt=DC;refine aue (e6 hc1 c0 n0 hvl g1 hw1) ?_;generalize hC:nW (lwp Tryz.prog (.ops L.aFe)) _=QR
 have aA9:∀(H:Hp) (nx3 a:Nat) (sl:List V),nx2≤nx3→nx2≤a→a<nx3→aI H nx3→Ke nx1 hp H→H bx=some (.arr (.agg 5) [.agg [.int .i64 x.P,wys om x.ws,tv, .sl .leaf (.tok a) ((kW x i n k).map vwV++[vwV x.Vs[k]]), .sl (.agg 3) (.tok id2) ((x.Ns++lE i n k).map DN.v)]])→H a=some .tip→H id2=some .tip→WkL sl (aB 144 0 [(1, .int .i64 i),(4, .ptr nx (.agg 5) 0 0),(8, .ptr (nx+2) (.agg 5) 0 0),(9, .int .i64 0),(10, .sl (.agg 4) .free (n.ds.map Ka)),(15, .ptr bx (.agg 5) 0 0),(16, .int .i64 k)])→
  QR .normal ⟨sl,H,nx3⟩:=by
  intro H nx3 a sl hx3 ha ha3 hdH hsH w2 hta hti hsl;rw[←hC];refine fT ⟨_,H,nx3⟩ ⟨hsl,Kd _,Kh _⟩ ?_;simp only[aB,go_sem,reduceIte,jA,jB,jC,jD,reduceCtorEq,jE,jF];refine bL ?_;have m1:bx<nx3:=or;refine bE 7 rfl (by simp only[w2,m1,go_sem,reduceIte,jA,jB,jC,jD,reduceCtorEq,jE,jF];try omega) ?_;simp only[w2,go_sem,reduceIte,jA,jB,jC,jD,reduceCtorEq,jE,jF];refine pc (o:= .tok id2) (es:=(x.Ns++lE i n k).map DN.v) (ys:=[.agg [.int .i64 i, .int .i64 k, .sl (.agg 4) .free (n.ds.map Ka)]]) rfl (show H.set _ .tip id2=some .tip by simp only[Kb];rw[if_neg or];exact hti) rfl Zm (by rw[jK];exact aWr) ?_;refine Zn ?_;have z1:(bx=id2)=False:=eq_false (fun e=>hib e.symm);have z2:(bx=nx3)=False:=fls;have z3:(bx=nx3+1)=False:=fls;refine aue (e7 w2 m1 z1 z2 z3 hw1 htv) ?_;rw[←hQ];refine aD (k+1, .tok a,nx3+1) Zw ⟨hlt,dmo hdH,fun y hy=>?_,?_, .inr ⟨by dsimp only;rw[hVm];simp,a,or,rfl,?_⟩,Zw,?_,fun e=>by have hh:a=nx3+1:=Own.tok.inj e;omega⟩ (wkl trivial)
  ·simp only[Kb,Kc];rw[if_neg or,if_neg or,if_neg or,if_neg or];exact hsH y hy
  ·dsimp only;rw[hW,hVm,hNm];simp only[Kb,if_true]
  ·simp only[Kb,Kc];rw[if_neg or,if_neg or,if_neg or,if_neg or];exact hta
  dsimp only;simp only[Kb];rw[if_neg or];simp
 clear hC;rw[←hD];clear hD;rcases aAU with⟨hz,rfl⟩|⟨hnz,id,aZI,rfl,htp⟩
 ·have hz0:(kW x i n k).map vwV=[]:=hz;rw[hz0] at w1 aA9;refine aue (e10 c0 w1 n0 n1 hvl hgv hlt htv jG (hvf x.Vs[k])) ?_;exact aA9 _ _ (nx2+8) _ or or or (dmo hdm) (fun y hy=>by simp only[Kb];rw[if_neg or,if_neg or,if_neg or];exact hsm y hy) (by simp only[Kb,if_true];rfl) (by simp only[Kb];rw[if_neg or];simp) (by simp only[Kb];rw[if_neg hib,if_neg or,if_neg or];exact aBH) (wkl trivial)
 have aB1:id<nx2:=hdm _ _ htp;have hco:∀aAR aAL,iW hp2 nx2 aAR aAL [none,none,none,none,none,none,none,none] id .tip:=fun _ _=>lN aB1 htp (by simp[cS]);have z1:(bx=id)=False:=eq_false (db w1 htp);refine aue (e14 c0 w1 n0 n1 hvl hgv hlt htv jG (hvf x.Vs[k]) hco (@jK (List Cg) V) aVT z1) ?_;have hii:id2≠id:=fun e=>hne (by rw[e]);exact aA9 _ _ (nx2+8) _ or or or (dmo hdm) (fun y hy=>by simp only[Kb,Kc];rw[if_neg or,if_neg or,if_neg or,if_neg or];exact hsm y hy) (by simp only[Kb,if_true]) (by simp only[Kb,Kc];rw[if_neg or,if_neg or];simp) (by simp only[Kb,Kc];rw[if_neg hib,if_neg hii,if_neg or,if_neg or];exact aBH) (wkl trivial)
end Go.Proofs.YtecepaehmojpgaaGreat
namespace Go.Proofs.YtecepaehmojpgaaGreat
open Go.RowKit Go.Sort
attribute [local irreducible] IntKind.wrap
set_option maxRecDepth 100000 in
set_option maxHeartbeats 8000000 in
theorem De(om oN:Own)(x:DW)(hx:x.Ok)(i:Nat)(hi:i<x.Vs.length)(n:Nt)(hm:n.made.length≤1000)(aAo:∀a b,rA x.Ns a b<1000)(h':Hp)(nx:Nat)(hp:Hp)(nx1:Nat)(hnx:nx+4≤nx1)(hdm:aI hp nx1)(hle:h'.le hp)(hd:aI h' nx)
 (b0:hp nx=some (.arr (.agg 5) [.agg [.int .i64 x.P,wys om x.ws, .sl (.agg 4) (cO x.T) (x.T.map Ka), .sl .leaf (cO x.Vs) (x.Vs.map vwV), .sl (.agg 3) oN (x.Ns.map DN.v)]])) (b2:hp (nx+2)=some (.arr (.agg 5) [dw0])) (R:V→Hp→Nat→Prop)
 (aBV:(bP x.P x.T n.ds).2≠0→∀n2,R (.tup [x.v om oN, .int .i64 (bP x.P x.T n.ds).2]) h' n2)
 (aJu:(bP x.P x.T n.ds).2=0→∀id1 id2 n2,R (.tup [.agg [.int .i64 x.P,wys om x.ws, .sl (.agg 4) (cO (bP x.P x.T n.ds).1) ((bP x.P x.T n.ds).1.map Ka), .sl .leaf (.tok id1) ((kW x i n x.Vs.length).map vwV), .sl (.agg 3) (.tok id2) ((x.Ns++lE i n x.Vs.length).map DN.v)], .int .i64 0]) h' n2):
 lwp Tryz.prog (.seq (.seq (.ops L.aFl) (.block 2 (.loop L.aHX))) (.seq (.ops L.aFk) (.seq (.seq (.ops L.aFj) (.cond (.slot 85) (.seq (.ops L.aFi) .ret) .skip)) (.seq (.draw 9 L.aFh L.aDu) (.seq (.seq (.ops L.aFg) (.block 4 (.loop L.aDv))) (.seq (.ops L.aFd) .ret))))))
  (iB [.cell 8 (.agg 5), .slot 9] R) ⟨aB 144 0 [(1, .int .i64 i),(4, .ptr nx (.agg 5) 0 0),(8, .ptr (nx+2) (.agg 5) 0 0),(9, .int .i64 0),(10, .sl (.agg 4) .free (n.ds.map Ka))],hp,nx1⟩:=by
 simp only[aB,go_sem,reduceIte,jA,jB,jC,jD,reduceCtorEq,jE,jF];have aB0:V.fits (.agg 5) (.agg [.int .i64 x.P,wys om x.ws, .sl (.agg 4) (cO x.T) (x.T.map Ka), .sl .leaf (cO x.Vs) (x.Vs.map vwV), .sl (.agg 3) oN (x.Ns.map DN.v)])=true:=rfl;have hvl:(x.Vs.map vwV).length=x.Vs.length:=jK ..;have hdf:dw0.fits (.agg 5)=true:=rfl;have aVR:=hx.vl;have hnl:=hx.nl;have hdl:n.ds.length≤1001:=by simp[Nt.ds];omega
 refine au ?_
 refine aO (fun k:Nat=>aB 144 0 [(1, .int .i64 i),(4, .ptr nx (.agg 5) 0 0),(8, .ptr (nx+2) (.agg 5) 0 0),(9, .int .i64 0),(10, .sl (.agg 4) .free (n.ds.map Ka)),(12, .int .i64 k)])
  (fun k hp1 nx2=>k≤x.Vs.length∧nx1≤nx2∧hp1=hp) (fun k=>x.Vs.length-k) 0 ⟨Kk _,ZN,rfl⟩ (wkl trivial) ?_
 rintro k hp1 nx2 ⟨hk,aBs,rfl⟩;generalize hQ:bH _ _ _ _ _=Q0;simp only[aB,go_sem,reduceIte,jA,jB,jC,jD,reduceCtorEq,jE,jF];have n0:nx<nx2:=or;have n2:nx+2<nx2:=or;rcases Kj k x.Vs.length with hlt|hge;case inl=>
  have hc1:decide ((k:Int)<(x.Vs.length:Int))=true:=dct;have hw1:IntKind.i64.wrap ((k:Int)+1)=((k+1:Nat):Int):=wrp;have hcn:=aAo i k;have g1:decide ((rA x.Ns i k:Int)≥1000)=false:=dcf;have C1:∀h,aY Tryz.prog 31 [.agg [.int .i64 x.P,wys om x.ws, .sl (.agg 4) (cO x.T) (x.T.map Ka), .sl .leaf (cO x.Vs) (x.Vs.map vwV), .sl (.agg 3) oN (x.Ns.map DN.v)], .int .i64 i, .int .i64 k] h (.int .i64 (rA x.Ns i k)):=fun h=>uU om (cO x.T) (cO x.Vs) oN x or i k h;refine aue (e7 hc1 b0 n0 hvl hw1 aB0 g1) ?_;rw[←hQ];exact aD (k+1) or ⟨hlt,ZN,rfl⟩ (wkl trivial)
 have hc1:decide ((k:Int)<(x.Vs.length:Int))=false:=dcf;have C1:∀h,aY Tryz.prog 50 [.agg [.int .i64 x.P,wys om x.ws], .sl (.agg 4) (cO x.T) (x.T.map Ka), .sl (.agg 4) .free (n.ds.map Ka)] h (.tup [lst (.agg 4) ((bP x.P x.T n.ds).1.map Ka), .int .i64 (bP x.P x.T n.ds).2]):=fun h=>oA om (cO x.T) .free x.P x.ws x.T n.ds hx.tl or (lM ..) h;obtain⟨T',hT'⟩:∃T',T'=bP x.P x.T n.ds:=⟨_,rfl⟩;rw[←hT'] at C1 aBV aJu;rw[lM] at C1;refine aue (e4 hc1 b0 n0 hvl) ?_;rw[←hQ];clear hQ Q0;by_cases h0:T'.2=0;case neg=>
  have g3:(T'.2 != 0)=true:=bnt;refine aue (e6 b0 b2 n0 n2 aB0 (e2 g3 hdf)) ?_;exact rY (n:=nx+2) (x:=x.v om oN) rfl (by simp only[Kb,if_true];rfl) rfl h' (lef hd hle) (aBV h0 _)
 have g3:(T'.2 != 0)=false:=bnf;refine aue (e6 b0 b2 n0 n2 aB0 (e2 g3 hdf)) ?_;generalize hH:Kb _ _ _=B;have w0:B (nx2+8)=some (.arr (.agg 5) [.agg [.int .i64 x.P,wys om x.ws, .sl (.agg 4) (cO T'.1) (T'.1.map Ka), .sl .leaf .nil [], .sl (.agg 3) (.tok (nx2+6)) (x.Ns.map DN.v)]]):=by rw[←hH];simp only[Kb,if_true]
 have ht0:B (nx2+6)=some .tip:=by rw[←hH];simp only[Kb,Kc];rw[if_neg or,if_neg or,if_neg or];simp
 have aNt:Ke nx1 hp1 B:=fun y hy=>by rw[←hH];simp only[Kb,Kc];rw[if_neg or,if_neg or,if_neg or,if_neg or,if_neg or]
 have hdB:aI B (nx2+10):=by rw[←hH];exact dmo hdm
 clear hH;refine BJ om oN x hx i n hm nx hp1 nx1 hnx (.sl (.agg 4) (cO T'.1) (T'.1.map Ka)) rfl (nx2+8) (nx2+6) B (nx2+10) or or hdB aNt b0 w0 ht0 _ (fun hp2 nx3 sl ov id2 q1 q2 q3 q4 q5=>?_) _ (wkl trivial);refine cR ?_;refine fT ⟨_,hp2,nx3⟩ ⟨q5,Kd _,Kh _⟩ ?_;simp only[aB,go_sem,reduceIte,jA,jB,jC,jD,reduceCtorEq,jE,jF];obtain⟨id1,rfl⟩:∃id1,ov= .tok id1:=by
  rcases q4 with⟨he,_⟩|⟨_,id,_,e,_⟩
  ·have:=congrArg Ks he;simp only[kW,jK,List.length_mapIdx,List.length_take,jM] at this;omega
  exact⟨id,e⟩
 have c2:hp2 (nx+2)=some (.arr (.agg 5) [dw0]):=(q1 _ or).trans b2;have m2:nx+2<nx3:=q2 _ _ c2;have m3:nx2+8<nx3:=q2 _ _ q3;have aV5:V.fits (.agg 5) (.agg [.int .i64 x.P,wys om x.ws, .sl (.agg 4) (cO T'.1) (T'.1.map Ka), .sl .leaf (.tok id1) ((kW x i n x.Vs.length).map vwV), .sl (.agg 3) (.tok id2) ((x.Ns++lE i n x.Vs.length).map DN.v)])=true:=rfl;refine aue (e6 q3 c2 m2 m3 hdf aV5) ?_;have aGT:h'.le hp2:=fun z b hz=>by
  have:=hd z b hz;rw[q1 z or];exact hle z b hz
 exact rY (n:=nx+2) (x:= .agg [.int .i64 x.P,wys om x.ws, .sl (.agg 4) (cO T'.1) (T'.1.map Ka), .sl .leaf (.tok id1) ((kW x i n x.Vs.length).map vwV), .sl (.agg 3) (.tok id2) ((x.Ns++lE i n x.Vs.length).map DN.v)]) rfl (by simp only[Kb,if_true]) rfl h' (lef hd aGT) (aJu h0 _ _ _)
noncomputable def qF(x:DW)(i:Int)(n:Nt):Int:=if¬(0≤i∧i<x.Vs.length) then 1 else if xV x.T n.aAS<1 then 13 else if n.made.any (fun u=> !rmk x.P x.ws n.aAS u)=true then 2 else (bP x.P x.T n.ds).2
noncomputable def cn(x:DW)(i:Int)(n:Nt):DW:=if qF x i n=0 then ⟨x.P,x.ws,(bP x.P x.T n.ds).1,kW x i.toNat n x.Vs.length,x.Ns++lE i n x.Vs.length⟩ else x
set_option maxRecDepth 100000 in
set_option maxHeartbeats 8000000 in
theorem Df(om oN ok:Own)(hom:om= .nil∨om= .free)(hoN:oN= .nil∨oN= .free)(x:DW)(hx:x.Ok)(i:Int)(n:Nt)(hm:n.made.length≤1000)(aAo:∀a b,rA x.Ns a b<1000)(hv0:x.Vs≠ [])(h:Hp):
 aY Tryz.prog 30 [x.v om oN, .int .i64 i,n.aAS.v, .sl (.agg 3) ok (n.made.map Sp.v)] h (.tup [(cn x i n).v om (if qF x i n=0 then .free else oN), .int .i64 (qF x i n)]):=by
 have hmn:∀n,om≠ .tok n:=fun n e=>by rcases hom with h|h<;>(rw[h] at e;cases e)
 refine kQ (fun L=>?_) fun h' nx hh=>aF L.aYx fun hd=>?_
 ·have hnn:∀k,(if qF x i n=0 then Own.free else oN)≠ .tok k:=fun n e=>by
   split at e
   ·cases e
   rcases hoN with h|h<;>(rw[h] at e;cases e)
  have:=DW.names om _ hmn hnn (cn x i n) L;simp[V.names,bU,this]
 simp only[jL,jM,jA,jB,jN,jO,jP,jQ,V.undef];have hd:aI h' nx:=hd;have hwf:V.fits (.agg 5) (x.v om oN)=true:=rfl;have hlo:(x.v om oN).loose=x.v om oN:=by
  unfold DW.v DW.vo cO;rcases hom with rfl|rfl<;>rcases hoN with rfl|rfl<;>((repeat' split)<;>rfl)
 have hxv:x.v om oN= .agg [.int .i64 x.P,wys om x.ws, .sl (.agg 4) (cO x.T) (x.T.map Ka), .sl .leaf (cO x.Vs) (x.Vs.map vwV), .sl (.agg 3) oN (x.Ns.map DN.v)]:=rfl;have hvl:(x.Vs.map vwV).length=x.Vs.length:=jK ..;have htv:n.aAS.v= .agg [.int .i64 n.aAS.p, .int .i64 n.aAS.t.e, .int .i64 n.aAS.t.r]:=rfl;have htf:=Sp.aAC n.aAS;have bad:∀{e:Int} {hp:Hp} {sl:List V} {n2:Nat},qF x i n=e→e≠0→h'.le hp→hp (nx+2)=some (.arr (.agg 5) [x.v om oN])→sl.getD 8 V.undef= .ptr (nx+2) (.agg 5) 0 0→sl.getD 9 V.undef= .int .i64 e→iB [pX.cell 8 (.agg 5),pX.slot 9] (fun v' h'' _=>v'.aBK= .tup [(cn x i n).v om (if qF x i n=0 then .free else oN), .int .i64 (qF x i n)]∧h'.le h'') .ret ⟨sl,hp,n2⟩:=fun e1 e0 hle e2 e3 e4=>
  rY (n:=nx+2) (x:=x.v om oN) e3 e2 hwf h' hle ⟨by unfold cn;rw[e1,e4,if_neg e0,if_neg e0];show V.tup [(x.v om oN).loose,_]=_;rw[hlo];rfl,Kd _⟩
 have aB0:V.fits (.agg 5) (.agg [.int .i64 x.P,wys om x.ws, .sl (.agg 4) (cO x.T) (x.T.map Ka), .sl .leaf (cO x.Vs) (x.Vs.map vwV), .sl (.agg 3) oN (x.Ns.map DN.v)])=true:=rfl;rw[htv] at htf⊢;rw[hxv];by_cases hi:0≤i∧i<x.Vs.length;case neg=>
  have hw:qF x i n=1:=by unfold qF;rw[if_pos hi]
  by_cases h1:i<0
  ·have g1:decide (i<0)=true:=dct;refine aue (e4 aB0 htf g1 hvl) ?_;exact bad hw ZM (leo hd) (by simp only[go_sem,reduceIte,jA,jB,jC,jD,reduceCtorEq,jE,jF];rfl) rfl rfl
  have g1:decide (i<0)=false:=dcf;have g2:decide (i≥(x.Vs.length:Int))=true:=dct;refine aue (e5 aB0 htf g1 g2 hvl) ?_;exact bad hw ZM (leo hd) (by simp only[go_sem,reduceIte,jA,jB,jC,jD,reduceCtorEq,jE,jF];rfl) rfl rfl
 have g1:decide (i<0)=false:=dcf;have g2:decide (i≥(x.Vs.length:Int))=false:=dcf;have C1:∀h,aY Tryz.prog 59 [.sl (.agg 4) (cO x.T) (x.T.map Ka), .agg [.int .i64 n.aAS.p, .int .i64 n.aAS.t.e, .int .i64 n.aAS.t.r]] h (.int .i64 (xV x.T n.aAS)):=fun h=>nh (cO x.T) x.T n.aAS (by have:=hx.tl;omega) h;by_cases hg:xV x.T n.aAS<1
 ·have g3:decide (xV x.T n.aAS<1)=true:=decide_eq_true hg;refine aue (e6 aB0 htf g1 g2 hvl g3) ?_;exact bad (e:=13) (by unfold qF;rw[if_neg (fun h=>h hi),if_pos hg]) ZM (leo hd) (by simp only[go_sem,reduceIte,jA,jB,jC,jD,reduceCtorEq,jE,jF];rfl) rfl rfl
 have g3:decide (xV x.T n.aAS<1)=false:=decide_eq_false hg;refine aue (e6 aB0 htf g1 g2 hvl g3) ?_;clear C1;generalize hH:Kb _ _ _=A;have a0:A nx=some (.arr (.agg 5) [.agg [.int .i64 x.P,wys om x.ws, .sl (.agg 4) (cO x.T) (x.T.map Ka), .sl .leaf (cO x.Vs) (x.Vs.map vwV), .sl (.agg 3) oN (x.Ns.map DN.v)]]):=by rw[←hH];simp only[go_sem,reduceIte,jA,jB,jC,jD,reduceCtorEq,jE,jF]
 have a1:A (nx+1)=some (.arr (.agg 3) [.agg [.int .i64 n.aAS.p, .int .i64 n.aAS.t.e, .int .i64 n.aAS.t.r]]):=by rw[←hH];simp only[go_sem,reduceIte,jA,jB,jC,jD,reduceCtorEq,jE,jF]
 have a2:A (nx+2)=some (.arr (.agg 5) [dw0]):=by rw[←hH];simp only[go_sem,reduceIte,jA,jB,jC,jD,reduceCtorEq,jE,jF];rfl
 have a3:A (nx+3)=some .tip:=by rw[←hH];simp only[Kb];simp
 have hle:h'.le A:=by rw[←hH];exact leo hd
 have hdA:∀m,nx+4≤m→aI A m:=fun m hm=>by rw[←hH];exact dmo hd
 clear hH;obtain⟨dk,hdk⟩:∃dk:Nat→List Cg,∀k,dk k=⟨n.aAS,-1⟩::(n.made.take k).map fun s=>(⟨s,1⟩:Cg):=⟨_,fun _=>rfl⟩;have hdl:∀k,(dk k).length≤1001:=fun k=>by rw[hdk];simp;omega
 refine aO (fun q:Nat×Own=>aB 144 0 [(1, .int .i64 i),(3, .sl (.agg 3) ok (n.made.map Sp.v)),(4, .ptr nx (.agg 5) 0 0),(6, .ptr (nx+1) (.agg 3) 0 0),(8, .ptr (nx+2) (.agg 5) 0 0),(9, .int .i64 0),(10,cgs q.2 (dk q.1)),(11, .int .i64 q.1)])
  (fun q hp nx1=>q.1≤n.made.length∧nx+4≤nx1∧aI hp nx1∧Ke (nx+3) A hp∧Acc hp (nx+3) q.2 ((dk q.1).map Ka)∧(n.made.take q.1).any (fun u=> !rmk x.P x.ws n.aAS u)=false)
  (fun q=>n.made.length-q.1) (0, .tok (nx+3)) ⟨Kk _,ZN,hdA _ ZN,Hp.same.aBG, .inr ⟨by rw[hdk];simp,nx+3,Kh _,rfl,a3⟩,Zm⟩ (by simp only[WkL,aB,jH,jI,jJ,cgs,hdk,List.take_zero,Kp,Ko,Ka,go_sem,reduceIte,jA,jB,jC,jD,reduceCtorEq,jE,jF]) ?_
 clear a3;rintro⟨k,oo⟩ hp nx1 ⟨hk,hnx,hdm,hsm,aAU,hno⟩;generalize hQ:bH _ _ _ _ _=Q0;dsimp only at hk aAU hno;simp only[aB,cgs,go_sem,reduceIte,jA,jB,jC,jD,reduceCtorEq,jE,jF];have b0:=(hsm _ or).trans a0;have b1:=(hsm _ or).trans a1;have b2:=(hsm _ or).trans a2;have n0:nx<nx1:=or;have n1:nx+1<nx1:=or;have n2:nx+2<nx1:=or;have hdf:dw0.fits (.agg 5)=true:=rfl;have aN1:h'.le hp:=fun z b hz=>by have:=hd z b hz;rw[hsm z or];exact hle z b hz
 rcases Kj k n.made.length with hlt|hge;case inl=>
  have hc1:decide ((k:Int)<(n.made.length:Int))=true:=dct;have hw1:IntKind.i64.wrap ((k:Int)+1)=((k+1:Nat):Int):=wrp;obtain⟨u,hu⟩:∃u,u=n.made[k]:=⟨_,rfl⟩;have hgu:(n.made.map Sp.v).getD k (.tup [])= .agg [.int .i64 u.p, .int .i64 u.t.e, .int .i64 u.t.r]:=by rw[hu];exact bY Sp.v _ n.made k hlt
  have huf:V.fits (.agg 3) (.agg [.int .i64 u.p, .int .i64 u.t.e, .int .i64 u.t.r])=true:=Sp.aAC u;have D1:∀h,aY Tryz.prog 23 [.agg [.int .i64 x.P,wys om x.ws], .agg [.int .i64 n.aAS.p, .int .i64 n.aAS.t.e, .int .i64 n.aAS.t.r], .agg [.int .i64 u.p, .int .i64 u.t.e, .int .i64 u.t.r]] h (.bool (rmk x.P x.ws n.aAS u)):=fun h=>un om x.P x.ws hx.ws n.aAS u h;have htk:n.made.take (k+1)=n.made.take k++[u]:=by rw[hu];exact Kf hlt
  cases hmk:rmk x.P x.ws n.aAS u with
  |false=>
   rw[hmk] at D1;have aBW:n.made.any (fun u=> !rmk x.P x.ws n.aAS u)=true:=List.any_eq_true.2 ⟨u,by rw[hu];exact Km hlt,by rw[hmk];rfl⟩;refine aue (e14 hc1 b0 b1 b2 n0 n1 n2 hgu hlt huf htf aB0 hdf (e2 (@jK Sp V) jG)) ?_;rw[←hQ];refine au ?_;exact bad (e:=2) (by unfold qF;rw[if_neg (fun h=>h hi),if_neg hg,if_pos aBW]) ZM (lef hd aN1) (by simp only[Kb,if_true];rfl) rfl rfl
  |true=>
   rw[hmk] at D1;have hdn:(dk (k+1)).map Ka=(dk k).map Ka++[.agg [.int .i64 u.p, .int .i64 u.t.e, .int .i64 u.t.r, .int .i64 1]]:=by
    rw[hdk,hdk,htk];simp[Ka]
   have aZM:((dk k).map Ka).length≤1001:=by rw[jK];exact hdl k
   have h32:((dk k).length+1)*32≤140737488355328:=by have:=hdl k;omega
   refine aue (e14 hc1 b0 b1 b2 n0 n1 n2 hgu hlt huf htf aB0 hw1 (e5 (@jK Sp V) jG (@jK Cg V) h32 hdn)) ?_;rw[←hQ];refine aD (k+1, .tok (nx1+10)) Zw ⟨hlt,ZN,dmo hdm,kv hsm aAU,?_,by rw[htk,List.any_append,hno];simp[hmk]⟩ (by simp only[WkL,aB,jH,jI,jJ,cgs,hdn,go_sem,reduceIte,jA,jB,jC,jD,reduceCtorEq,jE,jF]);dsimp only;rw[hdn];exact Acc.new _ Zm or
 have hc1:decide ((k:Int)<(n.made.length:Int))=false:=dcf;have htl:n.made.take k=n.made:=List.take_of_length_le or;have hds:dk k=n.ds:=by rw[hdk,htl];rfl
 rw[htl] at hno;rw[hds] at aAU⊢;refine aue (e2 hc1 (@jK Sp V)) ?_;rw[←hQ];clear hQ Q0;obtain⟨oid,rfl⟩:∃oid,oo= .tok oid:=by
  rcases aAU with⟨he,_⟩|⟨_,id,_,e,_⟩
  ·simp[Nt.ds] at he
  exact⟨id,e⟩
 refine dC ?_;refine cR ?_;refine m9 (ze 10 (v:= .sl (.agg 4) (.tok oid) (n.ds.map Ka)) rfl) ?_;rw[show(V.sl (.agg 4) (.tok oid) (n.ds.map Ka)).loose= .sl (.agg 4) .free (n.ds.map Ka) from rfl];refine fT ⟨aB 144 0 [(1, .int .i64 i),(4, .ptr nx (.agg 5) 0 0),(8, .ptr (nx+2) (.agg 5) 0 0),(9, .int .i64 0),(10, .sl (.agg 4) .free (n.ds.map Ka))],hp,nx1⟩ ⟨by simp only[WkL,aB,jH,jI,jJ,List.set_cons_succ,List.set_cons_zero,go_sem,reduceIte,jA,jB,jC,jD,reduceCtorEq,jE,jF],Kd _,Kh _⟩ ?_;have hE:qF x i n=(bP x.P x.T n.ds).2:=by unfold qF;rw[if_neg (fun h=>h hi),if_neg hg,if_neg (by rw[hno];simp)]
 obtain⟨m,rfl⟩:∃m:Nat,i=m:=⟨i.toNat,or⟩;refine De om oN x hx m or n hm aAo h' nx hp nx1 or hdm aN1 hd b0 b2 _ (fun e0 n2=>⟨?_,Kd _⟩) (fun e0 id1 id2 n2=>⟨?_,Kd _⟩)
 ·unfold cn;rw[hE,if_neg e0,if_neg e0];show V.tup [(x.v om oN).loose,_]=_;rw[hlo];rfl
 unfold cn;rw[hE,e0,if_pos rfl,if_pos rfl,jG];unfold DW.v DW.vo;dsimp only;have e2:cO (kW x m n x.Vs.length)= .free:=by
  unfold cO;rw[if_neg];rw[List.isEmpty_iff];intro e;have:=congrArg Ks e;simp[kW] at this;exact hv0 this
 rw[e2];unfold cO;rcases hom with rfl|rfl<;>(split<;>rfl)
end Go.Proofs.YtecepaehmojpgaaGreat
