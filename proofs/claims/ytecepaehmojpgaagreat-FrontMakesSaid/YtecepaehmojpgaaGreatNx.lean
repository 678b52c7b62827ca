/-
Texts of this proof,one behind the other. No conditions.
-/
import Derived.Test.YtecepaehmojpgaaGreatNd
import Derived.Test.YtecepaehmojpgaaGreatNw
import Derived.Test.YtecepaehmojpgaaGreatNt
import Derived.Test.YtecepaehmojpgaaGreatNTe
open Nat renaming zero_mul→Ka,one_mul→Kb
open List renaming any_eq_true→Kc
open Bool renaming and_eq_true→Kd
open Nat renaming reduceAdd→jA,reduceSub→jB,reduceLT→jC,reduceLeDiff→jD,reduceEqDiff→jE
open Int renaming reduceToNat→jF,natCast_add→jH,natCast_one→jI,natCast_zero→jJ
open List renaming length_map→jK,length_cons→jL,length_nil→jM,replicate_succ→jN,replicate_zero→jO,cons_append→jP,nil_append→jQ
set_option linter.unusedSimpArgs false
set_option linter.unusedVariables false
set_option linter.unusedSectionVars false
set_option maxHeartbeats 8000000
namespace Go.Proofs.YtecepaehmojpgaaGreat
open Go.RowKit Go.Sort
attribute [local irreducible] IntKind.wrap
theorem zy(P:Int)(ws:List Wy)(s u:Sp):rmk P ws s u=pW (dL P ws s.p u.p) s u:=by
 unfold rmk pW;rw[xq];congr 1;rw[Bool.eq_iff_iff,Kc,Kc];constructor
 ·rintro⟨x,h1,h2⟩;obtain⟨p,hp,h3,h4⟩:=(cd _ _ _).1 (Dp h1).2;refine⟨p,hp,?_⟩;unfold byB;rw[decide_eq_true h3,h4,h2];rfl
 rintro⟨p,hp,h2⟩;unfold byB at h2;rw[Kd,decide_eq_true_eq] at h2;obtain⟨z,hz,hle⟩:=Ab ((cd _ _ _).2 ⟨p,hp,h2.1,rfl⟩) (DT h2.1);exact⟨z,hz,Tm.le_trans hle h2.2⟩
theorem su(o:Own)(P:Int)(ws:List Wy)(hl:ws.length≤1000)(s u:Sp)(h:Hp):aX Tryz.prog 22 [mps o P ws,s.v,u.v] h (.bool (pW (dL P ws s.p u.p) s u)):=by
 have hmf:(mps o P ws).fits (.agg 2)=true:=by simp[mps,V.fits,V.aAD,wys]
 refine aP (fun L=>trivial) fun h' nx hh=>aD L.aWI fun hd=>?_;simp only[jL,jM,jA,jB,jN,jO,jP,jQ,V.undef];have hsv:s.v= .agg [.int .i64 s.p, .int .i64 s.t.e, .int .i64 s.t.r]:=rfl;have huv:u.v= .agg [.int .i64 u.p, .int .i64 u.t.e, .int .i64 u.t.r]:=rfl;have hsf:=Sp.aAC s;have huf:=Sp.aAC u;obtain⟨oc,hoc⟩:=mQ (.agg 2) ((dL P ws s.p u.p).map Pa.v);have hll:=tY P ws s.p u.p;have C1:=fun h=>yW o P ws hl s.p u.p h;have C2:=fun h=>uX oc (dL P ws s.p u.p) or s u h;have D1:=fun h=>yW o P ws hl s.p u.p h;have D2:=fun h=>uX oc (dL P ws s.p u.p) or s u h;rw[hoc] at C1 D1;rw[hsv,huv] at C2 D2;rw[hsv] at hsf;rw[huv] at huf;rw[hsv,huv];refine aue (e3 hmf hsf huf) ?_;exact aG h' (leo hd) ⟨rfl,rfl⟩
theorem qy(h:Hp):aX Tryz.prog 17 [.aAI] h (.bool true):=by
 refine aP (fun L=>trivial) fun h' nx hh=>aD L.g9z fun hd=>?_;simp only[jL,jM,jA,jB,jN,jO,jP,jQ,V.undef];refine au ?_;exact aG h' (leo hd) ⟨rfl,rfl⟩
theorem nI(h:Hp):aX Tryz.prog 18 [.aAI] h (.int .i64 0):=by
 refine aP (fun L=>trivial) fun h' nx hh=>aD L.aTY fun hd=>?_;simp only[jL,jM,jA,jB,jN,jO,jP,jQ,V.undef];refine au ?_;exact aG h' (leo hd) ⟨rfl,rfl⟩
theorem Ad(h:Hp):aX Tryz.prog 19 [.aAI] h .aAI:=by
 refine aP (fun L=>trivial) fun h' nx hh=>aD L.aWK fun hd=>?_;simp only[jL,jM,jA,jB,jN,jO,jP,jQ,V.undef];refine au ?_;exact aG h' (leo hd) ⟨rfl,rfl⟩
theorem v7(i:Int)(h:Hp):aX Tryz.prog 40 [.aAI, .int .i64 i] h (.bool false):=by
 refine aP (fun L=>trivial) fun h' nx hh=>aD L.aTU fun hd=>?_;simp only[jL,jM,jA,jB,jN,jO,jP,jQ,V.undef];refine au ?_;exact aG h' (leo hd) ⟨rfl,rfl⟩
theorem v8(i:Int)(h:Hp):aX Tryz.prog 20 [.aAI, .int .i64 i] h (.sl .leaf .nil []):=by
 refine aP (fun L=>by simp[V.names,bP]) fun h' nx hh=>aD L.aTX fun hd=>?_;simp only[jL,jM,jA,jB,jN,jO,jP,jQ,V.undef];have C1:=fun h=>v7 i h;refine au ?_;exact aG h' (leo hd) ⟨rfl,rfl⟩
theorem qz(i j:Int)(h:Hp):aX Tryz.prog 10 [.aAI, .int .i64 i, .int .i64 j] h (eF 13):=by
 refine aP (fun L=>trivial) fun h' nx hh=>aD L.g3z fun hd=>?_;simp only[jL,jM,jA,jB,jN,jO,jP,jQ,V.undef];refine au ?_;exact aG h' (leo hd) ⟨rfl,rfl⟩
theorem Dq(i:Int)(s:Sp)(h:Hp):aX Tryz.prog 11 [.aAI, .int .i64 i,s.v, .sl (.agg 3) .nil []] h (eF 13):=by
 have hsf:=Sp.aAC s;refine aP (fun L=>trivial) fun h' nx hh=>aD L.g4z fun hd=>?_;simp only[jL,jM,jA,jB,jN,jO,jP,jQ,V.undef];refine aue hsf ?_;exact aG h' (leo hd) ⟨rfl,rfl⟩
set_option maxHeartbeats 4000000 in
theorem xe(o:Own){P:Int}{ws:List Wy}{n:Nat}{l:List We}(R:nB P ws n l)(hl:ws.length≤1000)(hn:o= .nil→ws=[])(N:Int)(hN:¬(1≤N∧N≤17))(x:V)(h':Hp)(nx:Nat):
 bD Tryz.prog 9 [mps o P ws, .int .i64 N,x] h' nx fun v h'' nx2=>nx≤nx2∧aK h'' nx2∧(∀x,x<nx→h'' x=h' x)∧v= .tup [.aAI,eF 1]:=by
 have hmf:(mps o P ws).fits (.agg 2)=true:=by simp[mps,V.fits,V.aAD,wys]
 refine aD L.g2z fun hd=>?_;simp only[jL,jM,jA,jB,jN,jO,jP,jQ,V.undef];refine aue hmf ?_;refine bX ((Bx o R or hn _ _).mono ?_);rintro v1 M1 nx1 aIu ⟨tb,m,o2,oc,rfl,htb,hm,aFq,hk1,hd1,_⟩;dsimp only at htb hm aIu hk1;unfold eI;refine Zn ?_;by_cases hlt:N<1
 ·have g1:decide (N<1)=true:=decide_eq_true hlt;refine aue g1 ?_;exact fS M1 (leo hd1) ⟨ZN,hd1.up ZN,fun x hx=>(hk1 x or).trans (by simp only[Hp.set];rw[if_neg or]),rfl⟩
 have g1:decide (N<1)=false:=decide_eq_false hlt;have g2:decide (N>17)=true:=decide_eq_true or;refine aue (e2 g1 g2) ?_;exact fS M1 (leo hd1) ⟨ZN,hd1.up ZN,fun x hx=>(hk1 x or).trans (by simp only[Hp.set];rw[if_neg or]),rfl⟩
set_option maxHeartbeats 4000000 in
theorem qc(om:Own)(P:Int)(ws:List Wy)(hl:ws.length≤1000)(N:Int)(hb:eK P ws=false∨¬(1≤N∧N≤17))(x:V)(h:Hp):
 aX Tryz.prog 15 [mps om P ws, .int .i64 N,x] h (.tup [dw0, .int .i64 (if eK P ws=true then 1 else 2)]):=by
 have hmf:(mps om P ws).fits (.agg 2)=true:=by simp[mps,V.fits,V.aAD,wys]
 refine mK (fun L=>by simp only[V.names,bP,and_true];exact j4 L) fun h' nx hh=>aD L.g7z fun hd=>?_;simp only[jL,jM,jA,jB,jN,jO,jP,jQ,V.undef];have hd:aK h' nx:=hd;have C1:=fun h=>eL om P ws hl h;cases hR:eK P ws with
 |false=>
  rw[hR] at C1;refine aue hmf ?_;exact xS (n:=nx+1) (x:=dw0) rfl (by simp only[go_sem,reduceIte,jA,jB,jC,jD,reduceCtorEq,jE,jF];rfl) rfl h' (leo hd) ⟨rfl,Hp.le_refl _⟩
 |true=>
  rw[hR] at C1;have hN:¬(1≤N∧N≤17):=hb.resolve_left (by rw[hR];decide);by_cases hlt:N<1
  ·have g1:decide (N<1)=true:=decide_eq_true hlt;refine aue (e2 hmf g1) ?_;exact xS (n:=nx+1) (x:=dw0) rfl (by simp only[go_sem,reduceIte,jA,jB,jC,jD,reduceCtorEq,jE,jF];rfl) rfl h' (leo hd) ⟨rfl,Hp.le_refl _⟩
  have g1:decide (N<1)=false:=decide_eq_false hlt;have g2:decide (N>17)=true:=decide_eq_true or;refine aue (e3 hmf g1 g2) ?_;exact xS (n:=nx+1) (x:=dw0) rfl (by simp only[go_sem,reduceIte,jA,jB,jC,jD,reduceCtorEq,jE,jF];rfl) rfl h' (leo hd) ⟨rfl,Hp.le_refl _⟩
end Go.Proofs.YtecepaehmojpgaaGreat
namespace Go.Proofs.YtecepaehmojpgaaGreat
open Go.ChangeShapes Go.WideShapes Go.ChangeAt Go.RowKit Go.Sort
attribute [local irreducible] IntKind.wrap
def zT(a b:Sp):V:= .agg [.int .i64 a.p, .int .i64 a.t.e, .int .i64 a.t.r, .int .i64 b.p, .int .i64 b.t.e, .int .i64 b.t.r]
set_option maxRecDepth 100000 in
set_option maxHeartbeats 8000000 in
theorem wc{h' D:Hp}{nxD b3 b7 b10:Nat}{o oc ov:Own}{P:Int}{ws:List Wy}{a b:Sp}{w y1 y2 y3 y5:V}{e:Int}{vl:List V}(hd:aK D nxD)(h3:D b3=some (.arr (.agg 2) [mps o P ws]))(h7:D b7=some (.arr (.agg 2) [mps oc P ws]))(h10:D b10=some (.arr (.agg 5) [.agg [y1,y2,y3, .sl .leaf ov vl,y5]]))
 (hm:aX Tryz.prog 18 [w] D (.int .i64 vl.length)) (hl:ws.length≤1000) (hle:h'.le D):
 lwp Tryz.prog (.seq (.ops L.aIg) (.seq (.seq (.ops L.aIf) (.cond (.slot 68) (.seq (.ops L.aFQ) .ret) .skip)) (.seq (.draw 30 L.aFP L.aDH) .ret))) (iU [.slot 6] fun v h'' _=>v= .bool true∧h''=h')
  ⟨aB 98 0 [(3, .ptr b3 (.agg 2) 0 0),(4, .ept (.agg 6) [zT a b] 0 0),(7, .ptr b7 (.agg 2) 0 0),(8,w),(9,eF e),(10, .ptr b10 (.agg 5) 0 0),(11, .int .i64 e)],D,nxD⟩:=by
 simp only[aB,go_sem,reduceIte,jA,jB,jC,jD,reduceCtorEq,jE,jF];have n3:b3<nxD:=hd _ _ h3;have n7:b7<nxD:=hd _ _ h7;have n10:b10<nxD:=hd _ _ h10;have hav:a.v= .agg [.int .i64 a.p, .int .i64 a.t.e, .int .i64 a.t.r]:=rfl;have hbv:b.v= .agg [.int .i64 b.p, .int .i64 b.t.e, .int .i64 b.t.r]:=rfl;have l0:bV (.agg 3) 0 (zT a b)= .agg [.int .i64 a.p, .int .i64 a.t.e, .int .i64 a.t.r]:=rfl;have l3:bV (.agg 3) 3 (zT a b)= .agg [.int .i64 b.p, .int .i64 b.t.e, .int .i64 b.t.r]:=rfl;have C1:=fun h=>qy h;have C2:=fun h=>nI h;have C3:=fun h=>Ad h;have C4:=fun h=>v8 0 h;have C5:=Dq 0 a D;have C6:=qz 0 1 D;rw[hav] at C5;have q1:(13==(13:Int))=true:=rfl;have q0:((0:Int) != 0)=false:=rfl;have q4:decide ((0:Int)<((0:Nat):Int))=false:=rfl;refine aue (e8 h3 n3 l0 Ka Kb q1 q0 q4) ?_;refine aQ (b5 13 13 D) rfl (aU _) ?_;refine Zn ?_;refine aue (e8 h3 n3 l0 Ka Kb q1 q0 q4) ?_;refine aQ (b5 13 13 D) rfl (aU _) ?_;refine Zn ?_;clear C1 C2 C3 C4 C5 C6;have D1:=fun h=>su o P ws hl a b h;have D2:=fun h=>rA a h;have D3:=fun h=>rA b h;have D4:=fun h=>qe oc P ws hl a b h;have D5:=fun h=>qx e h;rw[zy] at D4;rw[hav,hbv] at D1 D4;rw[hav] at D2;rw[hbv] at D3;generalize pW (dL P ws a.p b.p) a b=c at D1 D4;have hvb:veq (.plain .leaf [.bool]) (.bool c) (.bool c)=some true:=by cases c<;>rfl
 have q2:(e==e)=true:=beq_self_eq_true _;have q3:(((vl.length:Nat):Int)==((vl.length:Nat):Int))=true:=beq_self_eq_true _;have hmf:(mps o P ws).fits (.agg 2)=true:=by simp[mps,V.fits,V.aAD,wys]
 have aGn:(mps oc P ws).fits (.agg 2)=true:=by simp[mps,V.fits,V.aAD,wys]
 refine aue (xg q1 h3 n3 h7 n7 h10 n10 l0 l3 Ka Kb hvb q2 q3 hmf aGn) ?_;refine bJ hm rfl (aU _) ?_;refine Zn ?_;refine aue (xg q1 h3 n3 h7 n7 h10 n10 l0 l3 Ka Kb hvb q2 q3 hmf aGn) ?_;exact aG h' hle ⟨rfl,rfl⟩
set_option maxRecDepth 100000 in
set_option maxHeartbeats 8000000 in
theorem Ai{h' M:Hp}{nxM b3 b7:Nat}{o ov:Own}{P N:Int}{ws:List Wy}{a b:Sp}{w y1 y2 y3 y5:V}{e:Int}{vl:List V}(hd:aK M nxM)(h3:M b3=some (.arr (.agg 2) [mps o P ws]))(h7:M b7=some (.arr (.agg 2) [mps (cO ws) P ws]))
 (K:∀h,aX Tryz.prog 15 [mps (cO ws) P ws, .int .i64 N, .sl (.agg 3) .free [.agg [.int .i64 a.p, .int .i64 a.t.e, .int .i64 a.t.r]]] h (.tup [.agg [y1,y2,y3, .sl .leaf ov vl,y5], .int .i64 e])) (hyf:(V.agg [y1,y2,y3, .sl .leaf ov vl,y5]).fits (.agg 5)=true)
 (hm:∀E:Hp,(∀x,x<nxM→E x=M x)→∀n,aK E n→aX Tryz.prog 18 [w] E (.int .i64 vl.length)) (hl:ws.length≤1000) (hle:∀E:Hp,(∀x,x<nxM→E x=M x)→h'.le E):
 lwp Tryz.prog (.seq (.draw 11 L.aMl L.aHD) (.seq (.ops L.aIg) (.seq (.seq (.ops L.aIf) (.cond (.slot 68) (.seq (.ops L.aFQ) .ret) .skip)) (.seq (.draw 30 L.aFP L.aDH) .ret)))) (iU [.slot 6] fun v h'' _=>v= .bool true∧h''=h')
  ⟨aB 98 0 [(2, .int .i64 N),(3, .ptr b3 (.agg 2) 0 0),(4, .ept (.agg 6) [zT a b] 0 0),(7, .ptr b7 (.agg 2) 0 0),(8,w),(9,eF e)],M,nxM⟩:=by
 refine stp ?_;generalize hQ:pB (lwp Tryz.prog _) (iU _ _)=QZ;simp only[aB,go_sem,reduceIte,jA,jB,jC,jD,reduceCtorEq,jE,jF];have n3:b3<nxM:=hd _ _ h3;have n7:b7<nxM:=hd _ _ h7;have hck:(pY (.agg 3) 2 (zT a b)).take 1=[.agg [.int .i64 a.p, .int .i64 a.t.e, .int .i64 a.t.r]]:=rfl;have p1:aX Tryz.prog 16 [.sl (.agg 3) .free [.agg [.int .i64 a.p, .int .i64 a.t.e, .int .i64 a.t.r]]] Hp.none (.sl (.agg 3) .free [.agg [.int .i64 a.p, .int .i64 a.t.e, .int .i64 a.t.r]]):=po .free [a] Zm Hp.none;refine aue (ee5 h3 n3 h7 n7 hck) ?_;refine kC p1 rfl (bK _) ?_;refine Zn ?_;refine aue (ee5 h3 n3 h7 n7 hyf) ?_;refine kC (K Hp.none) rfl (bK _) ?_;refine Zn ?_;refine aue (ee5 h3 n3 h7 n7 hyf) ?_;rw[←hQ];generalize hH:Hp.set _ _ _=B;have hkB:∀x,x<nxM→B x=M x:=by rw[←hH];exact kep Hp.same.aBI
 have hB:B (nxM+8)=some (.arr (.agg 5) [.agg [y1,y2,y3, .sl .leaf ov vl,y5]]):=by rw[←hH];simp only[Hp.set,if_true]
 have hdB:aK B (nxM+11):=by rw[←hH];exact dmo hd
 clear hH;refine kK ⟨aB 98 0 [(3, .ptr b3 (.agg 2) 0 0),(4, .ept (.agg 6) [zT a b] 0 0),(7, .ptr b7 (.agg 2) 0 0),(8,w),(9,eF e),(10, .ptr (nxM+8) (.agg 5) 0 0),(11, .int .i64 e)],B,nxM+11⟩ (kI (by simp only[WkL,aB,jH,jI,jJ,go_sem,reduceIte,jA,jB,jC,jD,reduceCtorEq,jE,jF]) (Hp.le_refl _) ZN) ?_;exact wc hdB (by rw[hkB _ n3];exact h3) (by rw[hkB _ n7];exact h7) hB (hm B hkB _ hdB) hl (hle B hkB)
set_option maxRecDepth 100000 in
set_option maxHeartbeats 8000000 in
theorem dv(o:Own)(P:Int)(ws:List Wy)(hn:o= .nil→ws=[])(a b:Sp)(N:Int):aX Tryz.prog 4 [mps o P ws,zT a b, .int .i64 N] Hp.none (.bool true):=by
 have hmf:(mps o P ws).fits (.agg 2)=true:=by simp[mps,V.fits,V.aAD,wys]
 have htf:(zT a b).fits (.agg 6)=true:=rfl;refine aP (fun L=>trivial) fun h' nx hh=>aD L.g0z fun hd=>?_;simp only[jL,jM,jA,jB,jN,jO,jP,jQ,V.undef];have hd:aK h' nx:=hd;refine stp ?_;generalize hQ:pB (lwp Tryz.prog _) (iU _ _)=QZ;refine aue (e2 hmf htf) ?_;rw[←hQ];clear hQ;refine zp (Bf (t:=4) (n:=nx+1) (k:= .agg 6) (i:=0) (o:=0) (es:=[zT a b]) rfl (by simp only[Hp.set,if_true])) ?_;refine Zn ?_;generalize hH:Hp.del _ _=A;have hkA:∀x,x<nx→A x=h' x:=by rw[←hH];exact kep Hp.same.aBI
 have a0:A nx=some (.arr (.agg 2) [mps o P ws]):=by rw[←hH];simp only[Hp.set,Hp.del];rw[if_neg or,if_neg or];simp
 have hdA:aK A (nx+3):=by rw[←hH];exact dmo hd
 clear hH;have hle:∀B:Hp,(∀x,x<nx→B x=A x)→h'.le B:=fun B hB x b hx=>by
  have:=hd x b hx;rw[hB x or,hkA x or];exact hx
 have n0:nx<nx+3:=or;have C1:=fun h=>oe h;have C2:=fun h=>wr o P ws h;generalize hP2:bF.seq (.draw 11 _ _) _=P2;cases hL:m9 P ws with
 |true=>
  rw[hL] at C2;refine aue (e3 a0 n0 hmf) ?_;exact aG h' (hle A fun _ _=>rfl) ⟨rfl,rfl⟩
 |false=>
 rw[hL] at C2;have hwl:ws.length≤40:=by
  unfold m9 at hL;rw[Bool.or_eq_false_iff,decide_eq_false_iff_not] at hL;have:=hL.2;omega
 have C3:=fun h=>zj o P ws or h;have hdf:(mps (cO ws) P ws).fits (.agg 2)=true:=by simp[mps,V.fits,V.aAD,wys]
 have hsf:V.fits (.agg 3) (.agg [.int .i64 a.p, .int .i64 a.t.e, .int .i64 a.t.r])=true:=Sp.aAC a;have l0:bV (.agg 3) 0 (zT a b)= .agg [.int .i64 a.p, .int .i64 a.t.e, .int .i64 a.t.r]:=rfl;refine aue (ee7 a0 n0 hmf hdf hsf l0 Ka) ?_;clear C1 C2 C3;generalize hC:pB (lwp Tryz.prog P2) (iU _ _)=QC
 have aBr:∀(M:Hp) (nxM:Nat) (sl:List V) (w y1 y2 y3 y5:V) (ov:Own) (vl:List V) (e:Int),nx+4≤nxM→aK M nxM→M nx=some (.arr (.agg 2) [mps o P ws])→M (nx+3)=some (.arr (.agg 2) [mps (cO ws) P ws])→(∀x,x<nx→M x=A x)→
  (∀h,aX Tryz.prog 15 [mps (cO ws) P ws, .int .i64 N, .sl (.agg 3) .free [.agg [.int .i64 a.p, .int .i64 a.t.e, .int .i64 a.t.r]]] h (.tup [.agg [y1,y2,y3, .sl .leaf ov vl,y5], .int .i64 e]))→(V.agg [y1,y2,y3, .sl .leaf ov vl,y5]).fits (.agg 5)=true→
  (∀E:Hp,(∀x,x<nxM→E x=M x)→∀n,aK E n→aX Tryz.prog 18 [w] E (.int .i64 vl.length))→
  WkL sl (aB 98 0 [(2, .int .i64 N),(3, .ptr nx (.agg 2) 0 0),(4, .ept (.agg 6) [zT a b] 0 0),(7, .ptr (nx+3) (.agg 2) 0 0),(8,w),(9,eF e)])→QC .normal ⟨sl,M,nxM⟩:=fun M nxM sl w y1 y2 y3 y5 ov vl e h0 h1 h2 h3 h4 h5 h6 h7 hw=>by
  rw[←hC];refine kK ⟨_,M,nxM⟩ ⟨hw,Hp.le_refl _,Nat.le_refl _⟩ ?_;rw[←hP2];exact Ai h1 h2 h3 h5 h6 h7 or fun E hE=>hle E fun x hx=>by rw[hE x or];exact h4 x hx
 clear hC hP2 P2;generalize hH:Hp.set _ _ _=M;have hkM:∀x,x<nx+3→M x=A x:=by rw[←hH];exact kep Hp.same.aBI
 have m0:M nx=some (.arr (.agg 2) [mps o P ws]):=by rw[hkM nx n0];exact a0
 have m3:M (nx+3)=some (.arr (.agg 2) [mps (cO ws) P ws]):=by rw[←hH];simp only[Hp.set];rw[if_neg or];simp
 have hdM:aK M (nx+6):=by rw[←hH];exact dmo hdA
 clear hH;have aMy:∀x,x<nx→M x=A x:=fun x hx=>hkM x or;cases hR:eK P ws with
 |false=>
  refine aQ (BT o hR or _ _ _) rfl (aU _) ?_;refine Zn ?_;refine au ?_;refine aBr M _ _ .aAI (.int .i64 0) (.sl (.agg 4) .nil []) (.sl (.agg 4) .nil []) (.sl (.agg 3) .nil []) .nil [] 2 ZN (hdM.up ZN) m0 m3 aMy (fun h=>?_) rfl (fun E _ _ _=>nI E) (by simp only[WkL,aB,jH,jI,jJ,go_sem,reduceIte,jA,jB,jC,jD,reduceCtorEq,jE,jF]);have:=qc (cO ws) P ws or N (.inl hR) (.sl (.agg 3) .free [.agg [.int .i64 a.p, .int .i64 a.t.e, .int .i64 a.t.r]]) h;rw[hR] at this;exact this
 |true=>
 obtain⟨n,l,R⟩:=(jX P ws).1 hR;by_cases hN:1≤N∧N≤17;case neg=>
  refine bX ((xe o R or hn N hN _ _ _).mono ?_);rintro v M2 nx2 aBZ ⟨_,hd2,hk2,rfl⟩;try dsimp only at aBZ hk2
  unfold eI;refine Zn ?_;refine au ?_;refine aBr M2 _ _ .aAI (.int .i64 0) (.sl (.agg 4) .nil []) (.sl (.agg 4) .nil []) (.sl (.agg 3) .nil []) .nil [] 1 ZN (hd2.up ZN) (by rw[hk2 _ or];exact m0) (by rw[hk2 _ or];exact m3) (fun x hx=>(hk2 x or).trans (aMy x hx)) (fun h=>?_) rfl (fun E _ _ _=>nI E) (by simp only[WkL,aB,jH,jI,jJ,go_sem,reduceIte,jA,jB,jC,jD,reduceCtorEq,jE,jF]);have:=qc (cO ws) P ws or N (.inr hN) (.sl (.agg 3) .free [.agg [.int .i64 a.p, .int .i64 a.t.e, .int .i64 a.t.r]]) h;rw[hR] at this;exact this
 obtain⟨m,rfl⟩:∃m:Nat,N=m:=⟨N.toNat,or⟩;have K:=fun h=>qd (cO ws) .free (DE ws) P ws or m or [a] Zm h;obtain⟨s1,_⟩:=Scr.start P ws m [a] Zm;have hE:bp P ws [a]=(bQ P [] 0 (cJ [a] 1)).1:=by unfold bp;rw[if_pos hR,s1]
 rw[hE] at K;refine bX ((yz o R or hn m or (.tok (nx+5)) [a] Zm _ _).mono ?_);rintro v M2 nx2 aBZ ⟨_,hd2,hk2,(⟨hne,rfl⟩|⟨he,wb,nb,tb,vo,vs,o2,oc,ot,rfl,hvs,hwb,hW⟩)⟩
 ·try dsimp only at aBZ hk2
  unfold eI;refine Zn ?_;refine au ?_;have e1:sX (cO ws) P ws m [a]=dw0:=by unfold sX;rw[if_neg];rw[s1];exact fun h=>hne h.2
  rw[e1] at K;exact aBr M2 _ _ .aAI (.int .i64 0) (.sl (.agg 4) .nil []) (.sl (.agg 4) .nil []) (.sl (.agg 3) .nil []) .nil [] _ ZN (hd2.up ZN) (by rw[hk2 _ or];exact m0) (by rw[hk2 _ or];exact m3) (fun x hx=>(hk2 x or).trans (aMy x hx)) K rfl (fun E _ _ _=>nI E) (by simp only[WkL,aB,jH,jI,jJ,go_sem,reduceIte,jA,jB,jC,jD,reduceCtorEq,jE,jF])
 try dsimp only at aBZ hk2 hwb
 unfold eI;refine Zn ?_;refine au ?_;have e1:sX (cO ws) P ws m [a]=(oF P ws m [a]).v (cO ws) .nil:=by unfold sX;rw[if_pos ⟨hR,by rw[s1];exact he⟩]
 rw[e1,he] at K;refine aBr M2 _ _ (.ptr wb (.agg 4) 0 0) (.int .i64 (oF P ws m [a]).P) (wys (cO ws) (oF P ws m [a]).ws) (cgs (cO (oF P ws m [a]).T) (oF P ws m [a]).T) (.sl (.agg 3) .nil ((oF P ws m [a]).Ns.map DN.v)) (cO (oF P ws m [a]).Vs) ((oF P ws m [a]).Vs.map vwV) 0 ZN (hd2.up ZN) (by rw[hk2 _ or];exact m0) (by rw[hk2 _ or];exact m3) (fun x hx=>(hk2 x or).trans (aMy x hx)) K rfl (fun E hE k hdE=>?_) (by simp only[WkL,aB,jH,jI,jJ,show eF 0=V.nilIface from rfl,go_sem,reduceIte,jA,jB,jC,jD,reduceCtorEq,jE,jF]);have hlen:(((oF P ws m [a]).Vs.map vwV).length:Int)=vs.length:=by rw[jK,hvs];simp[oF]
 rw[hlen];exact(hW.aBP (fun x hx=>hE x ZN) hdE).members
theorem CY{P:Program}{t:TypeId}{x:V}(ek:dE P t=some (.agg 6))(ea:kT P 12 t=some [.int .i64, .int .i64, .int .i64, .int .i64, .int .i64, .int .i64])(h:gg P t x):∃a b,x=zT a b:=by
 obtain⟨hf,_,hc⟩:=zf ek ea h;cases x with
 |agg cs=>
  simp only[V.fits,Kd,decide_eq_true_eq] at hf;obtain⟨a,b,c,d,e,f,rfl⟩:∃a b c d e f,cs=[a,b,c,d,e,f]:=by
   match cs,hf.1 with
   | [a,b,c,d,e,f],_=>exact⟨a,b,c,d,e,f,rfl⟩
  obtain⟨x,hx⟩:=mL (hc 0 Zm);obtain⟨y,hy⟩:=mL (hc 1 Zm);obtain⟨z,hz⟩:=mL (hc 2 Zm);obtain⟨u,hu⟩:=mL (hc 3 Zm);obtain⟨v,hv⟩:=mL (hc 4 Zm);obtain⟨w,hw⟩:=mL (hc 5 Zm);simp only[rN,List.getD_cons_zero,List.getD_cons_succ] at hx hy hz hu hv hw;exact⟨⟨x,⟨y,z⟩⟩,⟨u,⟨v,w⟩⟩,by rw[hx,hy,hz,hu,hv,hw];rfl⟩
 |_=>simp[V.fits] at hf
end Go.Proofs.YtecepaehmojpgaaGreat
