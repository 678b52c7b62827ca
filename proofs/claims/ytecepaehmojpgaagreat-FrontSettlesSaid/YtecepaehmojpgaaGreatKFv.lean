/-
corollarylaw24.FrontSettles returns true for every input,and leaves its arguments as they were. Conditions:none.
-/
import Derived.Test.YtecepaehmojpgaaGreatKd
import Derived.Test.YtecepaehmojpgaaGreatKFu
open Nat renaming reduceAdd→jA,reduceSub→jB,reduceLT→jC,reduceLeDiff→jD,reduceEqDiff→jE
open Int renaming reduceToNat→jF,toNat_natCast→jG,natCast_add→jH,natCast_one→jI,natCast_zero→jJ
open List renaming length_map→jK,length_cons→jL,length_nil→jM,replicate_succ→jN,replicate_zero→jO,cons_append→jP,nil_append→jQ
set_option linter.unusedSimpArgs false
set_option linter.unusedVariables false
set_option linter.unusedSectionVars false
namespace Go.Proofs.YtecepaehmojpgaaGreat
open Go.ChangeShapes Go.WideShapes Go.ChangeAt Go.RowKit Go.Sort
attribute [local irreducible] IntKind.wrap
set_option maxRecDepth 100000 in
set_option maxHeartbeats 8000000 in
theorem vC(o ob os:Own)(P:Int)(ws:List Wy)(hn:o= .nil→ws=[])(bg:List Sp)(sc:List Act):aZ Tryz.prog 5 [mps o P ws, .sl (.agg 3) ob (bg.map Sp.v), .sl (.agg 7) os (sc.map Act.v)] Hp.none (.bool true):=by
 have hmf:(mps o P ws).fits (.agg 2)=true:=by simp[mps,V.fits,V.leafy,wys]
 refine aU (fun L=>trivial) fun h' nx hh=>aD L.corollarylaw24_FrontSettles_low fun hd=>?_
 simp only[jL,jM,jA,jB,jN,jO,jP,jQ,V.undef]
 have hd:aM h' nx:=hd
 have C1:=fun h=>tL h
 have C2:=fun h=>sT o ob os P ws bg sc h
 cases hL:jR P ws bg sc with
 |true=>
  rw[hL] at C2
  refine aue hmf ?_
  exact aG h' (leo hd) ⟨rfl,rfl⟩
 |false=>
 rw[hL] at C2
 obtain⟨b1,b2,b3,b4⟩:=yU hL
 cases hR:jZ P ws with
 |false=>
  have C3:=fun h=>aDx o hR (by omega) (.int .i64 3) (.sl (.agg 3) ob (bg.map Sp.v)) h
  have hv:veq (.iface true) (dO 2) .nilIface=some false:=dP 2
  refine aue (e2 hmf hv) ?_
  exact aG h' (leo hd) ⟨rfl,rfl⟩
 |true=>
 obtain⟨n,l,R⟩:=(kY P ws).1 hR
 refine aue hmf ?_
 clear C1 C2
 generalize hH:Hp.set _ _ _=A
 have hkA:∀x,x<nx→A x=h' x:=by rw[←hH];exact kep Hp.same.rfl'
 clear hH
 refine aX ((aCe o R (by omega) hn 3 (by omega) ob bg (by omega) _ _).mono ?_)
 rintro v M nxM hnxM ⟨_,hdM,hkM,(⟨hne,rfl⟩|⟨he,wb,nb,tb,vo,vs,o2,oc,ot,rfl,hvs,hwb,hW⟩)⟩
 ·have hv:=dP (aT P [] 0 (cY bg 1)).1
  rw[decide_eq_false hne] at hv
  try dsimp only at hnxM hkM
  have hle:h'.le M:=fun x b hx=>by
   have:=hd x b hx
   rw[hkM x (by omega),hkA x (by omega)];exact hx
  unfold cR
  simp only[go_sem,reduceIte,jA,jB,jC,jD,reduceCtorEq,jE,jF]
  refine aue hv ?_
  exact aG h' hle ⟨rfl,rfl⟩
 try dsimp only at hnxM hkM hwb
 have hle:∀B:Hp,(∀x,x<nx+1→B x=M x)→h'.le B:=fun B hB x b hx=>by
  have:=hd x b hx
  rw[hB x (by omega),hkM x (by omega),hkA x (by omega)];exact hx
 have hLI:=LI.start l 3 b2 he
 rw[←hvs] at hLI
 unfold cR
 simp only[go_sem,reduceIte,jA,jB,jC,jD,reduceCtorEq,jE,jF]
 generalize hP1:bE.seq (.ops L.corollarylaw24_FrontSettles_r8) (.block 0 (.loop L.corollarylaw24_FrontSettles_l0))=P1
 generalize hP2:bE.seq (.ops L.corollarylaw24_FrontSettles_r16) (.block 2 (.loop L.corollarylaw24_FrontSettles_l3))=P2
 refine au ?_
 generalize hC:qB (lwp Tryz.prog _) (mK _ _)=QC
 rw[←hP2] at hC
 have hfin:∀(D:Hp) (nxD:Nat) (sl:List V) (S:Nat→CS) (Q:Int→Int→List Nt) (k:Nat),nx+1≤nxD→WI (nx+1) D nxD wb nb tb vo vs P (wys o2 ws) (.sl .leaf oc (cH n l n)) ot (cH n l n) S Q→LI l P vs.length k S Q→k≤30→QD vs.length Q→(∀x,x<nx+1→D x=M x)→WkL sl (aB 88 0 [(7, .ptr wb (.agg 4) 0 0)])→QC .normal ⟨sl,D,nxD⟩:=fun D nxD sl S Q k h0 h1 h2 h3 h4 h5 h6=>by
  rw[←hC]
  refine kI ⟨_,D,nxD⟩ ⟨h6,Hp.le_refl _,Nat.le_refl _⟩ ?_
  refine bI ?_
  refine aJg h1 h2 h3 h4 hvs h0 _ fun D2 nx2 sl2 S2 Q2 k2 g1 g2 g3 g4 g5 g6=>?_
  refine kI ⟨_,D2,nx2⟩ ⟨g6,Hp.le_refl _,Nat.le_refl _⟩ ?_
  exact aJf g1 g2 g3 hvs (by omega) g4 fun B hB=>hle B fun x hx=>by rw[hB x hx,g5 x hx];exact h5 x hx
 clear hC hP2 P2
 rw[←hP1]
 clear hP1 P1
 refine au ?_
 refine aY (fun q:Nat×Int=>aB 88 0 [(7, .ptr wb (.agg 4) 0 0),(8,dO q.2),(30, .sl (.agg 7) os (sc.map Act.v)),(31, .int .i64 sc.length),(32, .int .i64 q.1)])
  (fun q hp nx1=>q.1≤sc.length∧0≤q.2∧nxM≤nx1∧(∀x,x<nx+1→hp x=M x)∧∃S Q,WI (nx+1) hp nx1 wb nb tb vo vs P (wys o2 ws) (.sl .leaf oc (cH n l n)) ot (cH n l n) S Q∧LI l P vs.length q.1 S Q∧QD vs.length Q)
  (fun q=>sc.length-q.1) (0,0) ⟨Nat.zero_le _,Int.le_refl _,by first|omega|(dsimp only;omega),fun _ _=>rfl,_,_,hW,hLI,fun a b h=>absurd rfl h⟩ (by simp only[WkL,aB,jH,jI,jJ,jK,show dO 0=V.nilIface from rfl,go_sem,reduceIte,jA,jB,jC,jD,reduceCtorEq,jE,jF]) ?_
 rintro⟨k,e⟩ hp nx1 ⟨hk,he0,hnx,hsm,S,Q,HW,HL,hQD⟩
 dsimp only at hk he0 HL
 generalize hQ:bZ _ _ _ _ _=Q0
 simp only[aB,go_sem,reduceIte,jA,jB,jC,jD,reduceCtorEq,jE,jF]
 rcases Nat.lt_or_ge k sc.length with hlt|hge
 case inr=>
  have hc1:decide ((k:Int)<(sc.length:Int))=false:=dcf
  refine aue hc1 ?_
  rw[←hQ]
  refine au ?_
  exact hfin hp _ _ S Q k (by first|omega|(dsimp only;omega)) (HW.keep (fun _ _=>rfl) (HW.dom.up (by first|omega|(dsimp only;omega)))) HL (by omega) hQD hsm (by simp only[WkL,aB,jH,jI,jJ,go_sem,reduceIte,jA,jB,jC,jD,reduceCtorEq,jE,jF])
 have hc1:decide ((k:Int)<(sc.length:Int))=true:=dct
 have hw1:IntKind.i64.wrap ((k:Int)+1)=((k+1:Nat):Int):=wrp
 obtain⟨x,hx⟩:∃x,x=sc[k]:=⟨_,rfl⟩
 have hg:(sc.map Act.v).getD k (.tup [])= .agg [.bool x.dl, .int .i64 x.a, .int .i64 x.b, .int .i64 x.took.p, .int .i64 x.took.t.e, .int .i64 x.took.t.r, .sl (.agg 3) x.o (x.made.map Sp.v)]:=by rw[hx];exact dM Act.v _ sc k hlt
 have hx6:x.made.length≤6:=by rw[hx];exact b4 _ (List.getElem_mem hlt)
 clear hx
 unfold L.corollarylaw24_FrontSettles_l0
 generalize hD:bE.cond (.slot 38) (.ops L.corollarylaw24_FrontSettles_r12) .skip=DC
 refine aue (e4 hc1 hg hlt (@jK Act V)) ?_
 obtain⟨dl,i,j,took,om,made⟩:=x
 dsimp only at hx6⊢
 generalize hH:Hp.set _ _ _=A2
 have a1:A2 nx1=some (.arr (.agg 7) [.agg [.bool dl, .int .i64 i, .int .i64 j, .int .i64 took.p, .int .i64 took.t.e, .int .i64 took.t.r, .sl (.agg 3) om (made.map Sp.v)]]):=by rw[←hH];simp only[Hp.set,if_true]
 have hk2:∀x,x<nx1→A2 x=hp x:=fun x hx=>by rw[←hH];simp only[Hp.set];rw[if_neg (by omega),if_neg (by omega)]
 have HA:WI (nx+1) A2 (nx1+2) wb nb tb vo vs P (wys o2 ws) (.sl .leaf oc (cH n l n)) ot (cH n l n) S Q:=HW.keep hk2 (by rw[←hH];exact dmo HW.dom)
 clear hH hg
 generalize hC:qB (lwp Tryz.prog _) _=QC2
 have hrest:∀(D:Hp) (nxD:Nat) (sl:List V) (e:Int) (S2:Nat→CS) (Q2:Int→Int→List Nt),nx1+2≤nxD→0≤e→(∀x,x<nx+1→D x=M x)→WI (nx+1) D nxD wb nb tb vo vs P (wys o2 ws) (.sl .leaf oc (cH n l n)) ot (cH n l n) S2 Q2→LI l P vs.length (k+1) S2 Q2→QD vs.length Q2→
  WkL sl (aB 88 0 [(7, .ptr wb (.agg 4) 0 0),(8,dO e),(30, .sl (.agg 7) os (sc.map Act.v)),(31, .int .i64 sc.length),(32, .int .i64 k)])→QC2 .normal ⟨sl,D,nxD⟩:=fun D nxD sl e S2 Q2 h1 h0 h2 h3 h4 hqd h5=>by
  rw[←hC]
  refine kI ⟨_,D,nxD⟩ ⟨h5,Hp.le_refl _,Nat.le_refl _⟩ ?_
  simp only[aB,go_sem,reduceIte,jA,jB,jC,jD,reduceCtorEq,jE,jF]
  have hv:=dP e
  by_cases he0:e=0
  ·rw[decide_eq_true he0] at hv
   refine aue (e2 hv hw1) ?_
   rw[←hQ]
   exact aI (k+1,e) (by dsimp only;omega) ⟨hlt,h0,by first|omega|(dsimp only;omega),h2,S2,Q2,h3.keep (fun _ _=>rfl) (h3.dom.up (by first|omega|(dsimp only;omega))),h4,hqd⟩ (by simp only[WkL,aB,jH,jI,jJ,go_sem,reduceIte,jA,jB,jC,jD,reduceCtorEq,jE,jF])
  rw[decide_eq_false he0] at hv
  have C1:=fun h=>aIc e h
  have g1:decide (e<1)=false:=dcf
  refine aue (e3 hv hw1 g1) ?_
  rw[←hQ]
  exact aI (k+1,e) (by dsimp only;omega) ⟨hlt,h0,by first|omega|(dsimp only;omega),h2,S2,Q2,h3.keep (fun _ _=>rfl) (h3.dom.up (by first|omega|(dsimp only;omega))),h4,hqd⟩ (by simp only[WkL,aB,jH,jI,jJ,go_sem,reduceIte,jA,jB,jC,jD,reduceCtorEq,jE,jF])
 clear hC
 have hfr:∀D,Fr (nx+1) (tb::vs) A2 D→∀x,x<nx+1→D x=M x:=fun D hf x hx=>by rw[hf.1 x hx,hk2 x (by omega)];exact hsm x hx
 rw[←hD]
 clear hD
 have hn1:nx1<nx1+2:=by omega
 have htf:V.fits (.agg 3) (.agg [.int .i64 took.p, .int .i64 took.t.e, .int .i64 took.t.r])=true:=Sp.fits_v took
 cases dl with
 |true=>
  refine aue (e2 a1 hn1) ?_
  exact hrest A2 _ _ e S Q (by first|omega|(dsimp only;omega)) he0 (fun x hx=>by rw[hk2 x (by omega)];exact hsm x hx) (HA.keep (fun _ _=>rfl) (HA.dom.up (by first|omega|(dsimp only;omega)))) HL.more hQD (by simp only[WkL,aB,jH,jI,jJ,go_sem,reduceIte,jA,jB,jC,jD,reduceCtorEq,jE,jF])
 |false=>
  refine aue (e3 a1 hn1 htf) ?_
  refine aX ((aIF HA HL hQD R (by omega) (by omega) (by omega) i ⟨took,made⟩ om hx6).mono ?_)
  rintro v D nxD hnD ⟨_,hf,e,h0,rfl,S2,Q2,h3,h4,h5⟩
  try dsimp only at hnD
  unfold cR
  simp only[go_sem,reduceIte,jA,jB,jC,jD,reduceCtorEq,jE,jF]
  refine au ?_
  exact hrest D _ _ e S2 Q2 (by omega) h0 (hfr D hf) h3 h4 h5 (by simp only[WkL,aB,jH,jI,jJ,go_sem,reduceIte,jA,jB,jC,jD,reduceCtorEq,jE,jF])
end Go.Proofs.YtecepaehmojpgaaGreat
