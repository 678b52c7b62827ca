/-
corollarylaw23.CountLaws returns true for every input,and leaves its arguments as they were. Conditions:none.
-/
import Derived.Test.YthikfnmcjipobaaGreatKr
namespace Go.Proofs.YthikfnmcjipobaaGreat
open Nat renaming reduceAdd→jA,reduceSub→jB,reduceLT→jC,reduceLeDiff→jD,reduceEqDiff→jE
open Int renaming reduceToNat→jF,toNat_natCast→jG,natCast_add→jH,natCast_one→jI,natCast_zero→jJ
open List renaming length_map→jK,length_cons→jL,length_nil→jM,replicate_succ→jN,replicate_zero→jO,cons_append→jP,nil_append→jQ
set_option linter.unusedSimpArgs false
set_option linter.unusedVariables false
set_option linter.unusedSectionVars false
open Go.ChangeShapes Go.WideShapes Go.ChangeAt Go.RowKit Go.Sort
attribute [local irreducible] IntKind.wrap
attribute [local go_sem] Option.some.injEq Prod.mk.injEq false_and and_false Bool.true_eq_false mP jR jX gG iV if_true Bool.true_and mF dS iH gL dQ aA.ok aA.next LOp.ok LOp.next bC.ok bC.out aQ.ev bN iI cH bO cO V.undef Sh.size gH fW cK aA.dok aA.dres LOp.dok LOp.dout lI iD gI eX List.take_succ_cons List.take_zero List.take_nil List.drop_succ_cons List.drop_zero List.drop_nil List.set_cons_succ List.set_cons_zero List.getD_cons_succ List.getD_cons_zero jL jM List.map_cons List.map_nil List.all_cons List.all_nil List.mem_cons List.not_mem_nil jN jO jP jQ List.append_nil List.isEmpty_cons List.isEmpty_nil dW fJ hM Option.getD_some Option.isSome_some Option.isSome_none Nat.add_eq Nat.zero_add Nat.add_zero true_and and_true and_self true_implies implies_true false_implies forall_const forall_eq forall_eq_or_imp ne_eq not_false_eq_true not_true_eq_false Bool.not_true Bool.not_false decide_true decide_false Bool.and_true Bool.true_and Bool.and_false Bool.false_and true_or or_true false_or or_false eq_self Bool.false_eq_true mK iO gC aD fH eT eB dU cL dT aZ aX dN jG Int.toNat_zero List.take_length Hp.set_app Hp.del_app gW fV aA.plain LOp.isCall aA.dplain LOp.isStop eM kT gY lY fN V.gd_true V.gd_false fM eK eL fL bG aY aU fK eS beq_true beq_false dD dE dF cB cC bH bI cP eQ cE dK dH bJ dI dL eN eO bK dJ bF cD eP bP dG bQ bB gQ gO gP gN dM cG dX cR eG eF eE eD eC bX bW cZ cY cX cA bZ bY eJ eI eH dC dB dA cQ cF bS kM Hp.turn fT Option.isNone_some Option.isNone_none oL gF fO aA.plain2 LOp.isApp oM lP lQ iQ fS fR
set_option maxRecDepth 100000 in
set_option maxHeartbeats 8000000 in
theorem aAO(o ox:Own)(P:Int)(ws:List Wy)(hn:o= .nil→ws=[])(r:List Cg)(y:Cg):cM Tryz.prog 5 [mps o P ws,cgs ox r,y.v] Hp.none (.bool true):=by
 have hmf:(mps o P ws).fits (.agg 2)=true:=by simp[mps,V.fits,V.leafy,wys]
 have hyf:=Cg.fits_v y
 refine bL (fun L=>trivial) fun h' nx hh=>aG L.corollarylaw23_CountLaws_low fun hd=>?_
 simp only[jL,jM,jA,jB,jN,jO,jP,jQ,V.undef,cgs]
 have C1:=fun h=>wC h
 have C2:=fun h=>zT o P ws h
 cases hL:wT P ws with
 |true=>
  rw[hL] at C2
  refine aue (e2 hmf hyf) ?_
  refine rE (by simp only[go_sem,reduceIte,jA,jB,jC,jD,reduceCtorEq,jE,jF]) h' (leo hd) ⟨?_,rfl⟩
  simp only[go_sem,reduceIte,jA,jB,jC,jD,reduceCtorEq,jE,jF]
 |false=>
 rw[hL] at C2
 have hl:=aBr hL
 by_cases hlen:20<r.length
 ·have hc:decide ((r.length:Int)>20)=true:=dct
  refine aue (e4 hmf hyf hc (@jK Cg V)) ?_
  refine rE (by simp only[go_sem,reduceIte,jA,jB,jC,jD,reduceCtorEq,jE,jF]) h' (leo hd) ⟨?_,rfl⟩
  simp only[go_sem,reduceIte,jA,jB,jC,jD,reduceCtorEq,jE,jF]
 have hc:decide ((r.length:Int)>20)=false:=dcf
 cases hR:nX P ws with
 |false=>
  have C3:=fun h=>aEI o hR (by omega) h
  have hv:veq (.iface true) (nL 2) .nilIface=some false:=by rw[lB];simp
  refine aue (e5 hmf hyf hc (@jK Cg V) hv) ?_
  refine rE (by simp only[go_sem,reduceIte,jA,jB,jC,jD,reduceCtorEq,jE,jF]) h' (leo hd) ⟨?_,rfl⟩
  simp only[go_sem,reduceIte,jA,jB,jC,jD,reduceCtorEq,jE,jF]
 |true=>
 obtain⟨n,l,R⟩:=(nW P ws).1 hR
 have hnP:=R.pl
 have hn200:=R.le
 refine aue (e4 hmf hyf hc (@jK Cg V)) ?_
 clear C1 C2
 have hyv:y.v= .agg [.int .i64 y.s.p, .int .i64 y.s.t.e, .int .i64 y.s.t.r, .int .i64 y.d]:=rfl
 rw[hyv] at hyf⊢
 obtain⟨A,hA⟩:∃A,A=((h'.set nx (.arr (.agg 2) [mps o P ws])).set (nx+1) (.arr (.agg 4) [.agg [.int .i64 y.s.p, .int .i64 y.s.t.e, .int .i64 y.s.t.r, .int .i64 y.d]])).set (nx+2) (.arr .leaf [.bool false]):=⟨_,rfl⟩
 have a0:A nx=some (.arr (.agg 2) [mps o P ws]):=by rw[hA];simp only[go_sem,reduceIte,jA,jB,jC,jD,reduceCtorEq,jE,jF]
 have a1:A (nx+1)=some (.arr (.agg 4) [.agg [.int .i64 y.s.p, .int .i64 y.s.t.e, .int .i64 y.s.t.r, .int .i64 y.d]]):=by rw[hA];simp only[go_sem,reduceIte,jA,jB,jC,jD,reduceCtorEq,jE,jF]
 have a2:A (nx+2)=some (.arr .leaf [.bool false]):=by rw[hA];simp only[go_sem,reduceIte,jA,jB,jC,jD,reduceCtorEq,jE,jF]
 have hsA:Hp.same nx h' A:=by rw[hA];exact kep Hp.same.rfl'
 rw[←hA]
 clear hA
 refine bU ((aDY o R (by omega) hn _ _).mono ?_)
 rintro v5 M5 nx5 hnx5 ⟨cb,m,o2,ot,rfl,hcb,hm,hcnt,hk5,hd5,_⟩
 dsimp only at hcb hm hnx5 hk5
 unfold gM
 simp only[go_sem,reduceIte,jA,jB,jC,jD,reduceCtorEq,jE,jF]
 have b0:M5 nx=some (.arr (.agg 2) [mps o P ws]):=by rw[hk5 _ (by omega)];exact a0
 have c5:cb<nx5:=hd5 _ _ hcnt.cell
 have m5:m<nx5:=hd5 _ _ hcnt.mp
 refine aue (e4 b0 (show nx<nx5 by omega) (show(nx=nx5)=False from fls) hmf) ?_
 refine bU ((aDY o R (by omega) hn _ _).mono ?_)
 rintro v6 M6 nx6 hnx6 ⟨cb2,m2,o2',ot',rfl,hcb2,hm2,hcnt2,hk6,hd6,_⟩
 dsimp only at hcb2 hm2 hnx6 hk6
 unfold gM
 simp only[go_sem,reduceIte,jA,jB,jC,jD,reduceCtorEq,jE,jF]
 --the boxes,from here on
 obtain⟨B,hB⟩:∃B,B=nx5:=⟨_,rfl⟩
 obtain⟨G,hG⟩:∃G:Hp→Prop,∀H,G H↔(H (nx+1)=some (.arr (.agg 4) [.agg [.int .i64 y.s.p, .int .i64 y.s.t.e, .int .i64 y.s.t.r, .int .i64 y.d]])∧H (nx+2)=some (.arr .leaf [.bool false])∧H B=some (.arr .leaf [.ptr cb (.agg 4) 0 0])∧Hp.same nx h' H):=⟨_,fun _=>Iff.rfl⟩
 have hBn:nx+3≤B:=by omega
 have hBcb:B≠cb:=by omega
 have hBcb2:B<cb2:=by omega
 have hcc:cb<cb2:=by omega
 have hmc:m<cb2:=by omega
 have hm2c:cb<m2:=by omega
 have g6:G M6:=(hG M6).2 ⟨by rw[hk6 _ (by omega)];simp only[Hp.set];rw[if_neg (by omega),if_neg (by omega),hk5 _ (by omega)];exact a1,
  by rw[hk6 _ (by omega)];simp only[Hp.set];rw[if_neg (by omega),if_neg (by omega),hk5 _ (by omega)];exact a2,
  by rw[hB,hk6 _ (by omega)];simp only[Hp.set,if_true],
  fun z hz=>by rw[hk6 _ (by omega)];simp only[Hp.set];rw[if_neg (by omega),if_neg (by omega),hk5 _ (by omega)];exact hsA z hz⟩
 have hc6:hZ M6 cb m P (wys o2 ws) (.sl .leaf ot (mG n l n)) [] 0:=hcnt.keep hd5 fun z hz=>by rw[hk6 _ (by omega)];simp only[Hp.set];rw[if_neg (by omega),if_neg (by omega)]
 have gstep:∀{H H2:Hp} {N:Nat} {k:Nat},G H→B<N→k≠nx+1→k≠nx+2→k≠B→nx≤k→(∀z,z<N→z≠k→H2 z=H z)→G H2:=fun g hN k1 k2 k3 k4 hk=>by
  obtain⟨q1,q2,q3,q4⟩:=(hG _).1 g
  exact(hG _).2 ⟨by rw[hk _ (by omega) (Ne.symm k1)];exact q1,by rw[hk _ (by omega) (Ne.symm k2)];exact q2,by rw[hk _ hN (Ne.symm k3)];exact q3,fun z hz=>by rw[hk _ (by omega) (by omega)];exact q4 z hz⟩
 have fin:∀{sl:List V} {H H2:Hp} {nx9:Nat},Hp.same nx h' H→Hp.same nx H H2→sl.getD 6 (.tup [])= .ptr (nx+2) .leaf 0 0→H2 (nx+2)=some (.arr .leaf [.bool true])→vD [aAA.cell 6 .leaf] (fun v' h'' _=>v'= .bool true∧h''=h') .ret ⟨sl,H2,nx9⟩:=fun hs hs2 e1 e2=>rE (by simp only[e1,e2,go_sem,reduceIte,jA,jB,jC,jD,reduceCtorEq,jE,jF]) h' ((show Hp.same nx h' _ from fun y hy=>(hs2 y hy).trans (hs y hy)).le hd (Hp.le_refl _)) ⟨by simp only[e1,e2,go_sem,reduceIte,jA,jB,jC,jD,reduceCtorEq,jE,jF],rfl⟩
 rw[←hB]
 have hN6:B<nx6:=by omega
 clear hk6 hk5 hsA a0 a1 a2 b0 hcnt hnx5 hB hd5
 obtain⟨q1,q2,q3,q4⟩:=(hG _).1 g6
 refine aue (e3 q3 (show B<nx6 by omega) (@jK Cg V)) ?_
 have hst:=aEC P 0
 refine bU ((rT ox r (by omega) [] 0 (mU 0) P _ _ cb m _ _ hd6 hc6).mono ?_)
 rintro v7 M7 nx7 hnx7 ⟨rfl,⟨m3,hc7,hm3⟩,hk7,_,hd7,_⟩
 try dsimp only at hnx7 hk7 hm3
 have g7:G M7:=gstep g6 hN6 (by omega) (by omega) (by omega) (by omega) hk7
 have hm2x:m2<nx6:=hd6 _ _ hcnt2.mp
 have hcb2x:cb2<nx6:=hd6 _ _ hcnt2.cell
 have hc27:hZ M7 cb2 m2 P (wys o2' ws) (.sl .leaf ot' (mG n l n)) [] 0:=hcnt2.other hd6 (by omega) (by omega) hk7
 have hv:=lB (dV P [] 0 r).1
 have hst3:=hst.add r
 unfold gM
 simp only[go_sem,reduceIte,jA,jB,jC,jD,reduceCtorEq,jE,jF]
 obtain⟨p1,p2,p3,p4⟩:=(hG _).1 g7
 have hN7:B<nx7:=by omega
 by_cases he:(dV P [] 0 r).1=0
 case neg=>
  rw[decide_eq_false he] at hv
  rw[xF he] at hc7
  refine aue (e3 hv p3 hN7) ?_
  refine aJ (tC hc7) rfl (aS _) ?_
  simp only[go_sem,reduceIte,jA,jB,jC,jD,reduceCtorEq,jE,jF]
  refine aue (e2 p2 (show nx+2<nx7 by omega)) ?_
  exact fin p4 (kep Hp.same.rfl') rfl (by simp only[Hp.set,if_true])
 case pos=>
 rw[decide_eq_true he] at hv
 have hg3:∀s,eR (dV P [] 0 r).2.1 s=mJ r s:=fun s=>by
  rw[pR hst he (by omega)]
  simp[eR]
 have hsm:=(tU he).2.1
 have hm3x:nx+3≤m3∧m3≠cb2:=by rcases hm3 with h|h<;>omega
 have hm3y:m3<nx7:=hd7 _ _ hc7.mp
 generalize (dV P [] 0 r).2.1=l3 at hc7 hst3 hg3
 generalize (dV P [] 0 r).2.2=c3 at hc7 hst3
 clear hm3 hk7 he g6 q1 q2 q3 q4 hc6 hcnt2
 have hw0:IntKind.i64.wrap ((r.length:Int)-1)=(r.length:Int)-1:=wrp
 refine aue (e4 hv hw0 (@jK Cg V) p3) ?_
 --the same changes in the other one,one by one from the last
 refine cI (fun q:Nat×List CE×Nat×Nat=>aD 120 0 [(1,cgs ox r),(5, .ptr (nx+1) (.agg 4) 0 0),(6, .ptr (nx+2) .leaf 0 0),(7, .ptr B .leaf 0 0),(9, .ptr cb2 (.agg 4) 0 0),(11, .int .i64 ((q.1:Int)-1))])
  (fun q hp nx1=>q.1≤r.length∧nx7≤nx1∧aT hp nx1∧G hp∧hZ hp cb m3 P (wys o2 ws) (.sl .leaf ot (mG n l n)) l3 c3∧hZ hp cb2 q.2.2.2 P (wys o2' ws) (.sl .leaf ot' (mG n l n)) q.2.1 q.2.2.1∧StC P q.2.1 q.2.2.1 (40-q.1)∧(∀s,eR q.2.1 s=mJ (r.drop q.1) s))
  (fun q=>q.1) (r.length,[],0,m2) ⟨Nat.le_refl _,by first|omega|(dsimp only;omega),hd7,g7,hc7,hc27,hst.up (by dsimp only;omega),fun s=>by rw[List.drop_length];rfl⟩ (by simp only[WkL,aD,jH,jI,jJ,cgs,go_sem,reduceIte,jA,jB,jC,jD,reduceCtorEq,jE,jF]) ?_
 clear hc7 hc27 g7 p1 p2 p3 p4 hd7 hv
 rintro⟨i,l4,c4,m4⟩ hp nx1 ⟨hi,hnx,hdm,g,hc3,hc4,hst4,hg4⟩
 generalize hQ:fF _ _ _ _ _=Q0
 dsimp only at hi hc4 hst4 hg4
 simp only[aD,cgs,go_sem,reduceIte,jA,jB,jC,jD,reduceCtorEq,jE,jF]
 obtain⟨p1,p2,p3,p4⟩:=(hG _).1 g
 have hN1:B<nx1:=by omega
 have l2:nx+2<nx1:=by omega
 rcases Nat.eq_zero_or_pos i with rfl|hpos
 case inr=>
  obtain⟨j,rfl⟩:∃j,i=j+1:=⟨i-1,by omega⟩
  have hlt:j<r.length:=by omega
  have hji:(((j+1:Nat):Int)-1)=(j:Int):=by omega
  rw[hji]
  have hc1:decide ((j:Int)≥0)=true:=dct
  have hw1:IntKind.i64.wrap ((j:Int)-1)=(j:Int)-1:=wrp
  have hg:=aGP r j hlt
  have hdr:=fun s=>aBb r s hlt
  generalize r[j]=x at hg hdr
  refine aue (e5 hc1 hlt hg (@jK Cg V) jG) ?_
  have hkt:∀z,z<nx1→(hp.set nx1 .tip) z=hp z:=fun z hz=>by simp only[Hp.set];rw[if_neg (by omega)]
  have hcb2n:cb2<nx1:=hdm _ _ hc4.cell
  refine bU ((rT (.tok nx1) [x] (by simp) l4 c4 hst4.ok P _ _ cb2 m4 _ _ (dmo hdm) (hc4.keep hdm hkt)).mono ?_)
  rintro v6 M8 nx8 hnx8 ⟨rfl,⟨m6,hc8,hm6⟩,hk8,_,hd8,_⟩
  dsimp only at hnx8 hk8 hm6
  have hk8':∀z,z<nx1→z≠cb2→M8 z=hp z:=fun z hz hne=>by rw[hk8 _ (by omega) hne];exact hkt z hz
  have g8:G M8:=gstep g hN1 (by omega) (by omega) (by omega) (by omega) hk8'
  obtain⟨r1,r2,r3,r4⟩:=(hG _).1 g8
  have hv:=lB (dV P l4 c4 [x]).1
  unfold gM
  simp only[go_sem,reduceIte,jA,jB,jC,jD,reduceCtorEq,jE,jF]
  by_cases he:(dV P l4 c4 [x]).1=0
  case neg=>
   rw[decide_eq_false he] at hv
   refine aue (e3 hv r2 (show nx+2<nx8 by omega)) ?_
   rw[←hQ]
   refine au ?_
   exact fin r4 (kep Hp.same.rfl') rfl (by simp only[Hp.set,if_true])
  case pos=>
   rw[decide_eq_true he] at hv
   have hg6:∀s,eR (dV P l4 c4 [x]).2.1 s=mJ (r.drop j) s:=fun s=>by
    rw[pR hst4 he (by simp),hg4,yV,hdr]
    omega
   refine aue (e2 hv hw1) ?_
   rw[←hQ]
   exact aL (j,(dV P l4 c4 [x]).2.1,(dV P l4 c4 [x]).2.2,m6) (by dsimp only;omega) ⟨by first|omega|(dsimp only;omega),by first|omega|(dsimp only;omega),hd8,g8,hc3.other hdm (by omega) (by omega) hk8',hc8,(hst4.add _).up (by simp;omega),hg6⟩ (by simp only[WkL,aD,jH,jI,jJ,cgs,go_sem,reduceIte,jA,jB,jC,jD,reduceCtorEq,jE,jF])
 case inl=>
  have heq:eqC l3 l4=true:=(aHt hst3.ok hst4.ok).2 (aDx hst3.ok hst4.ok fun s=>by rw[hg3,hg4];rfl)
  have hc1:decide ((((0:Nat):Int)-1)≥0)=false:=by decide
  refine aue hc1 ?_
  rw[←hQ]
  clear hQ Q0
  refine aue (e2 p3 hN1) ?_
  have hsame:=aEu hc3 hc4 hst3.ok hst4.ok (by omega)
  rw[heq] at hsame
  refine aJ hsame rfl (aS _) ?_
  clear hsame
  simp only[go_sem,reduceIte,jA,jB,jC,jD,reduceCtorEq,jE,jF]
  refine aue (e2 p3 hN1) ?_
  refine bU ((aCk (.ptr cb (.agg 4) 0 0) rfl _ _).mono ?_)
  rintro v2 h3 nx3 hnx3 ⟨rfl,rfl,hge3⟩
  dsimp only at hge3
  unfold gM
  simp only[go_sem,reduceIte,jA,jB,jC,jD,reduceCtorEq,jE,jF]
  refine au ?_
  have hl3:l3.length≤900:=by have:=hst3.len;omega
  have hin3:∀y∈l3,0≤y.s.p∧y.s.p<(n:Int):=fun y hy=>by have:=hst3.right y hy;omega
  have hlst:∀a b,(eW l a b).length≤1000:=fun a b=>by have:=qD l a b;omega
  obtain⟨H2,hH2⟩:∃H2:Hp,H2=hp.set nx1 (.arr .leaf [.ptr cb (.agg 4) 0 0]):=⟨_,rfl⟩
  have hkH:∀z,z<nx1→H2 z=hp z:=fun z hz=>by rw[hH2];simp only[Hp.set];rw[if_neg (by omega)]
  have k4:H2 nx1=some (.arr .leaf [.ptr cb (.agg 4) 0 0]):=by rw[hH2];simp only[Hp.set,if_true]
  have hdH:aT H2 nx3:=by rw[hH2];exact dmo hdm
  have hcH:=hc3.keep hdm hkH
  rw[←hH2]
  clear hH2
  have hm3n:m3<nx1:=hdm _ _ hc3.mp
  have hcbn:cb<nx1:=by omega
  have hbase:hZ (((Hp.none.set nx1 (.arr .leaf [.ptr cb (.agg 4) 0 0])).set cb (.arr (.agg 4) [qU P (wys o2 ws) (.sl .leaf ot (mG n l n)) m3])).set m3 (.mp (l3.map CE.me) c3)) cb m3 P (wys o2 ws) (.sl .leaf ot (mG n l n)) l3 c3:=by
   have hne:cb≠m3:=fun e=>by have h1:=hc3.cell;have h2:=hc3.mp;rw[e,h2] at h1;cases h1
   exact⟨by simp[Hp.set,hne],by simp[Hp.set],hc3.wf,hc3.lf⟩
  have hhas:∀h,Hp.same nx3 H2 h→Hp.has (((Hp.none.set nx1 (.arr .leaf [.ptr cb (.agg 4) 0 0])).set cb (.arr (.agg 4) [qU P (wys o2 ws) (.sl .leaf ot (mG n l n)) m3])).set m3 (.mp (l3.map CE.me) c3)) h:=fun h hj q k e _=>by
   simp only[Hp.set] at e
   by_cases e1:q=m3
   ·rw[if_pos e1] at e;rw[←e,e1,hj _ (by omega)];exact hcH.mp
   rw[if_neg e1] at e
   by_cases e2:q=cb
   ·rw[if_pos e2] at e;rw[←e,e2,hj _ (by omega)];exact hcH.cell
   rw[if_neg e2] at e
   by_cases e3:q=nx1
   ·rw[if_pos e3] at e;rw[←e,e3,hj _ (by omega)];exact k4
   rw[if_neg e3] at e;cases e
  have hAl:(aAx (iF l3)).length=(sL (iF l3)).length:=by simp[aAx]
  refine rI (aDH nx1 _ (by simp only[Hp.set];rw[if_neg (by omega),if_neg (by omega),if_pos trivial]) hbase hst3.ok (by omega)) rfl (fun x hx=>by obtain⟨w,_,rfl⟩:=List.mem_map.1 hx;rfl) hdH (fun i h _=>Hp.same nx3 H2 h) (fun _ _ _=>False)
   (fun i h _ hI=>hhas h hI) (fun i h n1 n2 hI _=>hI) (fun i h n1 b hI=>bV hI (Nat.le_refl _) _) (fun e h n1 n2 hE _=>hE) (fun e h n1 b hE=>hE)
   Hp.same.rfl' ?_ ?_ (fun e h n hE=>hE.elim)
  ·intro i hi h nx4 X hj hnx4 hX hdm4
   dsimp only at hnx4 hX
   rw[hAl] at hi
   have hx:(aAx (iF l3))[i]'(by rw[hAl];exact hi)=[((sL (iF l3))[i]).s.v, .int .i64 ((sL (iF l3))[i]).d]:=by simp[aAx]
   have hwm:((sL (iF l3))[i]).s∈iB l3:=(aGV hst3.ok _).1 ⟨_,List.getElem_mem hi,rfl⟩
   generalize (sL (iF l3))[i]=w at*
   obtain⟨z,hz,_,hzs⟩:=(wD w.s).1 hwm
   obtain⟨w0,w1,w2⟩:=hst3.right z hz
   rw[hzs] at w0 w1 w2
   obtain⟨b,hb⟩:∃b:Nat,w.s.p=b:=⟨w.s.p.toNat,by omega⟩
   have hbn:b<n:=by omega
   have hrch:=aAM l hwm w2
   rw[show w.s.p.toNat=b by omega] at hrch
   have hwv:w.s.v= .agg [.int .i64 b, .int .i64 w.s.t.e, .int .i64 w.s.t.r]:=by rw[←hb];rfl
   have a1:(nx3=nx4)=False:=fls
   have hfw:=Sp.fits_v w.s
   rw[hwv] at hfw hx
   simp only[putAll,hx,List.set_cons_succ,List.set_cons_zero]
   refine aue (e2 hfw a1) ?_
   refine rS (by simp only[a1,go_sem,reduceIte,jA,jB,jC,jD,reduceCtorEq,jE,jF];exact hX) fun X'=>?_
   simp only[go_sem,reduceIte,jA,jB,jC,jD,reduceCtorEq,jE,jF]
   have d7:h B=some (.arr .leaf [.ptr cb (.agg 4) 0 0]):=by rw[hj _ (by omega),hkH _ (by omega)];exact p3
   have b1:(B=nx3)=False:=fls
   have b3:(nx4=nx3)=False:=fls
   have b4:B<nx4:=by omega
   have b6:(B=nx4)=False:=fls
   have hfl:=aAc l b (iB l3)
   have hal:=pS l3
   obtain⟨of,hof⟩:=mN (.agg 2) ((ofT (frT (eW l) b (iB l3))).map Tm.v)
   have D1:∀h,cM Tryz.prog 28 [.sl (.agg 2) of ((ofT (frT (eW l) b (iB l3))).map Tm.v), .agg [.int .i64 w.s.t.e, .int .i64 w.s.t.r]] h (.bool true):=fun h=>by
    have:=pU of (ofT (frT (eW l) b (iB l3))) w.s.t h (by omega)
    rw[hrch] at this;exact this
   refine aue (e6 d7 b1 b3 b4 b6 a1) ?_
   have hfr:=fun hcx=>sT (h:=((h.set nx4 (.arr (.agg 3) [.agg [.int .i64 0, .int .i64 0, .int .i64 0]])).set nx4 (.arr (.agg 3) [.agg [.int .i64 b, .int .i64 w.s.t.e, .int .i64 w.s.t.r]])).set nx3 X') (cb:=cb) (m:=m3) (c:=c3) (P:=P) (wv:=wys o2 ws) (ot:=ot) (rows:=mG n l n) (l:=l3) hcx hst3.ok hl3 (eW l) n hnP (qZ n l) hlst hin3 b hbn
   rw[hof] at hfr
   refine cT (hfr (hcH.keep (nx:=nx3) hdH fun z hz=>?_)) rfl (aS _) ?_
   ·simp only[Hp.set];rw[if_neg (by omega),if_neg (by omega),if_neg (by omega)];exact hj z hz
   simp only[go_sem,reduceIte,jA,jB,jC,jD,reduceCtorEq,jE,jF]
   refine aue (e6 d7 b1 b3 b4 b6 a1) ?_
   refine oY (by simp only[Hp.set,if_true]) (fun z hz=>?_)
   simp only[Hp.set];rw[if_neg (by omega),if_neg (by omega),if_neg (by omega)];exact hj z hz
  intro h nx4 hj hnx4 hdm4
  dsimp only at hnx4⊢
  have hkK:∀z,z<nx1→(h.del nx3) z=hp z:=fun z hz=>by unfold Hp.del;rw[if_neg (by omega),hj _ (by omega)];exact hkH z hz
  have hdK:aT (h.del nx3) nx4:=dmo hdm4
  generalize h.del nx3=K at hkK hdK⊢
  have gK:G K:=gstep (k:=nx1) g hN1 (by omega) (by omega) (by omega) (by omega) fun z hz _=>hkK z hz
  have hcK:=hc3.keep hdm hkK
  obtain⟨s1,s2,s3,s4⟩:=(hG _).1 gK
  have hN4:B<nx4:=by omega
  have v1:nx+1<nx4:=by omega
  have v2:nx+2<nx4:=by omega
  clear hj hdm4 hhas hbase hcH hdH k4 hkH
  refine aue (e2 s3 hN4) ?_
  have hf1:=rN hcK hst3.ok hl3 (eW l) n hnP (qZ n l) hlst hin3 (by omega)
  obtain⟨of1,hof1⟩:=mN .leaf (oH (eW l) (iB l3) n)
  rw[hof1] at hf1
  refine aJ hf1 rfl (aS _) ?_
  simp only[go_sem,reduceIte,jA,jB,jC,jD,reduceCtorEq,jE,jF]
  cases hneg:decide (y.d<0) with
  |true=>
   refine aue (e5 s1 s2 v1 v2 hneg) ?_
   exact fin s4 (kep Hp.same.rfl') rfl (by simp only[Hp.set,if_true])
  |false=>
  have hyd:¬y.d<0:=of_decide_eq_false hneg
  refine aue (e6 s1 s3 hN4 v1 hneg hyf) ?_
  have hkt:∀z,z<nx4→(K.set nx4 .tip) z=K z:=fun z hz=>by simp only[Hp.set];rw[if_neg (by omega)]
  refine bU ((rT (.tok nx4) [y] (by simp) l3 c3 hst3.ok P _ _ cb m3 _ _ (dmo hdK) (hcK.keep hdK hkt)).mono ?_)
  rintro v9 M9 nx9 hnx9 ⟨rfl,⟨m9,hc9,_⟩,hk9,_,hd9,_⟩
  dsimp only at hnx9 hk9
  have g9:G M9:=gstep (k:=cb) gK hN4 (by omega) (by omega) (by omega) (by omega) fun z hz hne=>by rw[hk9 _ (by omega) hne];exact hkt z hz
  obtain⟨t1,t2,t3,t4⟩:=(hG _).1 g9
  have hv:=lB (dV P l3 c3 [y]).1
  unfold gM
  simp only[go_sem,reduceIte,jA,jB,jC,jD,reduceCtorEq,jE,jF]
  by_cases he:(dV P l3 c3 [y]).1=0
  case neg=>
   rw[decide_eq_false he] at hv
   refine aue (e3 hv t2 (show nx+2<nx9 by omega)) ?_
   exact fin t4 (kep Hp.same.rfl') rfl (by simp only[Hp.set,if_true])
  case pos=>
  rw[decide_eq_true he] at hv
  have hst9:=hst3.add [y]
  have hmore:∀s,eR l3 s≤eR (dV P l3 c3 [y]).2.1 s:=fun s=>by
   rw[pR hst3 he (by simp),yV]
   split<;>omega
  have hsub:=aGU hst3.ok hst9.ok hmore
  generalize (dV P l3 c3 [y]).2.1=l9 at hc9 hst9 hsub
  generalize (dV P l3 c3 [y]).2.2=c9 at hc9 hst9
  have hl9:l9.length≤900:=by have:=hst9.len;simp at this;omega
  refine aue (e3 hv t3 (show B<nx9 by omega)) ?_
  have hf2:=rN hc9 hst9.ok hl9 (eW l) n hnP (qZ n l) hlst (fun y hy=>by have:=hst9.right y hy;omega) (by omega)
  obtain⟨of2,hof2⟩:=mN .leaf (oH (eW l) (iB l9) n)
  rw[hof2] at hf2
  refine aJ hf2 rfl (aS _) ?_
  simp only[go_sem,reduceIte,jA,jB,jC,jD,reduceCtorEq,jE,jF]
  have hln1:=aDh (eW l) (iB l3) n
  have hln2:=aDh (eW l) (iB l9) n
  refine aue (e2 hln1 hln2) ?_
  refine cI (fun i:Nat=>aD 120 0 [(6, .ptr (nx+2) .leaf 0 0),(13, .sl .leaf of1 (oH (eW l) (iB l3) n)),(14, .sl .leaf of2 (oH (eW l) (iB l9) n)),(99, .int .i64 n),(100, .int .i64 i)])
   (fun i hp1 nx1=>i≤n∧hp1=M9∧aT hp1 nx1∧nx+2<nx1) (fun i=>n-i) 0 ⟨Nat.zero_le _,rfl,hd9,by first|omega|(dsimp only;omega)⟩ (by simp only[WkL,aD,jH,jI,jJ,go_sem,reduceIte,jA,jB,jC,jD,reduceCtorEq,jE,jF]) ?_
  rintro i hp1 nx2 ⟨hi,rfl,hdm2,hn2⟩
  generalize hQ:fF _ _ _ _ _=Q0
  simp only[aD,go_sem,reduceIte,jA,jB,jC,jD,reduceCtorEq,jE,jF]
  rcases Nat.lt_or_ge i n with hlt|hge
  ·have hc1:decide ((i:Int)<(n:Int))=true:=dct
   have hc2:decide ((i:Int)≥(n:Int))=false:=dcf
   have hw1:IntKind.i64.wrap ((i:Int)+1)=((i+1:Nat):Int):=wrp
   have ha1:=aEP (eW l) (iB l3) n hlt
   have ha2:=aEP (eW l) (iB l9) n hlt
   obtain⟨ox1,hox1⟩:=mN (.agg 2) ((ofT (frT (eW l) i (iB l3))).map Tm.v)
   obtain⟨ox2,hox2⟩:=mN (.agg 2) ((ofT (frT (eW l) i (iB l9))).map Tm.v)
   rw[hox1] at ha1
   rw[hox2] at ha2
   have z1:=aAc l i (iB l3)
   have z2:=aAc l i (iB l9)
   have z3:=pS l3
   have z4:=pS l9
   have D1:∀h,cM Tryz.prog 30 [.sl (.agg 2) ox2 ((ofT (frT (eW l) i (iB l9))).map Tm.v), .sl (.agg 2) ox1 ((ofT (frT (eW l) i (iB l3))).map Tm.v)] h (.bool true):=fun h=>by
    have:=xC ox2 ox1 (ofT (frT (eW l) i (iB l9))) (ofT (frT (eW l) i (iB l3))) h (by omega) (by omega)
    rw[show(!((ofT (frT (eW l) i (iB l3))).any fun x=> !((ofT (frT (eW l) i (iB l9))).any fun y=>y.le x)))=true from aGQ (aHp _ _ hsub)] at this
    exact this
   refine aue (e9 hc1 hc2 hw1 ha1 ha2 hlt hln1 hln2 jG) ?_
   rw[←hQ]
   exact aL (i+1) (by omega) ⟨hlt,rfl,dmo hdm2,by first|omega|(dsimp only;omega)⟩ (by simp only[WkL,aD,jH,jI,jJ,go_sem,reduceIte,jA,jB,jC,jD,reduceCtorEq,jE,jF])
  have hc1:decide ((i:Int)<(n:Int))=false:=dcf
  refine aue hc1 ?_
  rw[←hQ]
  refine aue (e2 t2 hn2) ?_
  exact fin t4 (kep Hp.same.rfl') rfl (by simp only[Hp.set,if_true])
set_option maxRecDepth 100000 in
theorem xA(os:Os)(started:os.Started)(H:Type)(enc:TypeId×Value→H):
 ReturnsInHanded {} Tryz.checked os 5 .any (Rows.countLawsSpec.pre6 enc Tryz.prog Tryz.f5 Rows.countLawsRow.domain false) (Rows.countLawsSpec.post enc Tryz.prog Tryz.f5 false true false false):=by
 refine zS (C:=Tryz.checked) (tb:=4) own started (by kernel_rfl) Tryz.func5
  (ChangeSpec.witness6 (enc:=enc) (C:=Tryz.checked) false ⟨#[],#[.agg #[.int .i64 0, .slice none 0 0], .slice none 0 0, .agg #[.int .i64 0, .int .i64 0, .int .i64 0, .int .i64 0]],[]⟩ 8 (by kernel_rfl) (by kernel_rfl) (by kernel_rfl) (by kernel_rfl))
  rfl (fun ds hds=>by match ds,hds with| [_,_,_],_=>rfl) rfl Tryz.underlying4 aEN (fun t ht=>?_) ?_
 ·simp only[Tryz.params5,List.mem_cons,List.not_mem_nil,or_false] at ht
  rcases ht with rfl|rfl|rfl<;>exact⟨by kernel_rfl,of_decide_eq_true (by kernel_rfl)⟩
 intro W base args ds p hval hA _ _
 refine vS (P:=Tryz.prog) (congrArg Array.toList Tryz.params5) (by kernel_rfl) (fun xs hxs=>?_) W base args ds p hval hA
 match xs,hxs with
 | [x0,x1,x2],⟨h0,h1,h2,_⟩=>
  obtain⟨o,P,ws,rfl,hn⟩:=aDC (by kernel_rfl) (by kernel_rfl) h0
  obtain⟨ox,r,rfl⟩:=aEU (by kernel_rfl) (by kernel_rfl) h1
  obtain⟨y,rfl⟩:=aId (by kernel_rfl) (by kernel_rfl) h2
  exact aAO o ox P ws hn r y
theorem countLaws_holds:Rows.CountLawsSaid:=
 OpenClaim.holds_of_wide 5 Tryz.f5 rfl rfl rfl rfl rfl rfl rfl ⟨rfl,rfl,rfl,rfl,rfl⟩ rfl rfl rfl rfl rfl (by kernel_rfl) Tryz.func5 (by kernel_rfl)
  (of_decide_eq_true (by kernel_rfl)) (by unfold Func.isWrapper;first|(rw[if_pos (by decide+kernel)];kernel_rfl)|(rw[if_neg (by decide+kernel)];exact⟨rfl,rfl⟩))
  (fun os started H enc _=>xA os started H enc)
end Go.Proofs.YthikfnmcjipobaaGreat
