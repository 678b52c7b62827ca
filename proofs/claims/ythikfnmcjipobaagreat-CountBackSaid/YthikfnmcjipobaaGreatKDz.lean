/-
corollarylaw23.CountBack returns true for every input,and leaves its arguments as they were. Conditions:none.
-/
import Derived.Test.YthikfnmcjipobaaGreatKr
namespace Go.Proofs.YthikfnmcjipobaaGreat
open Nat renaming reduceAdd→jA,reduceSub→jB,reduceLT→jC,reduceLeDiff→jD,reduceEqDiff→jE
open Int renaming reduceToNat→jF,toNat_natCast→jG,natCast_add→jH,natCast_one→jI,natCast_zero→jJ
open List renaming length_map→jK,length_cons→jL,length_nil→jM,replicate_succ→jN,replicate_zero→jO,cons_append→jP,nil_append→jQ
set_option linter.unusedSimpArgs false
set_option linter.unusedVariables false
set_option linter.unusedSectionVars false
open Go.ChangeShapes Go.WideShapes Go.ChangeAt Go.RowKit Go.Sort
attribute [local irreducible] IntKind.wrap
attribute [local go_sem] Option.some.injEq Prod.mk.injEq false_and and_false Bool.true_eq_false mP jR jX gG iV if_true Bool.true_and mF dS iH gL dQ aA.ok aA.next LOp.ok LOp.next bC.ok bC.out aQ.ev bN iI cH bO cO V.undef Sh.size gH fW cK aA.dok aA.dres LOp.dok LOp.dout lI iD gI eX List.take_succ_cons List.take_zero List.take_nil List.drop_succ_cons List.drop_zero List.drop_nil List.set_cons_succ List.set_cons_zero List.getD_cons_succ List.getD_cons_zero jL jM List.map_cons List.map_nil List.all_cons List.all_nil List.mem_cons List.not_mem_nil jN jO jP jQ List.append_nil List.isEmpty_cons List.isEmpty_nil dW fJ hM Option.getD_some Option.isSome_some Option.isSome_none Nat.add_eq Nat.zero_add Nat.add_zero true_and and_true and_self true_implies implies_true false_implies forall_const forall_eq forall_eq_or_imp ne_eq not_false_eq_true not_true_eq_false Bool.not_true Bool.not_false decide_true decide_false Bool.and_true Bool.true_and Bool.and_false Bool.false_and true_or or_true false_or or_false eq_self Bool.false_eq_true mK iO gC aD fH eT eB dU cL dT aZ aX dN jG Int.toNat_zero List.take_length Hp.set_app Hp.del_app gW fV aA.plain LOp.isCall aA.dplain LOp.isStop eM kT gY lY fN V.gd_true V.gd_false fM eK eL fL bG aY aU fK eS beq_true beq_false dD dE dF cB cC bH bI cP eQ cE dK dH bJ dI dL eN eO bK dJ bF cD eP bP dG bQ bB gQ gO gP gN dM cG dX cR eG eF eE eD eC bX bW cZ cY cX cA bZ bY eJ eI eH dC dB dA cQ cF bS kM Hp.turn fT Option.isNone_some Option.isNone_none oL gF fO aA.plain2 LOp.isApp oM lP lQ iQ fS fR
set_option maxRecDepth 100000 in
set_option maxHeartbeats 8000000 in
theorem aAP(o ox:Own)(P:Int)(ws:List Wy)(hn:o= .nil→ws=[])(r:List Cg):cM Tryz.prog 4 [mps o P ws,cgs ox r] Hp.none (.bool true):=by
 have hmf:(mps o P ws).fits (.agg 2)=true:=by simp[mps,V.fits,V.leafy,wys]
 refine bL (fun L=>trivial) fun h' nx hh=>aG L.corollarylaw23_CountBack_low fun hd=>?_
 simp only[jL,jM,jA,jB,jN,jO,jP,jQ,V.undef,cgs]
 have C1:=fun h=>wC h
 have C2:=fun h=>zT o P ws h
 cases hL:wT P ws with
 |true=>
  rw[hL] at C2
  refine aue hmf ?_
  exact aM h' (leo hd) ⟨rfl,rfl⟩
 |false=>
 rw[hL] at C2
 have hl:=aBr hL
 by_cases hlen:20<r.length
 ·have hc:decide ((r.length:Int)>20)=true:=dct
  refine aue (e3 hmf hc (@jK Cg V)) ?_
  exact aM h' (leo hd) ⟨rfl,rfl⟩
 have hc:decide ((r.length:Int)>20)=false:=dcf
 cases hR:nX P ws with
 |false=>
  have C3:=fun h=>aEI o hR (by omega) h
  have hv:veq (.iface true) (nL 2) .nilIface=some false:=by rw[lB];simp
  refine aue (e4 hmf hc (@jK Cg V) hv) ?_
  exact aM h' (leo hd) ⟨rfl,rfl⟩
 |true=>
 obtain⟨n,l,R⟩:=(nW P ws).1 hR
 refine aue (e3 hmf hc (@jK Cg V)) ?_
 clear C1 C2
 refine bU ((aDY o R (by omega) hn _ _).mono ?_)
 rintro v5 M5 nx5 hnx5 ⟨cb,m,o2,ot,rfl,hcb,hm,hcnt,hk5,hd5,_⟩
 dsimp only at hcb hm hnx5 hk5
 have hs5:Hp.same nx h' M5:=fun y hy=>by rw[hk5 _ (by omega)];simp only[Hp.set];rw[if_neg (by omega)]
 unfold gM
 simp only[go_sem,reduceIte,jA,jB,jC,jD,reduceCtorEq,jE,jF]
 refine au ?_
 have hst:=aEC P 0
 refine bU ((rT ox r (by omega) [] 0 (mU 0) P _ _ cb m _ _ hd5 hcnt).mono ?_)
 rintro v7 M7 nx7 hnx7 ⟨rfl,⟨m3,hcnt3,hm3⟩,hk7,_,hd7,_⟩
 try dsimp only at hnx7 hk7 hm3
 have hs7:Hp.same nx h' M7:=fun y hy=>by rw[hk7 _ (by omega) (by omega)];exact hs5 y hy
 have hv:=lB (dV P [] 0 r).1
 have hst3:=hst.add r
 unfold gM
 simp only[go_sem,reduceIte,jA,jB,jC,jD,reduceCtorEq,jE,jF]
 by_cases he:(dV P [] 0 r).1=0
 case neg=>
  rw[decide_eq_false he] at hv
  rw[xF he] at hcnt3
  refine aue hv ?_
  refine aJ (tC hcnt3) rfl (aS _) ?_
  simp only[go_sem,reduceIte,jA,jB,jC,jD,reduceCtorEq,jE,jF]
  refine au ?_
  exact aM h' (hs7.le hd (Hp.le_refl _)) ⟨rfl,rfl⟩
 case pos=>
 rw[decide_eq_true he] at hv
 have hg3:∀s,eR (dV P [] 0 r).2.1 s=mJ r s:=fun s=>by
  rw[pR hst he (by omega)]
  simp[eR]
 have hsm:=(tU he).2.1
 have hm3x:nx≤m3:=by rcases hm3 with h|h<;>omega
 generalize (dV P [] 0 r).2.1=l3 at hcnt3 hst3 hg3
 generalize (dV P [] 0 r).2.2=c3 at hcnt3 hst3
 clear hm3 hk7 hs5 hk5 hcnt he
 have hw0:IntKind.i64.wrap ((r.length:Int)-1)=(r.length:Int)-1:=wrp
 refine aue (e3 hv hw0 (@jK Cg V)) ?_
 --the contraries,one by one from the last
 refine cI (fun q:Nat×List CE×Nat×Nat=>aD 79 0 [(1,cgs ox r),(5, .ptr cb (.agg 4) 0 0),(7, .int .i64 ((q.1:Int)-1))])
  (fun q hp nx1=>q.1≤r.length∧nx5≤nx1∧aT hp nx1∧Hp.same nx h' hp∧hZ hp cb q.2.2.2 P (wys o2 ws) (.sl .leaf ot (mG n l n)) q.2.1 q.2.2.1∧StC P q.2.1 q.2.2.1 (40-q.1)∧(∀s,eR q.2.1 s=mJ r s-mJ (r.drop q.1) s)∧nx≤q.2.2.2)
  (fun q=>q.1) (r.length,l3,c3,m3) ⟨Nat.le_refl _,by first|omega|(dsimp only;omega),hd7,hs7,hcnt3,hst3.up (by dsimp only;omega),fun s=>by rw[hg3,List.drop_length];simp[mJ],hm3x⟩ (by simp only[WkL,aD,jH,jI,jJ,cgs,go_sem,reduceIte,jA,jB,jC,jD,reduceCtorEq,jE,jF]) ?_
 clear hm3x hg3 hst3 hcnt3 hs7 hd7 hnx7 hv
 rintro⟨i,l4,c4,m4⟩ hp nx1 ⟨hi,hnx,hdm,hs,hc4,hst4,hg4,hm4⟩
 generalize hQ:fF _ _ _ _ _=Q0
 dsimp only at hi hc4 hst4 hg4 hm4
 simp only[aD,cgs,go_sem,reduceIte,jA,jB,jC,jD,reduceCtorEq,jE,jF]
 rcases Nat.eq_zero_or_pos i with rfl|hpos
 case inr=>
  obtain⟨j,rfl⟩:∃j,i=j+1:=⟨i-1,by omega⟩
  have hlt:j<r.length:=by omega
  have hji:(((j+1:Nat):Int)-1)=(j:Int):=by omega
  rw[hji]
  have hc1:decide ((j:Int)≥0)=true:=dct
  have hw1:IntKind.i64.wrap ((j:Int)-1)=(j:Int)-1:=wrp
  have hg:=aGP r j hlt
  have hx:=(pE _).1 (hsm r[j] (List.getElem_mem _))
  have hw2:IntKind.i64.wrap (0-r[j].d)=-r[j].d:=wrp
  have hdr:=fun s=>aBb r s hlt
  generalize hxx:r[j]=x at hg hw2 hdr hx
  refine aue (e6 hc1 hlt hg hw2 (@jK Cg V) jG) ?_
  refine bU ((rT (.tok (nx1+3)) [⟨x.s,-x.d⟩] (by simp) l4 c4 hst4.ok P _ _ cb m4 _ _ ?_ (hc4.keep hdm ?_)).mono ?_)
  ·exact dmo hdm
  ·intro y hy
   simp only[Hp.set]
   repeat rw[if_neg (by omega)]
  rintro v6 M6 nx6 hnx6 ⟨rfl,⟨m6,hc6,hm6⟩,hk6,_,hd6,_⟩
  dsimp only at hnx6 hk6 hm6
  have hs6:Hp.same nx h' M6:=fun y hy=>by
   rw[hk6 _ (by omega) (by omega)]
   simp only[Hp.set]
   repeat rw[if_neg (by omega)]
   exact hs y hy
  have hv:=lB (dV P l4 c4 [⟨x.s,-x.d⟩]).1
  unfold gM
  simp only[go_sem,reduceIte,jA,jB,jC,jD,reduceCtorEq,jE,jF]
  by_cases he:(dV P l4 c4 [⟨x.s,-x.d⟩]).1=0
  case neg=>
   rw[decide_eq_false he] at hv
   refine aue hv ?_
   rw[←hQ]
   refine au ?_
   exact aM h' (hs6.le hd (Hp.le_refl _)) ⟨rfl,rfl⟩
  case pos=>
   rw[decide_eq_true he] at hv
   have hg6:∀s,eR (dV P l4 c4 [⟨x.s,-x.d⟩]).2.1 s=mJ r s-mJ (r.drop j) s:=fun s=>by
    rw[pR hst4 he (by simp),hg4,yV,hdr]
    dsimp only
    split<;>omega
   refine aue (e2 hv hw1) ?_
   rw[←hQ]
   exact aL (j,(dV P l4 c4 [⟨x.s,-x.d⟩]).2.1,(dV P l4 c4 [⟨x.s,-x.d⟩]).2.2,m6) (by dsimp only;omega) ⟨by first|omega|(dsimp only;omega),by first|omega|(dsimp only;omega),hd6,hs6,hc6,(hst4.add _).up (by simp;omega),hg6,by(try dsimp only);rcases hm6 with h|h<;>omega⟩ (by simp only[WkL,aD,jH,jI,jJ,cgs,go_sem,reduceIte,jA,jB,jC,jD,reduceCtorEq,jE,jF])
 case inl=>
  have h0:∀s,eR l4 s=0:=fun s=>by rw[hg4];simp
  have hnil:=aEa hst4.ok h0
  subst hnil
  have hc1:decide ((((0:Nat):Int)-1)≥0)=false:=by decide
  refine aue hc1 ?_
  rw[←hQ]
  clear hQ Q0
  refine au ?_
  have hnP:=R.pl
  have hn200:=R.le
  have hfr:=rN hc4 (mU c4) (by simp) (eW l) n hnP (qZ n l) (fun a b=>by have:=qD l a b;omega) (fun y hy=>by cases hy) (by omega)
  obtain⟨of,hof⟩:=mN .leaf (oH (eW l) (iB []) n)
  rw[hof,show iB []=[] from rfl,aGC] at hfr
  refine aJ hfr rfl (aS _) ?_
  simp only[go_sem,reduceIte,jA,jB,jC,jD,reduceCtorEq,jE,jF]
  refine aue (@List.length_replicate V) ?_
  refine cI (fun i:Nat=>aD 79 0 [(1,cgs ox r),(5, .ptr cb (.agg 4) 0 0),(56, .sl .leaf of (List.replicate n (.sl (.agg 2) .nil []))),(57, .int .i64 n),(58, .int .i64 i)])
   (fun i hp1 nx1=>i≤n∧hp1=hp∧aT hp nx1∧nx≤nx1) (fun i=>n-i) 0 ⟨Nat.zero_le _,rfl,dmo hdm,by first|omega|(dsimp only;omega)⟩ (by simp only[WkL,aD,jH,jI,jJ,cgs,go_sem,reduceIte,jA,jB,jC,jD,reduceCtorEq,jE,jF]) ?_
  clear hdm
  rintro i hp1 nx2 ⟨hi,rfl,hdm,hn2⟩
  generalize hQ:fF _ _ _ _ _=Q0
  simp only[aD,cgs,go_sem,reduceIte,jA,jB,jC,jD,reduceCtorEq,jE,jF]
  rcases Nat.lt_or_ge i n with hlt|hge
  ·have hc1:decide ((i:Int)<(n:Int))=true:=dct
   have hw1:IntKind.i64.wrap ((i:Int)+1)=((i+1:Nat):Int):=wrp
   have hg:(List.replicate n (V.sl (.agg 2) .nil [])).getD i (.tup [])= .sl (.agg 2) .nil []:=by
    rw[List.getD_eq_getElem?_getD,List.getElem?_eq_getElem (by simpa using hlt)];simp
   have hz:decide (((0:Nat):Int)>0)=false:=by decide
   refine aue (e7 hc1 hw1 hg hlt hz (@List.length_replicate V) jG) ?_
   rw[←hQ]
   exact aL (i+1) (by omega) ⟨hlt,rfl,dmo hdm,by first|omega|(dsimp only;omega)⟩ (by simp only[WkL,aD,jH,jI,jJ,cgs,go_sem,reduceIte,jA,jB,jC,jD,reduceCtorEq,jE,jF])
  have hc1:decide ((i:Int)<(n:Int))=false:=dcf
  refine aue hc1 ?_
  rw[←hQ]
  refine au ?_
  refine aJ (tC hc4) rfl (aS _) ?_
  obtain⟨on,hon⟩:=mN (.agg 4) ((mZ r).map Cg.v)
  have C1:∀h,cM Tryz.prog 25 [.sl (.agg 4) ox (r.map Cg.v)] h (.sl (.agg 4) on ((mZ r).map Cg.v)):=fun h=>by
   have:=aAQ ox r (by omega) hsm h
   rw[hon] at this;exact this
  have C2:∀(h:Hp) {ow:Own},cM Tryz.prog 15 [.sl (.agg 4) ow (r.map Cg.v++(mZ r).map Cg.v)] h (.sl (.agg 4) .nil []):=fun h ow=>by
   have:=aFP ow (r++mZ r) (by simp[mZ];omega) h
   rw[aGf hsm (by omega)] at this
   rw[←List.map_append];exact this
  have hz:(((0:Nat):Int)==0)=true:=by decide
  have hnl:(mZ r).length=r.length:=by simp[mZ]
  simp only[go_sem,reduceIte,jA,jB,jC,jD,reduceCtorEq,jE,jF]
  refine aue (e4 hz (@jK Cg V) hnl (@List.length_append V)) ?_
  refine aM h' (lef hd (hs.le hd (Hp.le_refl _))) ⟨rfl,rfl⟩
set_option maxRecDepth 100000 in
theorem xB(os:Os)(started:os.Started)(H:Type)(enc:TypeId×Value→H):
 ReturnsInHanded {} Tryz.checked os 4 .any (Rows.countBackSpec.pre6 enc Tryz.prog Tryz.f4 Rows.countBackRow.domain false) (Rows.countBackSpec.post enc Tryz.prog Tryz.f4 false true false false):=by
 refine zS (C:=Tryz.checked) (tb:=4) own started (by kernel_rfl) Tryz.func4
  (ChangeSpec.witness6 (enc:=enc) (C:=Tryz.checked) false ⟨#[],#[.agg #[.int .i64 0, .slice none 0 0], .slice none 0 0],[]⟩ 8 (by kernel_rfl) (by kernel_rfl) (by kernel_rfl) (by kernel_rfl))
  rfl (fun ds hds=>by match ds,hds with| [_,_],_=>rfl) rfl Tryz.underlying4 aEN (fun t ht=>?_) ?_
 ·simp only[Tryz.params4,List.mem_cons,List.not_mem_nil,or_false] at ht
  rcases ht with rfl|rfl<;>exact⟨by kernel_rfl,of_decide_eq_true (by kernel_rfl)⟩
 intro W base args ds p hval hA _ _
 refine vS (P:=Tryz.prog) (congrArg Array.toList Tryz.params4) (by kernel_rfl) (fun xs hxs=>?_) W base args ds p hval hA
 match xs,hxs with
 | [x0,x1],⟨h0,h1,_⟩=>
  obtain⟨o,P,ws,rfl,hn⟩:=aDC (by kernel_rfl) (by kernel_rfl) h0
  obtain⟨ox,r,rfl⟩:=aEU (by kernel_rfl) (by kernel_rfl) h1
  exact aAP o ox P ws hn r
theorem countBack_holds:Rows.CountBackSaid:=
 OpenClaim.holds_of_wide 4 Tryz.f4 rfl rfl rfl rfl rfl rfl rfl ⟨rfl,rfl,rfl,rfl,rfl⟩ rfl rfl rfl rfl rfl (by kernel_rfl) Tryz.func4 (by kernel_rfl)
  (of_decide_eq_true (by kernel_rfl)) (by unfold Func.isWrapper;first|(rw[if_pos (by decide+kernel)];kernel_rfl)|(rw[if_neg (by decide+kernel)];exact⟨rfl,rfl⟩))
  (fun os started H enc _=>xB os started H enc)
end Go.Proofs.YthikfnmcjipobaaGreat
