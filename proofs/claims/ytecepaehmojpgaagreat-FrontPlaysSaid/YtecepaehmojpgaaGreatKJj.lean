/-
corollarylaw24.FrontPlays:the walk. Conditions:none.
-/
import Derived.Test.YtecepaehmojpgaaGreatKd
import Derived.Test.YtecepaehmojpgaaGreatKw
open Nat renaming le_refl→Ka
open Nat renaming reduceAdd→jA,reduceSub→jB,reduceLT→jC,reduceLeDiff→jD,reduceEqDiff→jE
open Int renaming reduceToNat→jF,natCast_add→jH,natCast_one→jI,natCast_zero→jJ
open List renaming length_map→jK,length_cons→jL,length_nil→jM,replicate_succ→jN,replicate_zero→jO,cons_append→jP,nil_append→jQ
set_option linter.unusedSimpArgs false
set_option linter.unusedVariables false
set_option linter.unusedSectionVars false
set_option maxHeartbeats 8000000
namespace Go.Proofs.YtecepaehmojpgaaGreat
open Go.ChangeShapes Go.WideShapes Go.ChangeAt Go.RowKit Go.Sort
attribute [local irreducible] IntKind.wrap
set_option maxRecDepth 100000 in
set_option maxHeartbeats 8000000 in
theorem iu(o ob os:Own)(P:Int)(ws:List Wy)(hn:o= .nil→ws=[])(bg:List Sp)(sc:List Act):aY Tryz.prog 6 [mps o P ws, .sl (.agg 3) ob (bg.map Sp.v), .sl (.agg 7) os (sc.map Act.v)] Hp.none (.bool true):=by
 have hmf:(mps o P ws).fits (.agg 2)=true:=by simp[mps,V.fits,V.aAD,wys]
 refine aR (fun L=>trivial) fun h' nx hh=>aF L.g0z fun hd=>?_;simp only[jL,jM,jA,jB,jN,jO,jP,jQ,V.undef];have hd:aI h' nx:=hd;have C1:=fun h=>sq h;have C2:=fun h=>rp o ob os P ws bg sc h;cases hL:mM P ws bg sc with
 |true=>
  rw[hL] at C2;refine aue hmf ?_;exact aG h' (leo hd) ⟨rfl,rfl⟩
 |false=>
 rw[hL] at C2;obtain⟨b1,b2,b3,b4⟩:=Ao hL;have K4:=fun h=>By o P ws or h;have K5:=fun h=>ap ob bg or h;rw[lM] at K5;have K6:=fun h=>um (cO ws) (cO bg) (D8 ws) P ws or 3 or bg or h;have aNy:(mps (cO ws) P ws).fits (.agg 2)=true:=by simp[mps,V.fits,V.aAD,wys]
 cases hR:gI P ws with
 |false=>
  have C3:=fun h=>DI o hR or (.int .i64 3) (.sl (.agg 3) ob (bg.map Sp.v)) h;have C4:=K4;refine aue hmf ?_;clear C1 C2 C3 C4;have C1:=K5;have C2:=K6;have C3:=fun h=>xG 2 h;have e1:rI (cO ws) P ws 3 bg=dw0:=by unfold rI;rw[if_neg];rw[hR];simp
  have e2:wW P ws bg=2:=by unfold wW;rw[hR];rfl
  rw[e1,e2] at C2;clear e1 e2;have hdf:dw0.fits (.agg 5)=true:=rfl;have q1:((2:Int) != 2)=false:=rfl;have q2:((2:Int) != 0)=true:=rfl;have q3:((2:Int)==2)=true:=rfl;refine aue (e6 hmf aNy hdf q1 q2 q3) ?_;exact aG h' (leo hd) ⟨rfl,rfl⟩
 |true=>
 obtain⟨n,l,R⟩:=(lK P ws).1 hR;refine aue hmf ?_;clear C1 C2;generalize hH:Hp.set _ _ _=A;have hkA:∀x,x<nx→A x=h' x:=by rw[←hH];exact kep Hp.same.aBG
 have a0:A nx=some (.arr (.agg 2) [mps o P ws]):=by rw[←hH];simp only[Hp.set,if_true]
 clear hH;refine bN ((Bm o R or hn 3 or ob bg or _ _).mono ?_);obtain⟨s1,s2⟩:=Scr.start P ws 3 bg or;have hE:wW P ws bg=(aV P [] 0 (bX bg 1)).1:=by unfold wW;rw[if_pos hR,s1]
 rw[hE] at K6;rintro v M nxM aGC ⟨_,hdM,hkM,(⟨hne,rfl⟩|⟨he,wb,nb,tb,vo,vs,o2,oc,ot,rfl,hvs,hwb,hW⟩)⟩
 ·try dsimp only at aGC hkM
  have hle:h'.le M:=fun x b hx=>by
   have:=hd x b hx;rw[hkM x or,hkA x or];exact hx
  have m0:M nx=some (.arr (.agg 2) [mps o P ws]):=by rw[hkM nx or];exact a0
  have n0:nx<nxM:=or;have C1:=K4;have C2:=K5;have C3:=fun h=>K6 h;have C4:=fun h=>xG (aV P [] 0 (bX bg 1)).1 h;have e1:rI (cO ws) P ws 3 bg=dw0:=by unfold rI;rw[if_neg];rw[s1];exact fun h=>hne h.2
  rw[e1] at C3;have hdf:dw0.fits (.agg 5)=true:=rfl;have q1:((aV P [] 0 (bX bg 1)).1 != (aV P [] 0 (bX bg 1)).1)=false:=bne_self_eq_false _;have q2:((aV P [] 0 (bX bg 1)).1 != 0)=true:=by simpa using hne
  have q3:((aV P [] 0 (bX bg 1)).1==(aV P [] 0 (bX bg 1)).1)=true:=beq_self_eq_true _;unfold dM;refine Zn ?_;refine aue (e8 hmf aNy m0 n0 hdf q1 q2 q3) ?_;exact aG h' (Hp.le_trans hle (leo hdM)) ⟨rfl,rfl⟩
 try dsimp only at aGC hkM hwb
 have m0:M nx=some (.arr (.agg 2) [mps o P ws]):=by rw[hkM nx or];exact a0
 have n0:nx<nxM:=or;have C1:=K4;have C2:=K5;have C3:=fun h=>K6 h;have C4:∀h,aY Tryz.prog 25 [.nilIface] h (.int .i64 0):=fun h=>xG 0 h;have e1:rI (cO ws) P ws 3 bg=(fj P ws 3 bg).v (cO ws) .nil:=by unfold rI;rw[if_pos ⟨hR,by rw[s1];exact he⟩]
 rw[e1,he] at C3;clear K4 K5 K6 e1;unfold dM;refine Zn ?_;have hdf:((fj P ws 3 bg).v (cO ws) .nil).fits (.agg 5)=true:=rfl;have q1:((0:Int) != 0)=false:=rfl;generalize hP2:aZ.seq (.ops L.aHi) _=P2;refine aue (e6 hmf aNy m0 n0 hdf q1) ?_;clear C1 C2 C3 C4 hmf aNy;generalize hH:Hp.set (Hp.set _ _ _) _ _=A3;have a3:A3 nxM=some (.arr (.agg 5) [(fj P ws 3 bg).v (cO ws) .nil]):=by rw[←hH];simp only[Hp.set,if_true]
 have hk3:∀x,x<nxM→A3 x=M x:=by rw[←hH];exact fun x hx=>by simp only[Hp.set];rw[if_neg or,if_neg or]
 have hd3:aI A3 (nxM+2):=by rw[←hH];exact dmo hdM
 clear hH;have aGT:∀B:Hp,(∀x,x<nx+1→B x=A3 x)→h'.le B:=fun B hB x b hx=>by
  have:=hd x b hx;rw[hB x or,hk3 x or,hkM x or,hkA x or];exact hx
 have hW3:WI (nx+1) A3 (nxM+2) wb nb tb vo vs P (wys o2 ws) (.sl .leaf oc (eK n l n)) ot (eK n l n) _ _:=hW.aBB hk3 hd3;have hLI:=LI.start l 3 b2 he;rw[←hvs] at hLI;have s2:Scr P ws vs.length 0 (fun _=>(aV P [] 0 (bX bg 1)).2) (fun _ _=>[]) (fj P ws 3 bg):=by rw[hvs];exact s2
 generalize hC:nW (lwp Tryz.prog _) (iB _ _)=QC
 have aA9:∀(D:Hp) (nxD:Nat) (sl:List V) (k:Nat) (S:Nat→CS) (Q:Int→Int→List Nt) (x:DW) (om oN:Own),k≤100→nxM+2≤nxD→(∀x,x<nx+1→D x=A3 x)→D nxM=some (.arr (.agg 5) [DW.v om oN x])→WI (nx+1) D nxD wb nb tb vo vs P (wys o2 ws) (.sl .leaf oc (eK n l n)) ot (eK n l n) S Q→LI l P vs.length k S Q→Scr P ws vs.length k S Q x→
  WkL sl (aB 167 0 [(1, .sl (.agg 3) ob (bg.map Sp.v)),(2, .sl (.agg 7) os (sc.map Act.v)),(7, .ptr wb (.agg 4) 0 0),(9, .ptr nxM (.agg 5) 0 0)])→QC .normal ⟨sl,D,nxD⟩:=fun D nxD sl k S Q x om oN h0 h1 h2 h3 h4 h5 h6 hw=>by
  rw[←hC];refine fT ⟨_,D,nxD⟩ ⟨hw,Hp.le_refl _,Ka _⟩ ?_;rw[←hP2];generalize hP3:aZ.seq (.seq (.ops L.aFn) _) _=P3;simp only[aB,go_sem,reduceIte,jA,jB,jC,jD,reduceCtorEq,jE,jF];have C5:=AL ob os bg sc or or b4 D;rw[lM] at C5;refine stp ?_;generalize hC2:nW (lwp Tryz.prog _) (iB _ _)=QC2;refine au ?_;rw[←hC2];refine fT ⟨aB 167 0 [(7, .ptr wb (.agg 4) 0 0),(9, .ptr nxM (.agg 5) 0 0),(15,cgs (cO (kL bg sc)) (kL bg sc))],D,nxD⟩ (kM (by simp only[WkL,aB,jH,jI,jJ,cgs,go_sem,reduceIte,jA,jB,jC,jD,reduceCtorEq,jE,jF]) (Hp.le_refl _) ZN) ?_;rw[←hP3];refine u7 h4 h5 h6 hvs h3 ?_ h0 fun B hBB=>aGT B fun y hy=>by rw[hBB y or];exact h2 y hy
  unfold kL iC;have e1:=yk sc b4;rw[List.length_append,jK];omega
 clear hC hP2 P2
 refine aO (fun k:Nat=>aB 167 0 [(1, .sl (.agg 3) ob (bg.map Sp.v)),(2, .sl (.agg 7) os (sc.map Act.v)),(6, .bool false),(7, .ptr wb (.agg 4) 0 0),(9, .ptr nxM (.agg 5) 0 0),(54, .sl (.agg 7) os (sc.map Act.v)),(55, .int .i64 sc.length),(56, .int .i64 k)])
  (fun k hp nx1=>k≤sc.length∧nxM+2≤nx1∧(∀x,x<nx+1→hp x=A3 x)∧∃S Q x om oN,(om= .nil∨om= .free)∧(oN= .nil∨oN= .free)∧hp nxM=some (.arr (.agg 5) [DW.v om oN x])∧WI (nx+1) hp nx1 wb nb tb vo vs P (wys o2 ws) (.sl .leaf oc (eK n l n)) ot (eK n l n) S Q∧LI l P vs.length k S Q∧Scr P ws vs.length k S Q x)
  (fun k=>sc.length-k) 0 ⟨Nat.zero_le _,ZN,fun _ _=>rfl,_,_,_,_,_,D8 ws, .inl rfl,a3,hW3,hLI,s2⟩ (by simp only[WkL,aB,jH,jI,jJ,jK,go_sem,reduceIte,jA,jB,jC,jD,reduceCtorEq,jE,jF]) ?_
 rintro k hp nx1 ⟨hk,hnx,hsm,S,Q,x,om,oN,hom,hoN,hB,HW,HL,HS⟩;generalize hQ:bH _ _ _ _ _=Q0;simp only[aB,go_sem,reduceIte,jA,jB,jC,jD,reduceCtorEq,jE,jF];rcases Nat.lt_or_ge k sc.length with hlt|hge;case inr=>
  have hc1:decide ((k:Int)<(sc.length:Int))=false:=dcf;refine aue hc1 ?_;rw[←hQ];refine au ?_;exact aA9 hp _ _ k S Q x om oN or ZN hsm hB (HW.aBB (fun _ _=>rfl) (HW.dom.up ZN)) HL HS (wkl trivial)
 have hc1:decide ((k:Int)<(sc.length:Int))=true:=dct;have hw1:IntKind.i64.wrap ((k:Int)+1)=((k+1:Nat):Int):=wrp;obtain⟨y,hy⟩:∃y,y=sc[k]:=⟨_,rfl⟩;have hg:(sc.map Act.v).getD k (.tup [])= .agg [.bool y.dl, .int .i64 y.a, .int .i64 y.b, .int .i64 y.aAS.p, .int .i64 y.aAS.t.e, .int .i64 y.aAS.t.r, .sl (.agg 3) y.o (y.made.map Sp.v)]:=by rw[hy];exact bY Act.v _ sc k hlt
 have hy6:y.made.length≤6:=by rw[hy];exact b4 _ (List.getElem_mem hlt)
 clear hy;unfold L.aNj;generalize hD:aZ.cond (.slot 61) _ _=DC;generalize hD2:aZ.draw 19 _ _=DC2;refine aue (e4 hc1 hg hlt (@jK Act V)) ?_;obtain⟨dl,i,j,aAS,ow,made⟩:=y;dsimp only at hy6⊢;generalize hH:Hp.set _ _ _=A2;have a1:A2 nx1=some (.arr (.agg 7) [.agg [.bool dl, .int .i64 i, .int .i64 j, .int .i64 aAS.p, .int .i64 aAS.t.e, .int .i64 aAS.t.r, .sl (.agg 3) ow (made.map Sp.v)]]):=by rw[←hH];simp only[Hp.set,if_true]
 have hk2:∀x,x<nx1→A2 x=hp x:=fun x hx=>by rw[←hH];simp only[Hp.set];rw[if_neg or,if_neg or]
 have HA:WI (nx+1) A2 (nx1+2) wb nb tb vo vs P (wys o2 ws) (.sl .leaf oc (eK n l n)) ot (eK n l n) S Q:=HW.aBB hk2 (by rw[←hH];exact dmo HW.dom);clear hH hg;have hBl:nxM<nx1:=HW.dom _ _ hB;have hB2:A2 nxM=some (.arr (.agg 5) [DW.v om oN x]):=by rw[hk2 _ hBl];exact hB
 generalize hC:nW (lwp Tryz.prog _) _=QC
 have aEi:∀(D:Hp) (nxD:Nat) (sl:List V) (e:Int) (S2:Nat→CS) (Q2:Int→Int→List Nt) (z:DW) (om2 oN2:Own),nx1+2≤nxD→(∀x,x<nx+1→D x=A3 x)→(om2= .nil∨om2= .free)→(oN2= .nil∨oN2= .free)→D nx1=A2 nx1→D nxM=some (.arr (.agg 5) [DW.v om2 oN2 z])→WI (nx+1) D nxD wb nb tb vo vs P (wys o2 ws) (.sl .leaf oc (eK n l n)) ot (eK n l n) S2 Q2→LI l P vs.length (k+1) S2 Q2→Scr P ws vs.length (k+1) S2 Q2 z→
  WkL sl (aB 167 0 [(1, .sl (.agg 3) ob (bg.map Sp.v)),(2, .sl (.agg 7) os (sc.map Act.v)),(6, .bool false),(7, .ptr wb (.agg 4) 0 0),(9, .ptr nxM (.agg 5) 0 0),(12, .ptr nx1 (.agg 7) 0 0),(13,fC e),(14, .int .i64 e),(54, .sl (.agg 7) os (sc.map Act.v)),(55, .int .i64 sc.length),(56, .int .i64 k)])→QC .normal ⟨sl,D,nxD⟩:=fun D nxD sl e S2 Q2 z om2 oN2 h1 h2 h3 h4 h5 h6 h7 h8 h9 hw=>by
  rw[←hC];refine fT ⟨_,D,nxD⟩ ⟨hw,Hp.le_refl _,Ka _⟩ ?_;simp only[aB,go_sem,reduceIte,jA,jB,jC,jD,reduceCtorEq,jE,jF];rw[←hD2];rw[a1] at h5;have q1:(e != e)=false:=bne_self_eq_false _;have q2:(((Q2 i j).length:Int) != ((Q2 i j).length:Int))=false:=bne_self_eq_false _;have n1:nx1<nxD:=or;have n2:nxM<nxD:=or;have D1:=fun h=>xG e h;have w1:=h7.waiting i j;have hok:=h9.ok h8 or or or;have w2:=uU om2 (cO z.T) (cO z.Vs) oN2 z (by have:=hok.nl;omega) i j D;rw[Br,h9.q] at w2;have w2:aY Tryz.prog 31 [z.v om2 oN2, .int .i64 i, .int .i64 j] D (.int .i64 (Q2 i j).length):=w2;have hzf:(z.v om2 oN2).fits (.agg 5)=true:=rfl;refine aue (e7 h5 h6 q1 q2 n1 n2 hzf) ?_;refine bK w1 rfl (aT _) ?_;refine Zn ?_;refine aue (e7 h5 h6 q1 q2 n1 n2 hzf) ?_;refine bK w2 rfl (aT _) ?_;refine Zn ?_;refine aue (e8 h5 h6 q1 q2 n1 n2 hzf hw1) ?_;rw[←hQ];exact aD (k+1) or ⟨hlt,ZN,h2,S2,Q2,z,om2,oN2,h3,h4,h6,h7.aBB (fun _ _=>rfl) (h7.dom.up ZN),h8,h9⟩ (wkl trivial)
 clear hC;rw[←hD];clear hD hD2;have hn1:nx1<nx1+2:=or;have aZQ:nxM<nx1+2:=or;have aIF:nx1∉tb::vs:=fun hm=>by
  obtain⟨i,hi,e⟩:=List.getElem_of_mem hm;obtain⟨m,_,hc⟩:=HW.c i hi;have:=HW.dom _ _ hc.cell;omega
 have hBn:=HA.aV4 hB2;have hok:=HS.ok HL or or or;have htf:V.fits (.agg 3) (.agg [.int .i64 aAS.p, .int .i64 aAS.t.e, .int .i64 aAS.t.r])=true:=Sp.aAC aAS;have hzf:∀(a b:Own) (z:DW),(z.v a b).fits (.agg 5)=true:=fun _ _ _=>rfl;cases dl with
 |true=>
  refine aue (e2 a1 hn1) ?_;refine bN ((r9 HA HL HS or or i j).mono ?_);rintro v D nxD hnD ⟨_,hf,rfl,S2,Q2,h3,h4,h5⟩;try dsimp only at hnD
  unfold dM;refine Zn ?_;have d1:=(hf.2 _ _ _ aIF a1).trans a1;have d2:=(hf.2 _ _ _ hBn hB2).trans hB2;have n1:nx1<nxD:=or;have n2:nxM<nxD:=or;have C5:=j8 om oN hom hoN x hok i j D;refine aue (e5 d1 d2 n1 n2 hzf) ?_;generalize hH:Hp.set _ _ _=D2;have e1:∀x,x≠nxM→D2 x=D x:=fun x hx=>by rw[←hH];simp only[Hp.set];rw[if_neg hx]
  exact aEi D2 _ _ (gB x i j).2 S2 Q2 (gB x i j).1 om (if (gB x i j).2=0 then .free else oN) ZN (fun x hx=>by rw[e1 x or,hf.1 x hx,hk2 x or];exact hsm x hx) hom (by split;exact .inr rfl;exact hoN) (by rw[e1 _ or,d1,a1]) (by rw[←hH];simp only[Hp.set,if_true]) (h3.aG8 d2 (fun x _ hx=>e1 x hx) (by rw[←hH];exact dmo h3.dom)) h4 h5 (wkl trivial)
 |false=>
  refine aue (e3 a1 hn1 htf) ?_;refine bN ((EN HA HL HS R or or or i ⟨aAS,made⟩ ow hy6).mono ?_);rintro v D nxD hnD ⟨_,hf,rfl,S2,Q2,h3,h4,h5⟩;try dsimp only at hnD
  unfold dM;refine Zn ?_;have d1:=(hf.2 _ _ _ aIF a1).trans a1;have d2:=(hf.2 _ _ _ hBn hB2).trans hB2;have n1:nx1<nxD:=or;have n2:nxM<nxD:=or;have p1:=oD aAS;have p2:=ap ow made or;rw[lM] at p2;have p3:=Df om oN (cO made) hom hoN x hok i ⟨aAS,made⟩ (by show made.length≤1000;omega) (HS.full HL or) (by intro e;have:=HS.vl;rw[e] at this;simp at this;omega);refine aue (e6 d1 d2 n1 n2 hzf htf) ?_;refine iI (p1 _) rfl (bM _) ?_;refine Zn ?_;refine aue (e6 d1 d2 n1 n2 hzf htf) ?_;refine iI (p2 _) rfl (bM _) ?_;refine Zn ?_;refine aue (e6 d1 d2 n1 n2 hzf htf) ?_;refine iI (p3 _) rfl (bM _) ?_;refine Zn ?_;refine aue (e6 d1 d2 n1 n2 hzf htf) ?_;refine nM (es:=[DW.v om oN x]) rfl (lN or (by simp only[n1,n2,d2,go_sem,reduceIte,jA,jB,jC,jD,reduceCtorEq,jE,jF]) (by simp only[cS])) (show(0:Nat)<1 by decide) (gF _) (hzf _ _ _) ?_;refine Zn ?_;refine aue (e6 d1 d2 n1 n2 hzf htf) ?_;generalize hH:Hp.set _ _ _=D2;have e1:∀x,x≠nxM→D2 x=D x:=fun x hx=>by rw[←hH];simp only[Hp.set];rw[if_neg hx]
  exact aEi D2 _ _ (qF x i ⟨aAS,made⟩) S2 Q2 (cn x i ⟨aAS,made⟩) om (if qF x i ⟨aAS,made⟩=0 then .free else oN) ZN (fun x hx=>by rw[e1 x or,hf.1 x hx,hk2 x or];exact hsm x hx) hom (by split;exact .inr rfl;exact hoN) (by rw[e1 _ or,d1,a1]) (by rw[←hH];simp only[Hp.set,if_true]) (h3.aG8 d2 (fun x _ hx=>e1 x hx) (by rw[←hH];exact dmo h3.dom)) h4 h5 (wkl trivial)
end Go.Proofs.YtecepaehmojpgaaGreat
