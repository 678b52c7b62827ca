/-
Fronts:what FrontSettles says:once all notes are delivered each view is the truth. No conditions.
-/
import Derived.Test.YtecepaehmojpgaaGreatKd
import Derived.Test.YtecepaehmojpgaaGreatKt
open Nat renaming reduceAdd→jA,reduceSub→jB,reduceLT→jC,reduceLeDiff→jD,reduceEqDiff→jE
open Int renaming reduceToNat→jF,toNat_natCast→jG,natCast_add→jH,natCast_one→jI,natCast_zero→jJ
open List renaming length_map→jK,length_cons→jL,length_nil→jM,replicate_succ→jN,replicate_zero→jO,cons_append→jP,nil_append→jQ
set_option linter.unusedSimpArgs false
set_option linter.unusedVariables false
set_option linter.unusedSectionVars false
namespace Go.Proofs.YtecepaehmojpgaaGreat
open Go.RowKit Go.Sort
attribute [local irreducible] IntKind.wrap
def QD(N:Nat)(Q:Int→Int→List Nt):Prop:=∀a b,Q a b≠ []→0≤a∧a<N∧0≤b∧b<N∧a≠b
theorem QD.send{N:Nat}{Q:Int→Int→List Nt}(h:QD N Q){m:Int}(hm:0≤m∧m<N)(n:Nt):QD N (dW N Q m n):=fun a b hq=>by
 unfold dW at hq
 split at hq
 ·rename_i e
  obtain⟨rfl,e1,e2,e3⟩:=e
  exact⟨hm.1,hm.2,e2,e3,fun e=>e1 e.symm⟩
 exact h a b hq
theorem QD.upd{N:Nat}{Q:Int→Int→List Nt}(h:QD N Q){i j:Int}{n:Nt}{r:List Nt}(hq:Q i j=n::r):QD N (jY Q i j r):=fun a b hn=>by
 unfold jY at hn
 split at hn
 ·rename_i e
  obtain⟨rfl,rfl⟩:=e
  exact h a b (by rw[hq];simp)
 exact h a b hn
theorem aFv(P:Int)(l:List CE)(c:Nat)(r:List Cg):0≤(aT P l c r).1:=by
 unfold aT
 (repeat' split)<;>(dsimp only;omega)
theorem aFQ(N:Nat)(P:Int)(T:CS)(T0:Nat→Nat→List Pa)(n:Nat)(i:Int)(nt:Nt):0≤doE N P T T0 n i nt:=by
 unfold doE
 (repeat' split)<;>first|omega|exact aFv ..
section
variable{n0:Nat}{h':Hp}{nx wb nb tb:Nat}{vo:Own}{vs:List Nat}{P:Int}{wv:V}{oc ot:Own}{n:Nat}{l:List We}{ws:List Wy}{S:Nat→CS}{Q:Int→Int→List Nt}{k:Nat}
theorem aIF(H:WI n0 h' nx wb nb tb vo vs P wv (.sl .leaf oc (cH n l n)) ot (cH n l n) S Q)(HL:LI l P vs.length k S Q)(hQD:QD vs.length Q)(R:eX P ws n l)(hk:k≤100)(hn0:n0≤nx)(hvs:vs.length≤17)(i:Int)(nt:Nt)(o:Own)(hl:nt.made.length≤6):
 aW Tryz.prog 11 [.ptr wb (.agg 4) 0 0, .int .i64 i,nt.took.v, .sl (.agg 3) o (nt.made.map Sp.v)] h' nx fun v h'' nx2=>nx≤nx2∧Fr n0 (tb::vs) h' h''∧∃e,0≤e∧v=dO e∧∃S2 Q2,WI n0 h'' nx2 wb nb tb vo vs P wv (.sl .leaf oc (cH n l n)) ot (cH n l n) S2 Q2∧LI l P vs.length (k+1) S2 Q2∧QD vs.length Q2:=by
 refine(aIG H (bG l) n (oG n l) (fun a b=>by have:=iW l a b;omega) i nt o (by omega) (fun i=>(HL.st i).ok) hn0 (fun a b=>by have:=HL.len a b;omega) hvs (fun _ h0=>(HL.done R (by omega) hl h0).2.1)).mono ?_
 rintro v h2 nx2 _ ⟨q1,q2,rfl,(⟨_,HW⟩|⟨h0,HW⟩)⟩
 ·exact⟨q1,q2,_,aFQ ..,rfl,S,Q,HW,HL.more,hQD⟩
 exact⟨q1,q2,_,aFQ ..,rfl,_,_,HW,(HL.done R (by omega) hl h0).2.2,hQD.send (HL.done R (by omega) hl h0).1 nt⟩
theorem aAA(H:WI n0 h' nx wb nb tb vo vs P wv (.sl .leaf oc (cH n l n)) ot (cH n l n) S Q)(HL:LI l P vs.length k S Q)(hQD:QD vs.length Q)(hk:k≤900)(hn0:n0≤nx)(i j:Int)(hq0:Q i j≠ []):
 aW Tryz.prog 10 [.ptr wb (.agg 4) 0 0, .int .i64 i, .int .i64 j] h' nx fun v h'' nx2=>nx≤nx2∧Fr n0 (tb::vs) h' h''∧v= .nilIface∧∃S2,WI n0 h'' nx2 wb nb tb vo vs P wv (.sl .leaf oc (cH n l n)) ot (cH n l n) S2 (jY Q i j (Q i j).tail)∧LI l P vs.length (k+1) S2 (jY Q i j (Q i j).tail)∧QD vs.length (jY Q i j (Q i j).tail):=by
 have hr:=hQD i j hq0
 refine(rJ H i j (fun i=>(HL.st i).ok) (fun x hx=>by have:=(HL.fit _ _ x hx).1;omega) hn0 (by have:=HL.len i j;omega)).mono ?_
 rintro v h2 nx2 _ ⟨q1,q2,(⟨hb,_⟩|⟨_,hb,_⟩|⟨_,x,r,hq,rfl,HW⟩)⟩
 ·exact absurd hr hb
 ·exact absurd hb hq0
 rw[hq,List.tail_cons]
 have hqd:=hQD.upd hq
 obtain⟨a,rfl⟩:∃a:Nat,i=a:=⟨i.toNat,by omega⟩
 obtain⟨b,rfl⟩:∃b:Nat,j=b:=⟨j.toNat,by omega⟩
 rw[jG] at HW⊢
 have hd:=HL.deliver (by omega) (by omega) (by omega) hq
 exact⟨q1,q2,by rw[hd.1];rfl,_,HW,hd.2,hqd⟩
end
theorem aJx{l:List We}{P:Int}{N k:Nat}{S:Nat→CS}{Q:Int→Int→List Nt}(H:LI l P N k S Q)(hq:∀a b,Q a b=[]){i:Nat}(hi:i<N):eqC (S (i+1)).1 (S 0).1=true:=by
 refine(aJy (H.st (i+1)).ok (H.st 0).ok).2 (aDO (H.st (i+1)).ok (H.st 0).ok fun s=>?_)
 have h1:=(H.rel i hi).sum s
 have h2:iG N (mA Q) i=[]:=by
  unfold iG mA
  simp[hq]
 rw[h2] at h1
 have h1:cC (S 0).1 s=cC (S (i+1)).1 s+0:=h1
 omega
section
variable{h' D:Hp}{n0 nxD wb nb tb:Nat}{vo:Own}{vs:List Nat}{P:Int}{o2 oc ot:Own}{n:Nat}{l:List We}{ws:List Wy}{S:Nat→CS}{Q:Int→Int→List Nt}{k:Nat}
set_option maxRecDepth 100000 in
set_option maxHeartbeats 8000000 in
theorem aJf(H:WI n0 D nxD wb nb tb vo vs P (wys o2 ws) (.sl .leaf oc (cH n l n)) ot (cH n l n) S Q)(HL:LI l P vs.length k S Q)(hq:∀a b,Q a b=[])(hvs:vs.length=3)(hws:ws.length≤1000)(hn0:n0≤nxD)(hle:∀B:Hp,(∀x,x<n0→B x=D x)→h'.le B):
 lwp Tryz.prog (.seq (.seq (.ops L.corollarylaw24_FrontSettles_r29) (.block 8 (.loop L.corollarylaw24_FrontSettles_l4))) (.seq (.ops L.corollarylaw24_FrontSettles_r35) .ret)) (mK [.slot 6] fun v h'' _=>v= .bool true∧h''=h') ⟨aB 88 0 [(7, .ptr wb (.agg 4) 0 0)],D,nxD⟩:=by
 simp only[aB,go_sem,reduceIte,jA,jB,jC,jD,reduceCtorEq,jE,jF]
 refine au ?_
 refine aY (fun i:Nat=>aB 88 0 [(7, .ptr wb (.agg 4) 0 0),(75, .int .i64 i)])
  (fun i hp nx1=>i≤3∧nxD≤nx1∧(∀x,x<n0→hp x=D x)∧WI n0 hp nx1 wb nb tb vo vs P (wys o2 ws) (.sl .leaf oc (cH n l n)) ot (cH n l n) S Q) (fun i=>3-i) 0 ⟨Nat.zero_le _,by first|omega|(dsimp only;omega),fun _ _=>rfl,H.keep (fun _ _=>rfl) (H.dom.up (by first|omega|(dsimp only;omega)))⟩ (by simp only[WkL,aB,jH,jI,jJ,go_sem,reduceIte,jA,jB,jC,jD,reduceCtorEq,jE,jF]) ?_
 rintro i hp nx1 ⟨hi,hnx,hsm,HW⟩
 generalize hQ:bZ _ _ _ _ _=Q0
 simp only[aB,go_sem,reduceIte,jA,jB,jC,jD,reduceCtorEq,jE,jF]
 rcases Nat.lt_or_ge i 3 with hlt|hge
 case inr=>
  have hc1:decide ((i:Int)<3)=false:=dcf
  refine aue hc1 ?_
  rw[←hQ]
  have C5:=HW.settled hq
  refine au ?_
  exact aG h' (hle hp hsm) ⟨rfl,rfl⟩
 have hc1:decide ((i:Int)<3)=true:=dct
 have hw1:IntKind.i64.wrap ((i:Int)+1)=((i+1:Nat):Int):=wrp
 obtain⟨q,c,hw,hq',hl⟩:=HW.q
 obtain⟨mv,hmv,hcv⟩:=HW.v i (by omega)
 refine aue hc1 ?_
 refine aX ((aJc hw i (by omega) hcv).mono ?_)
 rintro v M nxM hnxM ⟨cb,m2,rfl,q1,q2,hc2,hkM,hdM,_⟩
 try dsimp only at hnxM q1 q2 hkM
 unfold cR
 simp only[go_sem,reduceIte,jA,jB,jC,jD,reduceCtorEq,jE,jF]
 have HM:=HW.keep hkM hdM
 obtain⟨q',c',hw',_,_⟩:=HM.q
 obtain⟨mt,hmt,hct⟩:=HM.t
 refine au ?_
 refine aX ((aCD hw' hct).mono ?_)
 rintro v E nxE hnxE ⟨cb3,m3,rfl,q3,q4,hc3,hkE,hdE,_⟩
 try dsimp only at hnxE q3 q4 hkE
 unfold cR
 simp only[go_sem,reduceIte,jA,jB,jC,jD,reduceCtorEq,jE,jF]
 have HE:=HM.keep hkE hdE
 have C5:=aFp (hc2.keep hdM hkE) hc3 (HL.st (i+1)).ok (HL.st 0).ok (by omega)
 rw[aJx HL hq (by omega)] at C5
 refine aue hw1 ?_
 rw[←hQ]
 exact aI (i+1) (by omega) ⟨hlt,by first|omega|(dsimp only;omega),fun x hx=>by rw[hkE x (by omega),hkM x (by omega)];exact hsm x hx,HE.keep (fun _ _=>rfl) (hdE.up (by first|omega|(dsimp only;omega)))⟩ (by simp only[WkL,aB,jH,jI,jJ,go_sem,reduceIte,jA,jB,jC,jD,reduceCtorEq,jE,jF])
def JS(n0 wb nb tb:Nat)(vo:Own)(vs:List Nat)(P:Int)(wv lc:V)(ot:Own)(rows:List V)(l:List We)(D:Hp)(f t c w:Nat)(hp:Hp)(nx:Nat):Prop:=∃S Q k,WI n0 hp nx wb nb tb vo vs P wv lc ot rows S Q∧LI l P vs.length k S Q∧k≤30+30*(3*f+t)+c∧QD vs.length Q∧(∀a b,(Q a b).length≤30)∧
 (∀a b:Nat,(a<f∨(a=f∧b<t))→Q a b=[])∧(∀x,x<n0→hp x=D x)∧(c≤w→(Q f t).length+c=w)
set_option maxRecDepth 100000 in
set_option maxHeartbeats 8000000 in
theorem aJg(H:WI n0 D nxD wb nb tb vo vs P (wys o2 ws) (.sl .leaf oc (cH n l n)) ot (cH n l n) S Q)(HL:LI l P vs.length k S Q)(hk:k≤30)(hQD:QD vs.length Q)(hvs:vs.length=3)(hn0:n0≤nxD)(QC:cD→St→Prop)
 (hQC:∀(D2:Hp) (nx2:Nat) (sl:List V) (S2:Nat→CS) (Q2:Int→Int→List Nt) (k2:Nat),WI n0 D2 nx2 wb nb tb vo vs P (wys o2 ws) (.sl .leaf oc (cH n l n)) ot (cH n l n) S2 Q2→LI l P vs.length k2 S2 Q2→(∀a b,Q2 a b=[])→n0≤nx2→(∀x,x<n0→D2 x=D x)→WkL sl (aB 88 0 [(7, .ptr wb (.agg 4) 0 0)])→QC .normal ⟨sl,D2,nx2⟩):
 lwp Tryz.prog (.seq (.ops L.corollarylaw24_FrontSettles_r16) (.block 2 (.loop L.corollarylaw24_FrontSettles_l3))) QC ⟨aB 88 0 [(7, .ptr wb (.agg 4) 0 0)],D,nxD⟩:=by
 simp only[aB,go_sem,reduceIte,jA,jB,jC,jD,reduceCtorEq,jE,jF]
 refine au ?_
 obtain⟨J,hJ⟩:∃J:Nat→Nat→Nat→Nat→Hp→Nat→Prop,∀f t c w hp nx,J f t c w hp nx↔JS n0 wb nb tb vo vs P (wys o2 ws) (.sl .leaf oc (cH n l n)) ot (cH n l n) l D f t c w hp nx:=⟨_,fun _ _ _ _ _ _=>Iff.rfl⟩
 have hup:∀{f t c w hp nx nx2},J f t c w hp nx→nx≤nx2→J f t c w hp nx2:=fun h hx=>by
  obtain⟨S,Q,k,h1,h2⟩:=(hJ ..).1 h
  exact(hJ ..).2 ⟨S,Q,k,h1.keep (fun _ _=>rfl) (h1.dom.up hx),h2⟩
 refine aY (fun f:Nat=>aB 88 0 [(7, .ptr wb (.agg 4) 0 0),(55, .int .i64 f)]) (fun f hp nx1=>f≤3∧nxD≤nx1∧J f 0 1 0 hp nx1) (fun f=>3-f) 0
  ⟨by omega,by first|omega|(dsimp only;omega),(hJ ..).2 ⟨S,Q,k,H.keep (fun _ _=>rfl) (H.dom.up (by first|omega|(dsimp only;omega))),HL,by omega,hQD,fun a b=>by have:=HL.len a b;omega,fun a b hab=>by omega,fun _ _=>rfl,fun h=>by omega⟩⟩ (by simp only[WkL,aB,jH,jI,jJ,go_sem,reduceIte,jA,jB,jC,jD,reduceCtorEq,jE,jF]) ?_
 rintro f hp nx1 ⟨hf,hnx,hj⟩
 generalize hQ:bZ _ _ _ _ _=Q0
 simp only[aB,go_sem,reduceIte,jA,jB,jC,jD,reduceCtorEq,jE,jF]
 rcases Nat.lt_or_ge f 3 with hlt|hge
 case inr=>
  have hc1:decide ((f:Int)<3)=false:=dcf
  refine aue hc1 ?_
  rw[←hQ]
  refine au ?_
  obtain⟨S2,Q2,k2,h1,h2,_,h4,_,h6,h7,_⟩:=(hJ ..).1 hj
  refine hQC hp _ _ S2 Q2 k2 (h1.keep (fun _ _=>rfl) (h1.dom.up (by first|omega|(dsimp only;omega)))) h2 (fun a b=>?_) (by omega) h7 (by simp only[WkL,aB,jH,jI,jJ,go_sem,reduceIte,jA,jB,jC,jD,reduceCtorEq,jE,jF])
  apply Classical.byContradiction
  intro hn
  obtain⟨g1,g2,g3,g4,_⟩:=h4 a b hn
  obtain⟨a',rfl⟩:∃a':Nat,a=a':=⟨a.toNat,by omega⟩
  obtain⟨b',rfl⟩:∃b':Nat,b=b':=⟨b.toNat,by omega⟩
  exact hn (h6 a' b' (by omega))
 have hc1:decide ((f:Int)<3)=true:=dct
 have hw1:IntKind.i64.wrap ((f:Int)+1)=((f+1:Nat):Int):=wrp
 refine aue hc1 ?_
 refine aY (fun t:Nat=>aB 88 0 [(7, .ptr wb (.agg 4) 0 0),(11, .int .i64 f),(55, .int .i64 f),(58, .int .i64 t)]) (fun t hp nx1=>t≤3∧nxD≤nx1∧J f t 1 0 hp nx1) (fun t=>3-t) 0
  ⟨by omega,by first|omega|(dsimp only;omega),hup hj (by first|omega|(dsimp only;omega))⟩ (by simp only[WkL,aB,jH,jI,jJ,go_sem,reduceIte,jA,jB,jC,jD,reduceCtorEq,jE,jF]) ?_
 rintro t hp2 nx2 ⟨ht,hnx2,hj2⟩
 generalize hQ2:bZ _ _ _ _ _=Q2
 simp only[aB,go_sem,reduceIte,jA,jB,jC,jD,reduceCtorEq,jE,jF]
 rcases Nat.lt_or_ge t 3 with hlt2|hge2
 case inr=>
  have hc2:decide ((t:Int)<3)=false:=dcf
  refine aue hc2 ?_
  rw[←hQ2]
  refine aue hw1 ?_
  rw[←hQ]
  refine aI (f+1) (by omega) ⟨hlt,by first|omega|(dsimp only;omega),?_⟩ (by simp only[WkL,aB,jH,jI,jJ,go_sem,reduceIte,jA,jB,jC,jD,reduceCtorEq,jE,jF])
  obtain⟨S2,Q2,k2,h1,h2,h3,h4,h5,h6,h7,_⟩:=(hJ ..).1 hj2
  refine(hJ ..).2 ⟨S2,Q2,k2,h1.keep (fun _ _=>rfl) (h1.dom.up (by first|omega|(dsimp only;omega))),h2,by omega,h4,h5,fun a b hab=>?_,h7,fun h=>by omega⟩
  by_cases hb:b<3
  ·exact h6 a b (by omega)
  apply Classical.byContradiction
  intro hn
  have:=h4 a b hn
  omega
 have hc2:decide ((t:Int)<3)=true:=dct
 have hw2:IntKind.i64.wrap ((t:Int)+1)=((t+1:Nat):Int):=wrp
 obtain⟨S3,Q3,k3,h1,h2,h3,h4,h5,h6,h7,_⟩:=(hJ ..).1 hj2
 have C5:=h1.waiting f t
 obtain⟨w,hw⟩:∃w,w=(Q3 f t).length:=⟨_,rfl⟩
 rw[←hw] at C5
 have hw30:w≤30:=by rw[hw];exact h5 f t
 refine aue hc2 ?_
 clear C5
 refine aY (fun c:Nat=>aB 88 0 [(7, .ptr wb (.agg 4) 0 0),(11, .int .i64 f),(12, .int .i64 t),(55, .int .i64 f),(58, .int .i64 t),(64, .int .i64 w),(65, .int .i64 c)]) (fun c hp nx1=>c≤w∧nxD≤nx1∧JS n0 wb nb tb vo vs P (wys o2 ws) (.sl .leaf oc (cH n l n)) ot (cH n l n) l D f t (c+1) (w+1) hp nx1) (fun c=>w-c) 0
  ⟨by omega,by first|omega|(dsimp only;omega),⟨S3,Q3,k3,h1.keep (fun _ _=>rfl) (h1.dom.up (by first|omega|(dsimp only;omega))),h2,by omega,h4,h5,h6,h7,fun _=>by omega⟩⟩ (by simp only[WkL,aB,jH,jI,jJ,go_sem,reduceIte,jA,jB,jC,jD,reduceCtorEq,jE,jF]) ?_
 clear h1 h2 h3 h4 h5 h6 h7 hw
 rintro c hp3 nx3 ⟨hc,hnx3,S4,Q4,k4,h1,h2,h3,h4,h5,h6,h7,h8⟩
 have h8:=h8 (by omega)
 generalize hQ3:bZ _ _ _ _ _=Q3
 simp only[aB,go_sem,reduceIte,jA,jB,jC,jD,reduceCtorEq,jE,jF]
 rcases Nat.lt_or_ge c w with hlt3|hge3
 case inr=>
  have hc3:decide ((c:Int)<(w:Int))=false:=dcf
  refine aue hc3 ?_
  rw[←hQ3]
  refine aue hw2 ?_
  rw[←hQ2]
  refine aI (t+1) (by omega) ⟨hlt2,by first|omega|(dsimp only;omega),(hJ ..).2 ⟨S4,Q4,k4,h1.keep (fun _ _=>rfl) (h1.dom.up (by first|omega|(dsimp only;omega))),h2,by omega,h4,h5,fun a b hab=>?_,h7,fun h=>by omega⟩⟩ (by simp only[WkL,aB,jH,jI,jJ,go_sem,reduceIte,jA,jB,jC,jD,reduceCtorEq,jE,jF])
  by_cases e:a=f∧b=t
  ·obtain⟨rfl,rfl⟩:=e
   exact List.length_eq_zero_iff.1 (by omega)
  exact h6 a b (by omega)
 have hc3:decide ((c:Int)<(w:Int))=true:=dct
 have hw3:IntKind.i64.wrap ((c:Int)+1)=((c+1:Nat):Int):=wrp
 have hne:Q4 f t≠ []:=fun e=>by rw[e,jM] at h8;omega
 refine aue hc3 ?_
 refine aX ((aAA h1 h2 h4 (by omega) (by omega) f t hne).mono ?_)
 rintro v E nxE hnE ⟨_,hfr,rfl,S5,g1,g2,g3⟩
 try dsimp only at hnE
 unfold cR
 simp only[go_sem,reduceIte,jA,jB,jC,jD,reduceCtorEq,jE,jF]
 refine aue hw3 ?_
 rw[←hQ3]
 refine aI (c+1) (by omega) ⟨hlt3,by first|omega|(dsimp only;omega),S5,_,k4+1,g1.keep (fun _ _=>rfl) (g1.dom.up (by first|omega|(dsimp only;omega))),g2,by omega,g3,fun a b=>?_,fun a b hab=>?_,fun x hx=>by rw[hfr.1 x hx];exact h7 x hx,fun _=>?_⟩ (by simp only[WkL,aB,jH,jI,jJ,go_sem,reduceIte,jA,jB,jC,jD,reduceCtorEq,jE,jF])
 ·unfold jY
  split
  ·rw[List.length_tail];have:=h5 f t;omega
  exact h5 a b
 ·unfold jY
  rw[if_neg (by omega)]
  exact h6 a b hab
 have:jY Q4 f t (Q4 f t).tail f t=(Q4 f t).tail:=if_pos ⟨rfl,rfl⟩
 rw[this,List.length_tail]
 omega
end
end Go.Proofs.YtecepaehmojpgaaGreat
