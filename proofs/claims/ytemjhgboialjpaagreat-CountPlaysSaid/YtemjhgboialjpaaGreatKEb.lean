/-
corollarylaw23.CountPlays:the walk. Conditions:none.
-/
import Derived.Test.YtemjhgboialjpaaGreatKd
import Derived.Test.YtemjhgboialjpaaGreatKr
import Derived.Test.YtemjhgboialjpaaGreatKq
import Derived.Test.YtemjhgboialjpaaGreatKh
import Derived.Test.YtemjhgboialjpaaGreatKl
open Nat renaming reduceAdd→jA,reduceSub→jB,reduceLT→jC,reduceLeDiff→jD,reduceEqDiff→jE
open Int renaming reduceToNat→jF,toNat_natCast→jG,natCast_add→jH,natCast_one→jI,natCast_zero→jJ
open List renaming length_map→jK,length_cons→jL,length_nil→jM,replicate_succ→jN,replicate_zero→jO,cons_append→jP,nil_append→jQ
set_option linter.unusedSimpArgs false
set_option linter.unusedVariables false
set_option linter.unusedSectionVars false
namespace Go.Proofs.YtemjhgboialjpaaGreat
open Go.ChangeShapes Go.WideShapes Go.ChangeAt Go.RowKit Go.Sort
attribute [local irreducible] IntKind.wrap
set_option maxRecDepth 100000 in
set_option maxHeartbeats 8000000 in
theorem aAT(o os:Own)(P:Int)(ws:List Wy)(hn:o= .nil→ws=[])(sc:List (Own×List Cg)):aW Tryz.prog 4 [mps o P ws, .sl .leaf os (sc.map fun q=>cgs q.1 q.2)] Hp.none (.bool true):=by
 have hmf:(mps o P ws).fits (.agg 2)=true:=by simp[mps,V.fits,V.leafy,wys]
 refine aR (fun L=>trivial) fun h' nx hh=>aD L.corollarylaw23_CountPlays_low fun hd=>?_
 simp only[jL,jM,jA,jB,jN,jO,jP,jQ,V.undef]
 have C1:=fun h=>aDD h
 have C2:=fun h=>aGo o P ws h
 have hml:(sc.map fun q:Own×List Cg=>cgs q.1 q.2).length=sc.length:=jK ..
 cases hL:aAv P ws with
 |true=>
  rw[hL] at C2
  refine aue hmf ?_
  exact aF h' (leo hd) ⟨rfl,rfl⟩
 |false=>
 rw[hL] at C2
 have hl:=aHM hL
 by_cases hlen:15<sc.length
 ·have hc:decide ((sc.length:Int)>15)=true:=dct
  refine aue (e3 hmf hc hml) ?_
  exact aF h' (leo hd) ⟨rfl,rfl⟩
 have hc:decide ((sc.length:Int)>15)=false:=dcf
 obtain⟨o3,ho3⟩:=aAh P ws
 have C3:∀h,aW Tryz.prog 17 [mps o P ws] h (mps o3 P ws):=fun h=>by
  have e:=zH o P ws (by omega) h
  rw[ho3] at e
  exact e
 have hmf3:(mps o3 P ws).fits (.agg 2)=true:=by simp[mps,V.fits,V.leafy,wys]
 have hcell3:(mps o3 P ws).cell 0= .int .i64 P:=rfl
 refine aue (e4 hmf hc hml hmf3) ?_
 clear C1 C2 C3 ho3
 have C1:∀h,aW Tryz.prog 19 [mps o3 P ws] h (.bool (gX P ws)):=fun h=>dZ o3 P ws (by omega) h
 cases hR:gX P ws with
 |false=>
  rw[hR] at C1
  have C2:=fun h=>aKe o hR (by omega) h
  have C3:=fun h=>aGg 2 2 h
  have q2:((2:Int)==2)=true:=by decide
  rw[q2] at C3
  refine aue (e2 hmf hmf3) ?_
  exact aF h' (leo hd) ⟨rfl,rfl⟩
 |true=>
 rw[hR] at C1
 obtain⟨n,l,R⟩:=(kE P ws).1 hR
 have hnP:=R.pl
 have hn200:=R.le
 clear C1
 obtain⟨A,hA⟩:∃A,A=((h'.set nx (.arr (.agg 2) [mps o P ws])).set (nx+1) (.arr (.agg 2) [.agg [.int .i64 0, .sl (.agg 4) .nil []]])).set (nx+1) (.arr (.agg 2) [mps o3 P ws]):=⟨_,rfl⟩
 have a1:A (nx+1)=some (.arr (.agg 2) [mps o3 P ws]):=by rw[hA];simp only[go_sem,reduceIte,jA,jB,jC,jD,reduceCtorEq,jE,jF]
 have hsA:Hp.same nx h' A:=by rw[hA];exact kep Hp.same.rfl'
 rw[←hA]
 clear hA
 refine bS ((aKP o R (by omega) hn _ _).mono ?_)
 rintro v5 M5 nx5 hnx5 ⟨cb,m,o2,ot,rfl,hcb,hm,hcnt,hk5,hd5,_⟩
 dsimp only at hcb hm hnx5 hk5
 unfold dV
 simp only[go_sem,reduceIte,jA,jB,jC,jD,reduceCtorEq,jE,jF]
 --the box,from here on
 obtain⟨G,hG⟩:∃G:Hp→Prop,∀H,G H↔(H (nx+1)=some (.arr (.agg 2) [mps o3 P ws])∧Hp.same nx h' H):=⟨_,fun _=>Iff.rfl⟩
 have g5:G M5:=(hG M5).2 ⟨by rw[hk5 _ (by omega)];exact a1,fun z hz=>by rw[hk5 _ (by omega)];exact hsA z hz⟩
 have gstep:∀{H H2:Hp} {N:Nat} {k:Nat},G H→nx+1<N→nx+1<k→(∀z,z<N→z≠k→H2 z=H z)→G H2:=fun g hN k1 hk=>by
  obtain⟨q1,q4⟩:=(hG _).1 g
  exact(hG _).2 ⟨by rw[hk _ (by omega) (by omega)];exact q1,fun z hz=>by rw[hk _ (by omega) (by omega)];exact q4 z hz⟩
 clear hk5 hsA a1
 obtain⟨q1,q2⟩:=(hG _).1 g5
 have C1:∀h,aW Tryz.prog 19 [mps o3 P ws] h (.bool true):=fun h=>by
  have:=dZ o3 P ws (by omega) h
  rw[hR] at this;exact this
 refine aue (e5 q1 (show nx+1<nx5 by omega) hmf3 hml hcell3) ?_
 clear C1
 have hst0:=aJV P 0
 --the script
 refine aP (fun q:Nat×List CE×Nat×Nat=>aB 135 0 [(5, .ptr (nx+1) (.agg 2) 0 0),(6, .ptr cb (.agg 4) 0 0),(8,lst (.agg 4) ((cY q.2.1).map Cg.v)),(44, .sl .leaf os (sc.map fun q=>cgs q.1 q.2)),(45, .int .i64 sc.length),(46, .int .i64 q.1)])
  (fun q hp nx1=>q.1≤sc.length∧nx5≤nx1∧aH hp nx1∧G hp∧dF hp cb q.2.2.2 P (wys o2 ws) (.sl .leaf ot (mK n l n)) q.2.1 q.2.2.1∧StC P q.2.1 q.2.2.1 (20*q.1))
  (fun q=>sc.length-q.1) (0,[],0,m) ⟨Nat.zero_le _,by first|omega|(dsimp only;omega),hd5,g5,hcnt,hst0.up (Nat.zero_le _)⟩ (by simp only[WkL,aB,jH,jI,jJ,aJB,List.map_nil,show lst (.agg 4) []= .sl (.agg 4) .nil [] from rfl,go_sem,reduceIte,jA,jB,jC,jD,reduceCtorEq,jE,jF]) ?_
 clear hcnt g5 q1 q2 hd5
 rintro⟨i,l4,c4,m4⟩ hp nx1 ⟨hi,hnx,hdm,g,hc4,hst4⟩
 generalize hQ:bG _ _ _ _ _=Q0
 dsimp only at hi hc4 hst4
 simp only[aB,go_sem,reduceIte,jA,jB,jC,jD,reduceCtorEq,jE,jF]
 obtain⟨p1,p2⟩:=(hG _).1 g
 have hN1:nx+1<nx1:=by omega
 have hl4:l4.length≤300:=by have:=hst4.len;omega
 have hCl:(cY l4).length≤300:=by rw[iH];exact hl4
 obtain⟨ow,how⟩:=gY (.agg 4) ((cY l4).map Cg.v)
 rcases Nat.lt_or_ge i sc.length with hlt|hge
 case inl=>
  obtain⟨⟨oq,r⟩,hr⟩:∃q,sc[i]=q:=⟨_,rfl⟩
  have hc1:decide ((i:Int)<(sc.length:Int))=true:=dct
  have hw1:IntKind.i64.wrap ((i:Int)+1)=((i+1:Nat):Int):=wrp
  have hg:(sc.map fun q:Own×List Cg=>cgs q.1 q.2).getD i (.tup [])= .sl (.agg 4) oq (r.map Cg.v):=by
   have:=eB (fun q:Own×List Cg=>cgs q.1 q.2) (.tup []) sc i hlt
   rw[hr] at this;exact this
  by_cases hlr:20<r.length
  ·have hc2:decide ((r.length:Int)>20)=true:=dct
   refine aue (e7 hc1 hg hlt hml (@jK Cg V) jG hc2) ?_
   rw[←hQ]
   refine au ?_
   exact aF h' (p2.le hd (Hp.le_refl _)) ⟨rfl,rfl⟩
  have hc2:decide ((r.length:Int)>20)=false:=dcf
  rw[how]
  refine aue (e7 hc1 hg hlt hml (@jK Cg V) jG hc2) ?_
  refine bS ((aKr hc4).mono ?_)
  rintro v6 M6 nx6 hnx6 ⟨cb2,m2,rfl,hcb2,hm2,hcnt2,hk6,hd6,_⟩
  dsimp only at hcb2 hm2 hnx6 hk6
  unfold dV
  simp only[go_sem,reduceIte,jA,jB,jC,jD,reduceCtorEq,jE,jF]
  have hcbn:cb<nx1:=hdm _ _ hc4.cell
  have hm4n:m4<nx1:=hdm _ _ hc4.mp
  have hc6:=hc4.keep hdm hk6
  have g6:G M6:=gstep (k:=nx1) g hN1 hN1 fun z hz _=>hk6 z hz
  refine au ?_
  refine bS ((aJH oq r (by omega) l4 c4 hst4.ok P _ _ cb m4 _ _ hd6 hc6).mono ?_)
  rintro v7 M7 nx7 hnx7 ⟨rfl,⟨m7,hc7,hm7⟩,hk7,_,hd7,_⟩
  try dsimp only at hnx7 hk7 hm7
  have hm2x:m2<nx6:=hd6 _ _ hcnt2.mp
  have g7:G M7:=gstep g6 (by omega) (by omega) hk7
  have hc27:=hcnt2.other hd6 (by omega) (by omega) hk7
  obtain⟨p1,p2⟩:=(hG _).1 g7
  have hst7:=hst4.add r
  have hre:=aHu P hst4.ok hst4.small (by omega) r
  have hrp:=xN o3 ow .free P ws (cY l4) r (by omega) (by omega) how
  unfold dV
  simp only[go_sem,reduceIte,jA,jB,jC,jD,reduceCtorEq,jE,jF]
  obtain⟨oc,hoc⟩:=gY (.agg 4) (r.map Cg.v)
  have D1:∀h,aW Tryz.prog 24 [.sl (.agg 4) oq (r.map Cg.v)] h (.sl (.agg 4) oc (r.map Cg.v)):=fun h=>by
   have:=aDB oq r (by omega) h
   rw[hoc] at this;exact this
  obtain⟨on,hon⟩:=gY (.agg 4) ((cY (dJ P l4 c4 r).2.1).map Cg.v)
  have D2:∀h,aW Tryz.prog 23 [mps o3 P ws, .sl (.agg 4) ow ((cY l4).map Cg.v), .sl (.agg 4) oc (r.map Cg.v)] h (.tup [.sl (.agg 4) on ((cY (dJ P l4 c4 r).2.1).map Cg.v), .int .i64 (dJ P l4 c4 r).1]):=fun h=>by
   have:=xN o3 ow oc P ws (cY l4) r (by omega) (by omega) how h
   rw[hre] at this
   dsimp only at this
   rw[hon] at this;exact this
  clear hrp
  have hsame:(dJ P l4 c4 r).1≠0→eqC (dJ P l4 c4 r).2.1 l4=true:=fun he=>(aKm hst7.ok hst4.ok).2 (by rw[aCO he])
  generalize (dJ P l4 c4 r).1=er at D2 hsame⊢
  generalize (dJ P l4 c4 r).2.1=l7 at hc7 hst7 D2 hon hsame
  generalize (dJ P l4 c4 r).2.2=c7 at hc7 hst7
  have C1:=fun h=>aEB er h
  have hne:(er != er)=false:=bnf
  have hl7:l7.length≤320:=by have:=hst7.len;omega
  refine aue (e5 p1 (show nx+1<nx7 by omega) hmf3 hne (@jK Cg V)) ?_
  refine aM (aHQ hc7 hst7.ok (by omega) on oq r (by omega)) rfl (aO _) ?_
  simp only[go_sem,reduceIte,jA,jB,jC,jD,reduceCtorEq,jE,jF]
  by_cases he:er=0
  ·have h0:(er != 0)=false:=bnf
   refine aue (e2 h0 hw1) ?_
   rw[←hQ]
   refine aC (i+1,l7,c7,m7) (by dsimp only;omega) ⟨hlt,by first|omega|(dsimp only;omega),dmo hd7,g7,hc7,hst7.up (by dsimp only;omega)⟩ (by simp only[WkL,aB,jH,jI,jJ,hon,go_sem,reduceIte,jA,jB,jC,jD,reduceCtorEq,jE,jF])
  have h0:(er != 0)=true:=bnt
  refine aue h0 ?_
  have hs:=aGC hc7 hc27 hst7.ok hst4.ok (by omega)
  rw[hsame he] at hs
  refine aM hs rfl (aO _) ?_
  simp only[go_sem,reduceIte,jA,jB,jC,jD,reduceCtorEq,jE,jF]
  refine aue hw1 ?_
  rw[←hQ]
  refine aC (i+1,l7,c7,m7) (by dsimp only;omega) ⟨hlt,by first|omega|(dsimp only;omega),dmo hd7,g7,hc7,hst7.up (by dsimp only;omega)⟩ (by simp only[WkL,aB,jH,jI,jJ,hon,go_sem,reduceIte,jA,jB,jC,jD,reduceCtorEq,jE,jF])
 case inr=>
  have hc1:decide ((i:Int)<(sc.length:Int))=false:=dcf
  rw[how]
  refine aue hc1 ?_
  rw[←hQ]
  clear hQ Q0
  refine au ?_
  have hl9:l4.length≤900:=by omega
  have hin4:∀y∈l4,0≤y.s.p∧y.s.p<(n:Int):=fun y hy=>by have:=hst4.right y hy;omega
  have hlst:∀a b,(dB l a b).length≤1000:=fun a b=>by have:=sU l a b;omega
  have hf1:=aFh hc4 hst4.ok hl9 (dB l) n hnP (zU n l) hlst hin4 (by omega)
  obtain⟨of1,hof1⟩:=gY .leaf (pL (dB l) (gS l4) n)
  rw[hof1] at hf1
  refine aM hf1 rfl (aO _) ?_
  simp only[go_sem,reduceIte,jA,jB,jC,jD,reduceCtorEq,jE,jF]
  have hln1:=aJk (dB l) (gS l4) n
  have hnn:((n:Int) != P)=false:=bnf
  have hw0:IntKind.i64.wrap (((0:Nat):Int)+((0:Nat):Int))=0:=wrp
  have hg0:decide ((0:Int)>0)=false:=dcf
  refine aue (e6 p1 hN1 hmf3 hcell3 hln1 hnn) ?_
  refine bF (qK hc4 (-1) (.inl (by omega))) rfl (aO _) ?_
  simp only[go_sem,reduceIte,jA,jB,jC,jD,reduceCtorEq,jE,jF]
  refine aue (e3 p1 hN1 hcell3) ?_
  refine bF (qK hc4 P (.inr (Int.le_refl _))) rfl (aO _) ?_
  simp only[go_sem,reduceIte,jA,jB,jC,jD,reduceCtorEq,jE,jF]
  refine aue (e3 hw0 hg0 hln1) ?_
  refine aP (fun i:Nat=>aB 135 0 [(5, .ptr (nx+1) (.agg 2) 0 0),(6, .ptr cb (.agg 4) 0 0),(8, .sl (.agg 4) ow ((cY l4).map Cg.v)),(15, .sl .leaf of1 (pL (dB l) (gS l4) n)),(109, .int .i64 n),(110, .int .i64 i)])
   (fun i hp1 nx1=>i≤n∧hp1=hp∧aH hp1 nx1∧nx+1<nx1) (fun i=>n-i) 0 ⟨Nat.zero_le _,rfl,dmo hdm,by first|omega|(dsimp only;omega)⟩ (by simp only[WkL,aB,jH,jI,jJ,go_sem,reduceIte,jA,jB,jC,jD,reduceCtorEq,jE,jF]) ?_
  clear hi hdm hN1
  rintro i hp1 nx2 ⟨hi,rfl,hdm,hN1⟩
  generalize hQ:bG _ _ _ _ _=Q0
  simp only[aB,go_sem,reduceIte,jA,jB,jC,jD,reduceCtorEq,jE,jF]
  rcases Nat.lt_or_ge i n with hlt|hge
  ·have hc1:decide ((i:Int)<(n:Int))=true:=dct
   have hw1:IntKind.i64.wrap ((i:Int)+1)=((i+1:Nat):Int):=wrp
   have ha1:=aKj (dB l) (gS l4) n hlt
   obtain⟨ox,hox⟩:=gY (.agg 2) ((ofT (frT (dB l) i (gS l4))).map Tm.v)
   rw[hox] at ha1
   have z1:=aJo l i (gS l4)
   have z3:=vX l4
   have D1:∀h,aW Tryz.prog 30 [mps o3 P ws, .sl (.agg 4) ow ((cY l4).map Cg.v), .int .i64 i] h (.sl (.agg 2) ox ((ofT (frT (dB l) i (gS l4))).map Tm.v)):=fun h=>by
    have:=aEl o3 ow P ws (cY l4) i (by omega) (by omega) (by omega) h
    rw[aHt R hst4 i hlt,hox] at this
    exact this
   have D2:∀h,aW Tryz.prog 29 [.sl (.agg 2) ox ((ofT (frT (dB l) i (gS l4))).map Tm.v), .sl (.agg 2) ox ((ofT (frT (dB l) i (gS l4))).map Tm.v)] h (.bool true):=fun h=>by
    have:=aKi ox ox (ofT (frT (dB l) i (gS l4))) (ofT (frT (dB l) i (gS l4))) (by omega) h
    rw[decide_eq_true rfl] at this;exact this
   have hfa:=rX hc4 hst4.ok hl9 (dB l) n hnP (zU n l) hlst hin4 i hlt
   rw[hox] at hfa
   refine aue (e9 hc1 hw1 ha1 hlt hln1 p1 hN1 hmf3 jG) ?_
   refine bF hfa rfl (aO _) ?_
   simp only[go_sem,reduceIte,jA,jB,jC,jD,reduceCtorEq,jE,jF]
   refine aue (e4 p1 hN1 hmf3 hw1) ?_
   rw[←hQ]
   exact aC (i+1) (by omega) ⟨hlt,rfl,dmo hdm,by first|omega|(dsimp only;omega)⟩ (by simp only[WkL,aB,jH,jI,jJ,go_sem,reduceIte,jA,jB,jC,jD,reduceCtorEq,jE,jF])
  have hc1:decide ((i:Int)<(n:Int))=false:=dcf
  refine aue hc1 ?_
  rw[←hQ]
  refine au ?_
  exact aF h' (p2.le hd (Hp.le_refl _)) ⟨rfl,rfl⟩
end Go.Proofs.YtemjhgboialjpaaGreat
