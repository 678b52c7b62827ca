/-
Texts of this proof,one behind the other. No conditions.
-/
import Derived.Test.YtemjhgboialjpaaGreatKd
import Derived.Test.YtemjhgboialjpaaGreatKk
import Derived.Test.YtemjhgboialjpaaGreatKj
import Derived.Test.YtemjhgboialjpaaGreatKl
import Derived.Test.YtemjhgboialjpaaGreatKn
import Derived.Test.YtemjhgboialjpaaGreatKo
open Nat renaming reduceAdd→jA,reduceSub→jB,reduceLT→jC,reduceLeDiff→jD,reduceEqDiff→jE
open Int renaming reduceToNat→jF,toNat_natCast→jG,natCast_add→jH,natCast_one→jI,natCast_zero→jJ
open List renaming length_map→jK,length_cons→jL,length_nil→jM,replicate_succ→jN,replicate_zero→jO,cons_append→jP,nil_append→jQ
set_option linter.unusedSimpArgs false
set_option linter.unusedVariables false
set_option linter.unusedSectionVars false
namespace Go.Proofs.YtemjhgboialjpaaGreat
open Go.Proofs.YtemjhgboialjpaaGreat renaming fE→uA,dU→uB,cM→uC,cN→uD,bV→uE,fF→uF,bQ→uG,cO→uH,cP→uI,bW→uJ,bX→uK,cG→uL,dP→uM,fG→uN,dG→uO,aZ→uP,gR→uQ,fS→uR,dA→uS
open Go.RowKit Go.Sort
attribute [local irreducible] IntKind.wrap
theorem aAs(P:Int)(ws:List Wy)(a b:Int):(dL P ws a b).length≤2:=pC (aGm P ws a b)
set_option maxRecDepth 100000 in
theorem aEk(o:Own)(P:Int)(ws:List Wy)(hl:ws.length≤1000)(a b:Int)(h:Hp):
 aW Tryz.prog 149 [mps o P ws, .int .i64 a, .int .i64 b] h (lst (.agg 2) ((dL P ws a b).map Pa.v)):=by
 have hmf:(mps o P ws).fits (.agg 2)=true:=by simp[mps,V.fits,V.leafy,wys]
 have hcell:(mps o P ws).cell 0= .int .i64 P:=rfl
 refine aR (fun L=>cE (fun L=>bI (Pa.names_v L) _) L) fun h' nx hh=>aD L.corollaryref22_Least_low fun hd=>?_
 simp only[jL,jM,jA,jB,jN,jO,jP,jQ,V.undef]
 have out:∀(hn':dL P ws a b=[]) (sl:List V) (nx2:Nat),sl.getD 6 V.undef= .sl (.agg 2) .nil []→pX [tF.slot 6] (fun v' h'' x=>v'=lst (.agg 2) ((dL P ws a b).map Pa.v)∧h''=h') cB.ret ⟨sl,h'.set nx (.arr (.agg 2) [mps o P ws]),nx2⟩:=fun hn' sl nx2 e=>by
  refine aF h' (by repeat (first|exact Hp.le_refl _|refine aK hd ?_ (by omega) _|refine aL hd ?_ (by omega))) ⟨by rw[hn'];exact e,rfl⟩
 cases hr:gX P ws with
 |false=>
  have C1:=fun h=>dZ o P ws hl h
  refine aue (ee3 hmf hcell hr) ?_
  exact out (by simp[dL,hr]) _ _ rfl
 |true=>
  obtain⟨n,l,R⟩:=(kE P ws).1 hr
  have hP:=R.pl
  have hn:=R.le
  have hlw:l.length≤1000:=by have:=R.eq;rw[this] at hl;simpa using hl
  subst hP
  by_cases h1:a<0
  ·have C1:=fun h=>dZ o n ws hl h
   refine aue (ee6 hmf hcell hr h1 decide_true decide_false) ?_
   exact out (by unfold dL;rw[if_neg (by omega)]) _ _ rfl
  by_cases h2:b<0
  ·have C1:=fun h=>dZ o n ws hl h
   refine aue (ee7 hmf hcell hr h1 h2 decide_true decide_false) ?_
   exact out (by unfold dL;rw[if_neg (by omega)]) _ _ rfl
  by_cases h3:a≥n
  ·have C1:=fun h=>dZ o n ws hl h
   refine aue (ee8 hmf hcell hr h1 h2 h3 decide_true decide_false) ?_
   exact out (by unfold dL;rw[if_neg (by omega)]) _ _ rfl
  by_cases h4:b≥n
  ·have C1:=fun h=>dZ o n ws hl h
   refine aue (ee9 hmf hcell hr h1 h2 h3 h4 decide_true decide_false) ?_
   exact out (by unfold dL;rw[if_neg (by omega)]) _ _ rfl
  obtain⟨a',rfl⟩:∃a':Nat,a=a':=⟨a.toNat,by omega⟩
  obtain⟨b',rfl⟩:∃b':Nat,b=b':=⟨b.toNat,by omega⟩
  have hm:mps o n ws= .agg [.int .i64 n,wes o l]:=by rw[R.eq];simp only[mps,wys,wes,List.map_map];rfl
  have hf:∀h,aW Tryz.prog 195 [mps o n ws, .int .i64 a'] h (mB n l a'):=fun h=>by rw[hm];exact aDf o n l a' R.fit R.turn (by omega) hn hlw h
  have hbn:b'<(kB n l a').length:=by rw[aCC];omega
  have hgd:((kB n l a').map fun m:List Pa=>lst (.agg 2) (m.map Pa.v)).getD b' (.tup [])=lst (.agg 2) ((dB l a' b').map Pa.v):=by
   rw[bE _ _ _ hbn];simp[kB]
  have hll:(lst (.agg 2) ((dB l a' b').map Pa.v)).leafy=true:=by unfold lst;split<;>rfl
  have hb':((b':Int)<(n:Int))=True:=eq_true (by omega)
  have hb0:((0:Int)≤(b':Int))=True:=eq_true (by omega)
  have hlm:dL n ws a' b'=dB l a' b':=by
   unfold dL
   rw[if_pos ⟨hr,by omega,by omega,by omega,by omega⟩,R.eq,we_wy]
   rfl
  have C1:=fun h=>dZ o n ws hl h
  have C2:=fun h=>hf h
  refine aue (aKn hmf hcell hr h1 h2 h3 h4 mB.eq_1 hgd hll hb' hb0 aCC and_self decide_true decide_false) ?_
  refine aF h' (by repeat (first|exact Hp.le_refl _|refine aK hd ?_ (by omega) _|refine aL hd ?_ (by omega))) ⟨?_,rfl⟩
  rw[hlm]
  simp only[jG,go_sem,reduceIte,jA,jB,jC,jD,reduceCtorEq,jE,jF]
set_option maxRecDepth 100000 in
theorem aEn(o:Own)(P:Int)(ws:List Wy)(hl:ws.length≤1000)(a b:Int)(t:Tm)(h:Hp):
 aW Tryz.prog 90 [mps o P ws, .int .i64 a,t.v, .int .i64 b] h (lst (.agg 2) ((ofT (eI t (dL P ws a b))).map Tm.v)):=by
 have hmf:(mps o P ws).fits (.agg 2)=true:=by simp[mps,V.fits,V.leafy,wys]
 have hft:=Tm.fits_v t
 refine aR (fun L=>cE (fun L=>bI (Tm.names_v L) _) L) fun h' nx hh=>aD L.corollaryref22_Could_low fun hd=>?_
 simp only[jL,jM,jA,jB,jN,jO,jP,jQ,V.undef]
 obtain⟨l,hll⟩:∃l,l=dL P ws a b:=⟨_,rfl⟩
 have hlen:l.length≤2:=by rw[hll];exact aAs P ws a b
 obtain⟨ol,hol⟩:=gY (.agg 2) (l.map Pa.v)
 have cL:∀h,aW Tryz.prog 149 [mps o P ws, .int .i64 a, .int .i64 b] h (pas ol l):=fun h=>by
  have e:=aEk o P ws hl a b h
  rw[←hll,hol] at e
  exact e
 rw[←hll]
 clear hll hol
 have C1:=fun h=>cL h
 refine aue (ee2 hmf hft) ?_
 refine aP (fun q:Nat×Own=>aB 41 0 [(6, .ptr (nx+1) (.agg 2) 0 0),(9,pas ol l),(10,tms q.2 (eI t (l.take q.1))),(11, .int .i64 q.1)])
  (fun q hp nx1=>q.1≤l.length∧nx+2≤nx1∧aH hp nx1∧Hp.same (nx+2) ((h'.set nx (.arr (.agg 2) [mps o P ws])).set (nx+1) (.arr (.agg 2) [t.v])) hp∧Acc hp (nx+2) q.2 ((eI t (l.take q.1)).map Tm.v))
  (fun q=>l.length-q.1) (0, .nil) ⟨Nat.zero_le _,by first|omega|(dsimp only;omega),(by(try dsimp only);repeat (first|exact aH.up hd (by omega)|refine aH.set2 ?_ (by omega) _|refine aH.del ?_|refine aH.delO ?_ _)),Hp.same.rfl',Acc.nil⟩ ?_ ?_
 ·simp only[WkL,aB,jH,jI,jJ,tms,pas,List.take_zero,show eI t []=[] from rfl,List.map_nil,go_sem,reduceIte,jA,jB,jC,jD,reduceCtorEq,jE,jF]
 rintro⟨i,oo⟩ hp nx1 ⟨hi,hnx,hdm,hsm,hacc⟩
 generalize hQ:bG _ _ _ _ _=Q0
 dsimp only at hi hacc
 simp only[aB,go_sem,reduceIte,jA,jB,jC,jD,reduceCtorEq,jE,jF]
 have l1:nx+1<nx1:=by omega
 have hm:hp (nx+1)=some (.arr (.agg 2) [t.v]):=by rw[hsm (nx+1) (by omega)];simp only[go_sem,reduceIte,jA,jB,jC,jD,reduceCtorEq,jE,jF]
 have hcap:(eI t (l.take i)).length≤100000:=Nat.le_trans (aAW _ _) (by simp;omega)
 rcases Nat.lt_or_ge i l.length with hlt|hge
 ·have hc:decide ((i:Int)<(l.length:Int))=true:=decide_eq_true (by omega)
  have hg:(l.map Pa.v).getD i (.tup [])=l[i].v:=bE Pa.v l i hlt
  have hw:IntKind.i64.wrap ((i:Int)+1)=((i+1:Nat):Int):=by rw[aV]<;>omega
  have hfp:=Pa.fits_v l[i]
  have heq:∀n:Int,(n==0)=decide (n=0):=fun n=>rfl
  have hn:=aFw t l i hlt
  (repeat' (first|(with_reducible first|refine stp ?_|refine uP (by decide) ?_|refine uQ (fun _=>?_) (fun _=>?_))|((first|(with_reducible refine uA ?_;first|refine uB rfl ?_ ?_|refine qF (n0:=nx+2) rfl (by(try dsimp only);repeat' (first|exact hacc|exact Acc.new _ (by simp) (by omega)|exact kK.new (by omega)|exact aH.ntip hdm (by omega)|exact fW|exact iN (by assumption)|refine fU (by omega) ?_|refine fV ?_|refine Acc.set ?_ ?_ _|refine kK.set ?_ ?_ _)) rfl (by simp) (by simp only[jK,hm,hc,hg,hlt,hw,hfp,hft,l1,heq,Tm.fits_v,jK,go_sem,reduceIte,jA,jB,jC,jD,reduceCtorEq,jE,jF];try omega) ?_|(first|refine uC rfl ?_|refine uD rfl ?_)|refine uE rfl ?_)|(with_reducible refine uF ?_;first|refine uG rfl ?_ ?_|refine mE (aDc l[i] t _) rfl (bH _) ?_|refine mD rfl rfl (by decide) (by(simp only[cJ,go_sem,reduceIte,jA,jB,jC,jD,reduceCtorEq,jE,jF])<;>try omega) (by simp only[go_sem,reduceIte,jA,jB,jC,jD,reduceCtorEq,jE,jF]) (by simp only[go_sem,reduceIte,jA,jB,jC,jD,reduceCtorEq,jE,jF]) (by simp only[Tm.fits_v,hm,hc,hg,hlt,hw,hfp,hft,l1,heq,Tm.fits_v,jK,go_sem,reduceIte,jA,jB,jC,jD,reduceCtorEq,jE,jF]) ?_|(first|refine uH rfl ?_|refine uI rfl ?_)|refine uJ rfl ?_|refine uK (uL ?_)|refine uK (uM ?_))|(with_reducible refine uN ?_;refine uO rfl ?_))<;>try simp only[hm,hc,hg,hlt,hw,hfp,hft,l1,heq,Tm.fits_v,jK,go_sem,reduceIte,jA,jB,jC,jD,reduceCtorEq,jE,jF])|(with_reducible refine uR ?_;refine uS rfl ?_)|omega))
  ·rename_i hx
   rw[if_pos (of_decide_eq_true hx)] at hn
   rw[←hQ]
   refine aC (i+1, .tok (nx1+13)) (by dsimp only;omega) ⟨hlt,by omega,(by(try dsimp only);repeat (first|exact aH.up hdm (by omega)|refine aH.set2 ?_ (by omega) _|refine aH.del ?_|refine aH.delO ?_ _)),(by(try dsimp only);repeat (first|exact hsm|refine aS ?_ (by omega) _|refine aT ?_ (by omega)|refine eN ?_ (fun id e=>by have:=(hacc).ge id e;omega))),?_⟩ ?_
   ·dsimp only;rw[hn,List.map_append];exact Acc.new _ (by simp) (by omega)
   simp only[WkL,aB,jH,jI,jJ,tms,pas,hn,List.map_append,go_sem,reduceIte,jA,jB,jC,jD,reduceCtorEq,jE,jF]
  rename_i hx
  rw[if_neg (of_decide_eq_false hx),List.append_nil] at hn
  rw[←hQ]
  refine aC (i+1,oo) (by dsimp only;omega) ⟨hlt,by omega,(by(try dsimp only);repeat (first|exact aH.up hdm (by omega)|refine aH.set2 ?_ (by omega) _|refine aH.del ?_|refine aH.delO ?_ _)),(by(try dsimp only);repeat (first|exact hsm|refine aS ?_ (by omega) _|refine aT ?_ (by omega)|refine eN ?_ (fun id e=>by have:=(hacc).ge id e;omega))),?_⟩ ?_
  ·dsimp only;rw[hn];exact(by(try dsimp only);repeat' (first|exact hacc|exact Acc.new _ (by simp) (by omega)|exact kK.new (by omega)|exact aH.ntip hdm (by omega)|exact fW|exact iN (by assumption)|refine fU (by omega) ?_|refine fV ?_|refine Acc.set ?_ ?_ _|refine kK.set ?_ ?_ _))
  simp only[WkL,aB,jH,jI,jJ,tms,pas,hn,go_sem,reduceIte,jA,jB,jC,jD,reduceCtorEq,jE,jF]
 have hc:decide ((i:Int)<(l.length:Int))=false:=decide_eq_false (by omega)
 refine aue hc ?_
 rw[←hQ]
 (repeat' (first|(with_reducible first|refine stp ?_|refine uP (by decide) ?_|refine uQ (fun _=>?_) (fun _=>?_))|((first|(with_reducible refine uA ?_;first|refine uB rfl ?_ ?_|refine aM (aEj _ _ (Nat.le_trans hcap (by omega)) _) rfl (aO _) ?_|(first|refine uC rfl ?_|refine uD rfl ?_)|refine uE rfl ?_)|(with_reducible refine uF ?_;first|refine uG rfl ?_ ?_|(first|refine uH rfl ?_|refine uI rfl ?_)|refine uJ rfl ?_|refine uK (uL ?_)|refine uK (uM ?_))|(with_reducible refine uN ?_;refine uO rfl ?_))<;>try simp only[hc,go_sem,reduceIte,jA,jB,jC,jD,reduceCtorEq,jE,jF])|(with_reducible refine uR ?_;refine uS rfl ?_)|omega))
 refine aF h' (hsm.le (fun m b e=>by have:=hd m b e;omega) (by repeat (first|exact Hp.le_refl _|refine aK hd ?_ (by omega) _|refine aL hd ?_ (by omega)))) ⟨?_,rfl⟩
 simp only[←aAa,List.take_of_length_le (show l.length≤i by omega),go_sem,reduceIte,jA,jB,jC,jD,reduceCtorEq,jE,jF]
end Go.Proofs.YtemjhgboialjpaaGreat
namespace Go.Proofs.YtemjhgboialjpaaGreat
open Go.RowKit Go.Sort
attribute [local irreducible] IntKind.wrap
noncomputable def vI(P:Int)(ws:List Wy)(C:List Cg)(b:Int):List Tm:=(fN C).flatMap fun x=>ofT (eI x.s.t (dL P ws x.s.p b))
theorem aHX(P:Int)(ws:List Wy)(C:List Cg)(b:Int){i:Nat}(h:i<C.length):vI P ws (C.take (i+1)) b=vI P ws (C.take i) b++if C[i].d>0 then ofT (eI C[i].s.t (dL P ws C[i].s.p b)) else []:=by
 unfold vI
 rw[aCP C h,List.flatMap_append]
 congr 1
 split<;>simp
theorem aAU(P:Int)(ws:List Wy)(t:Tm)(a b:Int):(ofT (eI t (dL P ws a b))).length≤2:=by
 have h1:=aGU (eI t (dL P ws a b))
 have h2:=aAW t (dL P ws a b)
 have h3:=aAs P ws a b
 omega
theorem aJi(P:Int)(ws:List Wy)(C:List Cg)(b:Int):(vI P ws C b).length≤2*C.length:=by
 have:∀l:List Cg,(l.flatMap fun x=>ofT (eI x.s.t (dL P ws x.s.p b))).length≤2*l.length:=by
  intro l
  induction l with
  |nil=>simp
  |cons x l ih=>
   have:=aAU P ws x.s.t x.s.p b
   rw[List.flatMap_cons,List.length_append,jL]
   omega
 have h1:=this (fN C)
 have h2:(fN C).length≤C.length:=List.length_filter_le _ _
 unfold vI
 omega
set_option maxRecDepth 100000 in
set_option maxHeartbeats 4000000 in
theorem aEl(om o:Own)(P:Int)(ws:List Wy)(C:List Cg)(b:Int)(hl:ws.length≤1000)(hC:C.length≤10000)(hb:0≤b∧b<P)(h:Hp):
 aW Tryz.prog 30 [mps om P ws,cgs o C, .int .i64 b] h (lst (.agg 2) ((yT P ws C b).map Tm.v)):=by
 have hmf:(mps om P ws).fits (.agg 2)=true:=by simp[mps,V.fits,V.leafy,wys]
 have hcell:(mps om P ws).cell 0= .int .i64 P:=rfl
 have hb0:decide (b<0)=false:=dcf
 have hb1:decide (b≥P)=false:=dcf
 refine aR (fun L=>cE (fun L=>bI (Tm.names_v L) _) L) fun h' nx hh=>aD L.corollaryref23_Front_low fun hd=>?_
 simp only[jL,jM,jA,jB,jN,jO,jP,jQ,V.undef]
 refine aue (e4 hmf hcell hb0 hb1) ?_
 refine aP (fun q:Nat×Own=>aB 48 0 [(1,cgs o C),(2, .int .i64 b),(3, .ptr nx (.agg 2) 0 0),(7,tms q.2 (vI P ws (C.take q.1) b)),(8, .int .i64 q.1)])
  (fun q hp nx1=>q.1≤C.length∧nx+1≤nx1∧aH hp nx1∧Hp.same nx h' hp∧hp nx=some (.arr (.agg 2) [mps om P ws])∧Acc hp (nx+1) q.2 ((vI P ws (C.take q.1) b).map Tm.v))
  (fun q=>C.length-q.1) (0, .nil) ⟨Nat.zero_le _,by first|omega|(dsimp only;omega),dmo hd,kep Hp.same.rfl',by simp[Hp.set],Acc.nil⟩ (by simp only[WkL,aB,jH,jI,jJ,tms,cgs,List.take_zero,show vI P ws [] b=[] from rfl,List.map_nil,go_sem,reduceIte,jA,jB,jC,jD,reduceCtorEq,jE,jF]) ?_
 rintro⟨i,oo⟩ hp nx1 ⟨hi,hnx,hdm,hsm,hbx,hacc⟩
 generalize hQ:bG _ _ _ _ _=Q0
 dsimp only at hi hacc
 simp only[aB,cgs,tms,go_sem,reduceIte,jA,jB,jC,jD,reduceCtorEq,jE,jF]
 have hlt0:nx<nx1:=by omega
 have hgl:(vI P ws (C.take i) b).length≤100000:=by
  have:=aJi P ws (C.take i) b
  simp at this;omega
 rcases Nat.lt_or_ge i C.length with hlt|hge
 ·have hc1:decide ((i:Int)<(C.length:Int))=true:=dct
  have hw1:IntKind.i64.wrap ((i:Int)+1)=((i+1:Nat):Int):=wrp
  have hg:=aBd C i hlt
  have hst:=aHX P ws C b hlt
  cases hpos:decide (C[i].d>0) with
  |false=>
   rw[if_neg (of_decide_eq_false hpos),List.append_nil] at hst
   refine aue (e7 hc1 hw1 hg hlt hpos (@jK Cg V) jG) ?_
   rw[←hQ]
   exact aC (i+1,oo) (by dsimp only;omega) ⟨hlt,by first|omega|(dsimp only;omega),dmo hdm,hsm,hbx,by dsimp only;rw[hst];exact acc hacc hdm⟩ (by simp only[WkL,aB,jH,jI,jJ,cgs,tms,hst,go_sem,reduceIte,jA,jB,jC,jD,reduceCtorEq,jE,jF])
  |true=>
   rw[if_pos (of_decide_eq_true hpos)] at hst
   have hcl:=aAU P ws C[i].s.t C[i].s.p b
   obtain⟨ox,hox⟩:=gY (.agg 2) ((ofT (eI C[i].s.t (dL P ws C[i].s.p b))).map Tm.v)
   have D1:∀h,aW Tryz.prog 90 [mps om P ws, .int .i64 C[i].s.p, .agg [.int .i64 C[i].s.t.e, .int .i64 C[i].s.t.r], .int .i64 b] h (.sl (.agg 2) ox ((ofT (eI C[i].s.t (dL P ws C[i].s.p b))).map Tm.v)):=fun h=>by
    have:=aEn om P ws hl C[i].s.p b C[i].s.t h
    rw[hox] at this;exact this
   generalize ofT (eI C[i].s.t (dL P ws C[i].s.p b))=Y at*
   have hbd:∀{a:Nat},a≤100000→(a+Y.length)*16≤140737488355328:=fun h=>by omega
   rcases hacc with⟨he,rfl⟩|⟨hne,id,hid,rfl,htip⟩
   ·have he2:vI P ws (C.take i) b=[]:=List.map_eq_nil_iff.1 he
    rw[he]
    rw[he2,jQ] at hst
    have hbd0:=hbd (a:=0) (by omega)
    rcases Y with _|⟨y,Y⟩
    ·refine aue (e11 hc1 hw1 hg hlt hpos hbx hlt0 hmf (@jK Cg V) jG hcell) ?_
     rw[←hQ]
     exact aC (i+1, .nil) (by dsimp only;omega) ⟨hlt,by first|omega|(dsimp only;omega),dmo hdm,hsm,hbx, .inl ⟨by dsimp only;rw[hst];rfl,rfl⟩⟩ (by simp only[WkL,aB,jH,jI,jJ,cgs,tms,hst,go_sem,reduceIte,jA,jB,jC,jD,reduceCtorEq,jE,jF])
    simp only[jL,Nat.zero_add] at hbd0
    refine aue (e14 hc1 hw1 hg hlt hpos hbx hlt0 hmf (@jK Cg V) (@jK Tm V) jG hcell hbd0 (@List.isEmpty_cons V)) ?_
    rw[←hQ]
    refine aC (i+1, .tok (nx1+16)) (by dsimp only;omega) ⟨hlt,by first|omega|(dsimp only;omega),dmo hdm,kep hsm,?_,?_⟩ (by simp only[WkL,aB,jH,jI,jJ,cgs,tms,hst,go_sem,reduceIte,jA,jB,jC,jD,reduceCtorEq,jE,jF])
    ·simp only[Hp.set];rw[if_neg (by omega)];exact hbx
    dsimp only;rw[hst];exact Acc.new _ (by simp) (by omega)
   have hidn:id<nx1:=hdm id _ htip
   have hbd0:=hbd (a:=(vI P ws (C.take i) b).length) hgl
   have ca:iV hp nx1 [0,1,2,3,4,5,6,7,8,9,10,11,12,13,14,15] [none,none,none,none,none,none,none,none,none,none,none,none,none,none,none,none] [none,none,none,none,none,none,none,none,none,none,none,none,none,none,none,none] id Blk.tip:=⟨by simp[cJ], .inl ⟨hidn,htip⟩⟩
   refine aue (e14 hc1 hw1 hg hlt hpos hbx hlt0 hmf (@jK Cg V) (@jK Tm V) jG hcell hbd0 ca) ?_
   rw[←hQ]
   refine aC (i+1, .tok (nx1+16)) (by dsimp only;omega) ⟨hlt,by first|omega|(dsimp only;omega),dmo hdm,?_,?_,?_⟩ (by simp only[WkL,aB,jH,jI,jJ,cgs,tms,hst,List.map_append,go_sem,reduceIte,jA,jB,jC,jD,reduceCtorEq,jE,jF])
   ·exact kep hsm
   ·simp only[Hp.set,Hp.del];rw[if_neg (by omega),if_neg (by omega)];exact hbx
   dsimp only;rw[hst,List.map_append]
   have hne3:(vI P ws (C.take i) b).map Tm.v++Y.map Tm.v≠ []:=fun e=>hne (List.append_eq_nil_iff.1 e).1
   exact(Acc.new _ hne3 (by omega)).del (fun e=>by injection e;omega)
 have hc1:decide ((i:Int)<(C.length:Int))=false:=dcf
 have hil:C.take i=C:=List.take_of_length_le (by omega)
 rw[hil] at hacc hgl⊢
 have C1:∀h,aW Tryz.prog 91 [.sl (.agg 2) oo ((vI P ws C b).map Tm.v)] h (lst (.agg 2) ((yT P ws C b).map Tm.v)):=fun h=>by
  have:=aEj oo (vI P ws C b) (by omega) h
  rw[←aAa] at this
  exact this
 refine aue (e2 hc1 (@jK Cg V)) ?_
 rw[←hQ]
 refine au ?_
 refine aF h' (hsm.le hd (Hp.le_refl _)) ⟨?_,rfl⟩
 simp only[go_sem,reduceIte,jA,jB,jC,jD,reduceCtorEq,jE,jF]
end Go.Proofs.YtemjhgboialjpaaGreat
