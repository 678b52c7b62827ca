/-
Texts of this proof,one behind the other. No conditions.
-/
import Derived.Test.YtecepaehmojpgaaGreatNd
import Derived.Test.YtecepaehmojpgaaGreatNk
import Derived.Test.YtecepaehmojpgaaGreatNj
import Derived.Test.YtecepaehmojpgaaGreatNl
import Derived.Test.YtecepaehmojpgaaGreatNn
open List renaming map_append→Ka
open Nat renaming le_trans→Kb
open Nat renaming reduceAdd→jA,reduceSub→jB,reduceLT→jC,reduceLeDiff→jD,reduceEqDiff→jE
open Int renaming reduceToNat→jF,toNat_natCast→jG,natCast_add→jH,natCast_one→jI,natCast_zero→jJ
open List renaming length_map→jK,length_cons→jL,length_nil→jM,replicate_succ→jN,replicate_zero→jO,cons_append→jP,nil_append→jQ
set_option linter.unusedSimpArgs false
set_option linter.unusedVariables false
set_option linter.unusedSectionVars false
set_option maxHeartbeats 8000000
namespace Go.Proofs.YtecepaehmojpgaaGreat
open Go.RowKit Go.Sort
attribute [local irreducible] IntKind.wrap
theorem tY(P:Int)(ws:List Wy)(a b:Int):(dL P ws a b).length≤2:=qC (wp P ws a b)
set_option maxRecDepth 100000 in
theorem qf(o:Own)(P:Int)(ws:List Wy)(hl:ws.length≤1000)(a b:Int)(h:Hp):
 aX Tryz.prog 87 [mps o P ws, .int .i64 a, .int .i64 b] h (lst (.agg 2) ((dL P ws a b).map Pa.v)):=by
 have hmf:(mps o P ws).fits (.agg 2)=true:=by simp[mps,V.fits,V.aAD,wys]
 have aAJ:(mps o P ws).cell 0= .int .i64 P:=rfl;refine aP (fun L=>cP (fun L=>bE (Pa.aAM L) _) L) fun h' nx hh=>aD L.aVR fun hd=>?_;simp only[jL,jM,jA,jB,jN,jO,jP,jQ,V.undef];have out:∀(hn':dL P ws a b=[]) (sl:List V) (nx2:Nat),sl.getD 6 V.undef= .sl (.agg 2) .nil []→iU [rS.slot 6] (fun v' h'' x=>v'=lst (.agg 2) ((dL P ws a b).map Pa.v)∧h''=h') cK.ret ⟨sl,h'.set nx (.arr (.agg 2) [mps o P ws]),nx2⟩:=fun hn' sl nx2 e=>by
  refine aG h' (by repeat (first|exact Hp.le_refl _|refine aH hd ?_ or _|refine aL hd ?_ or)) ⟨by rw[hn'];exact e,rfl⟩
 cases hr:eK P ws with
 |false=>
  have C1:=fun h=>eL o P ws hl h;refine aue (ee3 hmf aAJ hr) ?_;exact out (by simp[dL,hr]) _ _ rfl
 |true=>
  obtain⟨n,l,R⟩:=(jX P ws).1 hr;have hP:=R.pl;have hn:=R.le;have hlw:l.length≤1000:=by have:=R.eq;rw[this] at hl;simpa using hl
  subst hP;by_cases h1:a<0
  ·have C1:=fun h=>eL o n ws hl h;refine aue (ee6 hmf aAJ hr h1 decide_true decide_false) ?_;exact out (by unfold dL;rw[if_neg or]) _ _ rfl
  by_cases h2:b<0
  ·have C1:=fun h=>eL o n ws hl h;refine aue (ee7 hmf aAJ hr h1 h2 decide_true decide_false) ?_;exact out (by unfold dL;rw[if_neg or]) _ _ rfl
  by_cases h3:a≥n
  ·have C1:=fun h=>eL o n ws hl h;refine aue (ee8 hmf aAJ hr h1 h2 h3 decide_true decide_false) ?_;exact out (by unfold dL;rw[if_neg or]) _ _ rfl
  by_cases h4:b≥n
  ·have C1:=fun h=>eL o n ws hl h;refine aue (ee9 hmf aAJ hr h1 h2 h3 h4 decide_true decide_false) ?_;exact out (by unfold dL;rw[if_neg or]) _ _ rfl
  obtain⟨a',rfl⟩:∃a':Nat,a=a':=⟨a.toNat,or⟩;obtain⟨b',rfl⟩:∃b':Nat,b=b':=⟨b.toNat,or⟩;have hm:mps o n ws= .agg [.int .i64 n,wes o l]:=by rw[R.eq];simp only[mps,wys,wes,List.map_map];rfl
  have hf:∀h,aX Tryz.prog 119 [mps o n ws, .int .i64 a'] h (lL n l a'):=fun h=>by rw[hm];exact mj o n l a' R.fit R.aBO or hn hlw h
  have hbn:b'<(iY n l a').length:=by rw[sM];omega
  have hgd:((iY n l a').map fun m:List Pa=>lst (.agg 2) (m.map Pa.v)).getD b' (.tup [])=lst (.agg 2) ((dB l a' b').map Pa.v):=by
   rw[bI _ _ _ hbn];simp[iY]
  have hll:(lst (.agg 2) ((dB l a' b').map Pa.v)).aAD=true:=by unfold lst;split<;>rfl
  have hb':((b':Int)<(n:Int))=True:=eq_true or;have hb0:((0:Int)≤(b':Int))=True:=eq_true or;have hlm:dL n ws a' b'=dB l a' b':=by
   unfold dL;rw[if_pos ⟨hr,or,or,or,or⟩,R.eq,aFu];rfl
  have C1:=fun h=>eL o n ws hl h;have C2:=fun h=>hf h;refine aue (xg hmf aAJ hr h1 h2 h3 h4 lL.eq_1 hgd hll hb' hb0 sM and_self decide_true decide_false) ?_;refine aG h' (by repeat (first|exact Hp.le_refl _|refine aH hd ?_ or _|refine aL hd ?_ or)) ⟨?_,rfl⟩;rw[hlm];simp only[jG,go_sem,reduceIte,jA,jB,jC,jD,reduceCtorEq,jE,jF]
set_option maxRecDepth 100000 in
theorem qg(o:Own)(P:Int)(ws:List Wy)(hl:ws.length≤1000)(a b:Int)(t:Tm)(h:Hp):
 aX Tryz.prog 55 [mps o P ws, .int .i64 a,t.v, .int .i64 b] h (lst (.agg 2) ((ofT (fH t (dL P ws a b))).map Tm.v)):=by
 have hmf:(mps o P ws).fits (.agg 2)=true:=by simp[mps,V.fits,V.aAD,wys]
 have hft:=Tm.aAC t;refine aP (fun L=>cP (fun L=>bE (Tm.aAM L) _) L) fun h' nx hh=>aD L.aVs fun hd=>?_;simp only[jL,jM,jA,jB,jN,jO,jP,jQ,V.undef];obtain⟨l,hll⟩:∃l,l=dL P ws a b:=⟨_,rfl⟩;have hlen:l.length≤2:=by rw[hll];exact tY P ws a b
 obtain⟨ol,hol⟩:=mQ (.agg 2) (l.map Pa.v);have cL:∀h,aX Tryz.prog 87 [mps o P ws, .int .i64 a, .int .i64 b] h (pas ol l):=fun h=>by
  have e:=qf o P ws hl a b h;rw[←hll,hol] at e;exact e
 rw[←hll];clear hll hol;have C1:=fun h=>cL h;refine aue (ee2 hmf hft) ?_
 refine aT (fun q:Nat×Own=>aB 41 0 [(6, .ptr (nx+1) (.agg 2) 0 0),(9,pas ol l),(10,tms q.2 (fH t (l.take q.1))),(11, .int .i64 q.1)])
  (fun q hp nx1=>q.1≤l.length∧nx+2≤nx1∧aK hp nx1∧Hp.same (nx+2) ((h'.set nx (.arr (.agg 2) [mps o P ws])).set (nx+1) (.arr (.agg 2) [t.v])) hp∧Acc hp (nx+2) q.2 ((fH t (l.take q.1)).map Tm.v))
  (fun q=>l.length-q.1) (0, .nil) ⟨Nat.zero_le _,ZN,(by(try dsimp only);repeat (first|exact aK.up hd or|refine aK.aAh ?_ or _|refine aK.del ?_|refine aK.aAb ?_ _)),Hp.same.aBI,Acc.nil⟩ ?_ ?_
 ·simp only[WkL,aB,jH,jI,jJ,tms,pas,List.take_zero,show fH t []=[] from rfl,List.map_nil,go_sem,reduceIte,jA,jB,jC,jD,reduceCtorEq,jE,jF]
 rintro⟨i,oo⟩ hp nx1 ⟨hi,hnx,hdm,hsm,aAl⟩;generalize hQ:bO _ _ _ _ _=Q0;dsimp only at hi aAl;simp only[aB,go_sem,reduceIte,jA,jB,jC,jD,reduceCtorEq,jE,jF];have l1:nx+1<nx1:=or;have hm:hp (nx+1)=some (.arr (.agg 2) [t.v]):=by rw[hsm (nx+1) or];simp only[go_sem,reduceIte,jA,jB,jC,jD,reduceCtorEq,jE,jF]
 have aAW:(fH t (l.take i)).length≤100000:=Kb (fh _ _) (by simp;omega);rcases Nat.lt_or_ge i l.length with hlt|hge
 ·have hc:decide ((i:Int)<(l.length:Int))=true:=decide_eq_true or;have hg:(l.map Pa.v).getD i (.tup [])=l[i].v:=bI Pa.v l i hlt;have hw:IntKind.i64.wrap ((i:Int)+1)=((i+1:Nat):Int):=by rw[aY]<;>omega
  have hfp:=Pa.aAC l[i];have heq:∀n:Int,(n==0)=decide (n=0):=fun n=>rfl;have hn:=tr t l i hlt
  (repeat' (first|(with_reducible first|refine stp ?_|refine bG ZM ?_|refine iI (fun _=>?_) (fun _=>?_))|((first|(with_reducible refine fO ?_;first|refine eH rfl ?_ ?_|refine rD (n0:=nx+2) rfl (by(try dsimp only);repeat' (first|exact aAl|exact Acc.new _ Zm or|exact kE.new or|exact aK.aEJ hdm or|exact gJ|exact jU (by assumption)|refine gH or ?_|refine gI ?_|refine Acc.set ?_ ?_ _|refine kE.set ?_ ?_ _)) rfl Zm (by simp only[jK,hm,hc,hg,hlt,hw,hfp,hft,l1,heq,Tm.aAC,jK,go_sem,reduceIte,jA,jB,jC,jD,reduceCtorEq,jE,jF];try omega) ?_|refine Zx ?_)|(with_reducible refine fP ?_;first|refine bY rfl ?_ ?_|refine kC (mg l[i] t _) rfl (bK _) ?_|refine mU rfl rfl ZM (by(simp only[cU,go_sem,reduceIte,jA,jB,jC,jD,reduceCtorEq,jE,jF])<;>try omega) (by simp only[go_sem,reduceIte,jA,jB,jC,jD,reduceCtorEq,jE,jF]) (by simp only[go_sem,reduceIte,jA,jB,jC,jD,reduceCtorEq,jE,jF]) (by simp only[Tm.aAC,hm,hc,hg,hlt,hw,hfp,hft,l1,heq,Tm.aAC,jK,go_sem,reduceIte,jA,jB,jC,jD,reduceCtorEq,jE,jF]) ?_|refine ZX ?_)|refine Zy ?_)<;>try simp only[hm,hc,hg,hlt,hw,hfp,hft,l1,heq,Tm.aAC,jK,go_sem,reduceIte,jA,jB,jC,jD,reduceCtorEq,jE,jF])|refine ZY ?_|omega))
  ·rename_i hx;rw[if_pos (of_decide_eq_true hx)] at hn;rw[←hQ];refine aF (i+1, .tok (nx1+13)) Zw ⟨hlt,or,(by(try dsimp only);repeat (first|exact aK.up hdm or|refine aK.aAh ?_ or _|refine aK.del ?_|refine aK.aAb ?_ _)),(by(try dsimp only);repeat (first|exact hsm|refine aV ?_ or _|refine aW ?_ or|refine eY ?_ (fun id e=>by have:=(aAl).ge id e;omega))),?_⟩ ?_
   ·dsimp only;rw[hn,Ka];exact Acc.new _ Zm or
   simp only[WkL,aB,jH,jI,jJ,tms,pas,hn,Ka,go_sem,reduceIte,jA,jB,jC,jD,reduceCtorEq,jE,jF]
  rename_i hx;rw[if_neg (of_decide_eq_false hx),List.append_nil] at hn;rw[←hQ];refine aF (i+1,oo) Zw ⟨hlt,or,(by(try dsimp only);repeat (first|exact aK.up hdm or|refine aK.aAh ?_ or _|refine aK.del ?_|refine aK.aAb ?_ _)),(by(try dsimp only);repeat (first|exact hsm|refine aV ?_ or _|refine aW ?_ or|refine eY ?_ (fun id e=>by have:=(aAl).ge id e;omega))),?_⟩ ?_
  ·dsimp only;rw[hn];exact(by(try dsimp only);repeat' (first|exact aAl|exact Acc.new _ Zm or|exact kE.new or|exact aK.aEJ hdm or|exact gJ|exact jU (by assumption)|refine gH or ?_|refine gI ?_|refine Acc.set ?_ ?_ _|refine kE.set ?_ ?_ _))
  simp only[WkL,aB,jH,jI,jJ,tms,pas,hn,go_sem,reduceIte,jA,jB,jC,jD,reduceCtorEq,jE,jF]
 have hc:decide ((i:Int)<(l.length:Int))=false:=decide_eq_false or;refine aue hc ?_;rw[←hQ]
 (repeat' (first|(with_reducible first|refine stp ?_|refine bG ZM ?_|refine iI (fun _=>?_) (fun _=>?_))|((first|(with_reducible refine fO ?_;first|refine eH rfl ?_ ?_|refine aQ (Bm _ _ (Kb aAW or) _) rfl (aU _) ?_|refine Zx ?_)|(with_reducible refine fP ?_;first|refine bY rfl ?_ ?_|refine ZX ?_)|refine Zy ?_)<;>try simp only[hc,go_sem,reduceIte,jA,jB,jC,jD,reduceCtorEq,jE,jF])|refine ZY ?_|omega))
 refine aG h' (hsm.le (fun m b e=>by have:=hd m b e;omega) (by repeat (first|exact Hp.le_refl _|refine aH hd ?_ or _|refine aL hd ?_ or))) ⟨?_,rfl⟩;simp only[←xX,List.take_of_length_le (show l.length≤i by omega),go_sem,reduceIte,jA,jB,jC,jD,reduceCtorEq,jE,jF]
end Go.Proofs.YtecepaehmojpgaaGreat
