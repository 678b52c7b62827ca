/-
Texts of this proof,one behind the other. No conditions.
-/
import Derived.Test.YtjfdoohogiojcaaGreatDoorKg
import Derived.Test.YtjfdoohogiojcaaGreatDoorKd
import Derived.Test.YtjfdoohogiojcaaGreatDoorKo
import Derived.Test.YtjfdoohogiojcaaGreatDoorKk
import Derived.Test.YtjfdoohogiojcaaGreatDoorKn
open Go.Proofs.YtjfdoohogiojcaaGreatDoor.Hp renaming le_refl→Ka,same→Kb,set→Kc
open List renaming getElem?_eq_getElem→Kd,getD_eq_getElem?_getD→Ke,getElem_mem→Kf,mem_singleton→Kg,take_succ_eq_append_getElem→Kh,length_append→Kk,length_map→Km,mem_append→Ko,drop_eq_getElem_cons→Kq,map_append→Ku,mem_map→Kv,take_of_length_le→KB,sizeOf_lt_of_mem→KD,mem_cons_of_mem→KF,length_eraseIdx→KG,mem_cons_self→KI,map_map→KJ,drop_length→KM,length_cons→KN,take→KS,map_take→KT,map_nil→KU
open Nat renaming zero_le→Ki,lt_or_ge→Kj,le_refl→Ks,reduceAdd→Kw,reduceSub→Kx,reduceLeDiff→Kz,reduceEqDiff→KA,reduceLT→KK
open Function renaming comp_def→Kp
open Go.IntKind renaming wrap→Kt
open Int renaming toNat_natCast→Ky,reduceToNat→KC,natCast_zero→KO,natCast_add→KQ,natCast_one→KR
open Bool renaming not_false→KE,not_true→KH,and_eq_true→KL,eq_iff_iff→KP
set_option linter.unusedSimpArgs false
set_option linter.unusedVariables false
set_option linter.unusedSectionVars false
set_option maxHeartbeats 8000000
open Nat renaming reduceAdd→jA,reduceSub→jB,reduceLT→jC,reduceLeDiff→jD,reduceEqDiff→jE
open Int renaming reduceToNat→jF,toNat_natCast→jG,natCast_add→jH,natCast_one→jI,natCast_zero→jJ
open List renaming length_map→jK,length_cons→jL,length_nil→jM,replicate_succ→jN,replicate_zero→jO,cons_append→jP,nil_append→jQ
namespace Go.Proofs.YtjfdoohogiojcaaGreatDoor
open Go.RowKit
theorem vM{v:V}(h:v.aAE=true):v.loose.aAE=true:=by
 cases v with
 |sl k o es=>cases o<;>rfl
 |_=>first|exact h|rfl
theorem VR.deep{K:Ker}{own:Own}{es:List V}{cv:Value}(r:VR K (.sl .leaf own es) cv):VR K (.sl .leaf own (es.map V.loose)) cv:=by
 cases r with
 |slnil=>exact .slnil _
 |slz _ a=>exact .slz _ a
 |sl _ _ _ b off cap f hb aAG hcell hst hv hcap aAd aAR aAz=>
  have hl:es.length=(es.map V.loose).length:=(Km ..).symm;have:=VR.sl (K:=K) .leaf own (es.map V.loose) b off cap f hb (fun e he=>by
   obtain⟨x,hx,rfl⟩:=Kv.1 he;have:=aAG x hx;rw[kL] at this⊢;exact vM this) (by rw[←hl];exact hcell) (by rw[←hl];exact hst) (fun i hi j hj=>by
   rw[←hl] at hi;have h1:=hv i hi j hj;have hm:es.getD i V.undef∈es:=by rw[Ke,Kd hi];exact Kf _
   have hf:=aAG _ hm;rw[kL] at hf;have hj0:j=0:=by simp[Sh.size] at hj;exact hj
   subst hj0;have e1:(es.map V.loose).getD i V.undef=(es.getD i V.undef).loose:=by
    rw[Ke,Ke,List.getElem?_map,Kd hi];rfl
   rw[gV hf] at h1;rw[e1,gV (vM hf)];exact h1.loose) (by rw[←hl];exact hcap) aAd (by rw[←hl];exact aAR) (by rw[←hl];exact aAz)
  rw[←hl] at this;exact this
theorem sf{sl:List V}{h:Hp}{nx:Nat}(t:Nat){own:Own}{es:List V}(ht:sl.getD t V.undef= .sl .leaf own es):rL ⟨sl,h,nx⟩ ⟨sl.set t (.sl .leaf own (es.map V.loose)),h,nx⟩:=by
 intro K0 K nx0 a r;have hv:=r.aAD.2 t;rw[ht] at hv;exact⟨K,rfl,r.le,r.aAD.set hv.deep,r.rel,r.live,r.nx,r.defers⟩
end Go.Proofs.YtjfdoohogiojcaaGreatDoor
namespace Go.Proofs.YtjfdoohogiojcaaGreatDoor
open Go.RowKit Go.Sort
attribute [local irreducible] Kt
theorem iu(o1 o2:Own)(a b:List Vl)(ha:a.length≤1000000000)(hb:b.length≤1000000000)(h:Hp):aO Tryz.prog 84 [vls o1 a,vls o2 b] h (.bool (decide (a=b))):=by
 refine aI (fun L=>trivial) fun h' nx hh=>aB L.aST fun hd=>?_;simp only[jL,jM,jA,jB,jN,jO,jP,jQ,V.undef];have C1:=fun h=>qT o1 o2 a b ha h;have C2:=fun h=>qT o2 o1 b a hb h;have he:decide (a=b)=(!nL a b&& !nL b a):=by
  rw[KP];simp only[nL,decide_eq_true_eq,KL,Bool.not_eq_true',decide_eq_false_iff_not];constructor
  ·rintro rfl;simp[bK,c3T.self]
  rintro⟨h1,h2⟩;rw[c3T.aC8] at h2;exact(c3T.eq a b).1 or
 rw[he];cases h1:nL a b with
 |true=>
  rw[h1] at C1;refine aue (e2 KH KE) ?_;exact aC h' (leo hd) ⟨rfl,rfl⟩
 |false=>
  rw[h1] at C1;refine aue (e2 KH KE) ?_;refine aC h' (leo hd) ⟨?_,rfl⟩;simp
abbrev lsV(ls:List (List Vl)):List V:=ls.map fun t=>vls .free t
def fY(ar:Int)(ls:List (List Vl)):V:= .agg [.int .i64 ar,lst .leaf (lsV ls)]
theorem mN(ls:List (List Vl))(L:Nat→Prop):bM L (lsV ls):=by
 induction ls with
 |nil=>trivial
 |cons x xs ih=>exact⟨pG x Zm L,ih⟩
theorem n8(ar:Int)(ls:List (List Vl))(L:Nat→Prop):(fY ar ls).names L:=⟨trivial,gS (fun L=>mN ls L) L,trivial⟩
theorem mJ(ar:Int)(ls:List (List Vl)):(fY ar ls).fits (.agg 2)=true:=by
 unfold fY;cases ls<;>rfl
theorem sx(ar:Int)(ls:List (List Vl))(hl:ls.length≤1000000000)(hr:∀t∈ls,t.length≤1000000000)(o2:Own)(t:List Vl)(ht:t.length≤1000000000)(h:Hp):aO Tryz.prog 50 [fY ar ls,vls o2 t] h (.bool (decide (t∈ls))):=by
 refine aI (fun L=>trivial) fun h' nx hh=>aB L.aS8 fun hd=>?_;simp only[jL,jM,jA,jB,jN,jO,jP,jQ,V.undef];obtain⟨ow,how⟩:=iR .leaf (lsV ls);have hrv:fY ar ls= .agg [.int .i64 ar, .sl .leaf ow (lsV ls)]:=by rw[fY,how]
 rw[hrv];refine au ?_
 refine aT (fun i:Nat=>aD 20 0 [(1,vls o2 t),(2, .ptr nx (.agg 2) 0 0),(5, .int .i64 i)])
  (fun i hp nx1=>i≤ls.length∧nx+1≤nx1∧aW hp nx1∧Kb nx h' hp∧hp nx=some (.arr (.agg 2) [.agg [.int .i64 ar, .sl .leaf ow (lsV ls)]])∧t∉ls.take i) (fun i=>ls.length-i) 0 ⟨Ki _,ZN,dmo hd,kep Hp.same.aAt,by simp[Kc],Zm⟩ (by simp only[WkL,aD,jH,jI,jJ,go_sem,reduceIte,jA,jB,jC,jD,reduceCtorEq,jE,jF]) ?_
 rintro i hp nx1 ⟨hi,hnx,hdm,hsm,hbx,hno⟩;generalize hQ:bB _ _ _ _ _=Q0;simp only[aD,go_sem,reduceIte,jA,jB,jC,jD,reduceCtorEq,jE,jF];have hle:=hsm.le hd (Ka _);have hn0:nx<nx1:=or;have aEd:(lsV ls).length=ls.length:=jK ..;rcases Kj i ls.length with hlt|hge
 ·have hc:decide ((i:Int)<(ls.length:Int))=true:=dct;have hw:IntKind.i64.wrap ((i:Int)+1)=((i+1:Nat):Int):=wrp;have hg:(lsV ls).getD i (.tup [])=vls .free ls[i]:=aR (fun t=>vls .free t) ls i hlt;have C1:=fun h=>iu .free o2 ls[i] t (hr _ (Kf _)) ht h;have E:=e8 hc hw hg hlt aEd hbx hn0 jG;cases he:decide (ls[i]=t) with
  |true=>
   rw[he] at C1;have hin:t∈ls:=(of_decide_eq_true he)▸Kf hlt;refine aue E ?_;rw[←hQ];refine au ?_;exact aC h' (lef hd hle) ⟨by rw[decide_eq_true hin]<;>rfl,rfl⟩
  |false=>
   rw[he] at C1;refine aue E ?_;rw[←hQ];refine aH (i+1) or ⟨hlt,or,dmo hdm,kep hsm,hbx,fun hm=>?_⟩ (by simp only[WkL,aD,jH,jI,jJ,hw,go_sem,reduceIte,jA,jB,jC,jD,reduceCtorEq,jE,jF]);rw[Kh hlt] at hm;rcases Ko.1 hm with hm|hm
   ·exact hno hm
   exact(of_decide_eq_false he) (Kg.1 hm).symm
 have hc:decide ((i:Int)<(ls.length:Int))=false:=dcf;rw[KB hge] at hno;refine aue (e4 hc aEd hbx hn0) ?_;rw[←hQ];refine au ?_;exact aC h' (lef hd hle) ⟨by rw[decide_eq_false hno]<;>rfl,rfl⟩
theorem Ae(ls:List (List Vl))(h:ls≠ []):lst .leaf (lsV ls)= .sl .leaf .free (lsV ls):=by
 cases ls with
 |nil=>exact absurd rfl h
 |cons a b=>rfl
set_option maxHeartbeats 2000000 in
theorem tO(ar:Int)(ls:List (List Vl))(hs:Str bK ls)(hl:ls.length≤1000000)(hr:∀t∈ls,t.length≤1000000)(o2:Own)(t:List Vl)(ht:t.length≤1000000)(h:Hp):aO Tryz.prog 27 [fY ar ls,vls o2 t] h (fY ar (jY bK t ls)):=by
 refine lY (fun L=>n8 _ _ L) fun h' nx hh=>aB L.aTe fun hd=>?_;simp only[jL,jM,jA,jB,jN,jO,jP,jQ,V.undef];obtain⟨ow,how⟩:=iR .leaf (lsV ls);have hrv:fY ar ls= .agg [.int .i64 ar, .sl .leaf ow (lsV ls)]:=by rw[fY,how]
 have hlo:(fY ar ls).loose=fY ar ls:=by
  unfold fY;cases ls<;>rfl
 have C1:=fun h=>sx ar ls or (fun q hq=>by have:=hr q hq;omega) o2 t or h;rw[hrv] at C1 hlo⊢;have hfz:V.fits (.agg 2) (.agg [.int .i64 ar, .sl .leaf ow (lsV ls)])=true:=rfl;cases hm:decide (t∈ls) with
 |true=>
  rw[hm] at C1;have hin:=fq c3T hs (of_decide_eq_true hm);refine aue hfz ?_;refine hP (by simp only[go_sem,reduceIte,jA,jB,jC,jD,reduceCtorEq,jE,jF]) _ (Ka _) ⟨?_,leo hd⟩;refine Zn ?_;rw[hin,hrv];exact hlo
 |false=>
 rw[hm] at C1;have hni:t∉ls:=of_decide_eq_false hm;have aEd:(lsV ls).length=ls.length:=jK ..;refine aue hfz ?_
 refine aT (fun k:Nat=>aD 48 0 [(1,vls o2 t),(2, .ptr nx (.agg 2) 0 0),(4, .ptr (nx+1) (.agg 2) 0 0),(5, .int .i64 k)])
  (fun k hp nx1=>k≤ls.length∧nx+2≤nx1∧aW hp nx1∧Kb nx h' hp∧hp nx=some (.arr (.agg 2) [.agg [.int .i64 ar, .sl .leaf ow (lsV ls)]])∧hp (nx+1)=some (.arr (.agg 2) [.agg [.int .i64 0, .sl .leaf .nil []]])∧∀y∈ls.take k,bK y t<0) (fun k=>ls.length-k) 0 ⟨Ki _,ZN,dmo hd,kep Hp.same.aAt,by simp[Kc],by simp[Kc],Zm⟩ (by simp only[WkL,aD,jH,jI,jJ,go_sem,reduceIte,jA,jB,jC,jD,reduceCtorEq,jE,jF]) ?_
 rintro k hp nx1 ⟨hk,hnx,hdm,hsm,hbx,aCB,aAe⟩;generalize hQ:bB _ _ _ _ _=Q0;simp only[aD,go_sem,reduceIte,jA,jB,jC,jD,reduceCtorEq,jE,jF];have hle:=hsm.le hd (Ka _);have n0:nx<nx1:=or;have n1:nx+1<nx1:=or;have out:(∀hk:k<ls.length,¬bK ls[k] t<0)→∀sl,WkL sl (aD 48 0 [(1,vls o2 t),(2, .ptr nx (.agg 2) 0 0),(4, .ptr (nx+1) (.agg 2) 0 0),(5, .int .i64 k)])→Q0 (.exit 0) ⟨sl,hp,nx1⟩:=fun aKz sl hsl=>by
  have aRN:=rm c3T hk aAe aKz hni;rw[←hQ];refine fN (fT (mX ⟨aD 48 0 [(1,vls o2 t),(2, .ptr nx (.agg 2) 0 0),(4, .ptr (nx+1) (.agg 2) 0 0),(5, .int .i64 k)],hp,nx1⟩ ⟨hsl,Ka _,Ks _⟩ ?_));simp only[aD,go_sem,reduceIte,jA,jB,jC,jD,reduceCtorEq,jE,jF];have hkt:((lsV ls).take k).length=k:=by rw[List.length_take,aEd];omega
  have hml:(t.map Vl.v).length=t.length:=jK ..;have htk:(lsV ls).take ls.length=lsV ls:=KB or;have hdk:((lsV ls).drop k).length=ls.length-k:=by rw[List.length_drop,aEd]
  refine eO (fI ?_);generalize hR:lwp _ (aJ.seq (aJ.ops L.aFe) _)=R;refine aue (e8 hbx aCB n0 n1 aEd jG hkt hml) ?_;rw[←hR];refine eO ?_;generalize hR2:mI _ _=R2;refine aue (e8 hbx aCB n0 n1 aEd jG hkt hml) ?_;rw[←hR2];refine iL (sf 6 rfl) ?_;have hco:∀h0 aAJ aAK cons b,nO h0 (nx1+6) aAJ aAK cons (nx1+5) b=(dC (nx1+5) cons∧h0 (nx1+5)=some b):=fun h0 aAJ aAK cons b=>by
   unfold nO;rw[eq_iff_iff];constructor
   ·rintro⟨h1,⟨_,h2⟩|⟨d,_,h3,_⟩⟩
    ·exact⟨h1,h2⟩
    omega
   rintro⟨h1,h2⟩;exact⟨h1, .inl ⟨or,h2⟩⟩
  have aRK:∀q:List (List Vl),(lsV q).map V.loose=lsV q:=fun q=>by
   simp[lsV,vls,V.loose,Kp]
  have hl6:(KS k (lsV ls)++[V.sl (.agg 3) (.tok (nx1+3)) (t.map Vl.v)]).map V.loose=KS k (lsV ls)++[vls .free t]:=by
   have:((lsV ls).take k).map V.loose=(lsV ls).take k:=by rw[KT,aRK]
   rw[Ku,this];rfl
  rw[hl6];refine Zn ?_;refine aue (e12 hbx aCB n0 n1 aEd jG hkt hml hco htk hdk (@Kk V)) ?_;refine hP (by simp only[go_sem,reduceIte,jA,jB,jC,jD,reduceCtorEq,jE,jF]) _ (Ka _) ⟨?_,lef hd hle⟩;refine Zn ?_;have hne:ls.take k++t::ls.drop k≠ []:=Zm;have hlv:lsV (ls.take k++t::ls.drop k)=KS k (lsV ls)++[vls .free t]++List.drop k (lsV ls):=by
   simp[lsV,Ku,KT,List.map_drop]
  rw[aRN,fY,Ae _ hne,hlv];rfl
 rcases Kj k ls.length with hlt|hge
 ·have hc:decide ((k:Int)<(ls.length:Int))=true:=dct;have hw:IntKind.i64.wrap ((k:Int)+1)=((k+1:Nat):Int):=wrp;have hg:(lsV ls).getD k (.tup [])=vls .free ls[k]:=aR (fun t=>vls .free t) ls k hlt;have C1:=fun h=>qT .free o2 ls[k] t (by have:=hr _ (Kf hlt);omega) h;have E:=e8 hc hw hg hlt aEd hbx n0 jG;cases he:nL ls[k] t with
  |true=>
   rw[he] at C1;refine aue E ?_;rw[←hQ];refine aH (k+1) or ⟨hlt,or,dmo hdm,kep hsm,hbx,aCB,fun y hy=>?_⟩ (by simp only[WkL,aD,jH,jI,jJ,hw,go_sem,reduceIte,jA,jB,jC,jD,reduceCtorEq,jE,jF]);rw[Kh hlt] at hy;rcases Ko.1 hy with hy|hy
   ·exact aAe y hy
   rw[Kg.1 hy];exact of_decide_eq_true he
  |false=>
   rw[he] at C1;refine aue E ?_;exact out (fun _=>of_decide_eq_false he) _ (by simp only[WkL,aD,jH,jI,jJ,go_sem,reduceIte,jA,jB,jC,jD,reduceCtorEq,jE,jF])
 have hc:decide ((k:Int)<(ls.length:Int))=false:=dcf;refine aue (e4 hc aEd hbx n0) ?_;exact out (fun k=>absurd k or) _ (by simp only[WkL,aD,jH,jI,jJ,go_sem,reduceIte,jA,jB,jC,jD,reduceCtorEq,jE,jF])
set_option maxHeartbeats 4000000
def cG(a:Am):List (List Vl)→List (List Tr)→List (List Vl)×Int
 |acc,[]=>(acc,0)
 |acc,l::r=>if (cP a l).2≠0 then ([],(cP a l).2) else cG a (acc++[(cP a l).1]) r
theorem iM(a:Am)(acc:List (List Vl))(l:List Tr)(r:List (List Tr)):cG a acc (l::r)=if (cP a l).2≠0 then ([],(cP a l).2) else cG a (acc++[(cP a l).1]) r:=rfl
noncomputable def eU(r:Ru)(ls:List (List Tr)):List (List Vl)×Int:=
 if gK r=true then (if (cG r.h [] ls).2≠0 then ([],(cG r.h [] ls).2) else (bL bK (cG r.h [] ls).1,0)) else ([],2)
theorem b5(l:List Tr):∀(ts:List Tr) (acc:List Vl),(mM l acc ts).1.length≤acc.length+ts.length
 | [],acc=>by simp[mM]
 |t::r,acc=>by
  rw[nA];split
  ·simp
  have:=b5 l r (acc++[(eE t l).1]);simp only[Kk,jL,jM] at this⊢;omega
theorem tR(a:Am)(l:List Tr):(cP a l).1.length≤6:=by
 unfold cP;split
 ·simp
 have:=b5 l a.l [];simp only[jM] at this;omega
def gP(h:Hp)(ms:List V)(ls:List (List Tr)):Prop:=ms.length=ls.length∧∀i (h1:i<ms.length) (h2:i<ls.length),∃n es c,ms[i]= .map n∧h n=some (.mp es c)∧pE es ls[i]
theorem zM(r:Ru)(o:Own)(ms:List V)(ls:List (List Tr))(h:Hp)(he:gP h ms ls)(hls:ls.length≤1000):aO Tryz.prog 9 [r.v, .sl .leaf o ms] h (.tup [lst .leaf (lsV (eU r ls).1),gY (eU r ls).2]):=by
 refine cB (fun L=>⟨gS (fun L=>mN _ L) L,rF L _,trivial⟩) fun h' nx hh=>aB L.g6z fun hd=>?_;have hrr:=fun h=>nm r h;unfold eU;obtain⟨⟨hr',ho,hl⟩,g,c0,ob,b,at_⟩:=r;rw[Ru.v.eq_1] at hrr⊢;simp only[jL,jM,jA,jB,jN,jO,jP,jQ,V.undef];have C1:=hrr;obtain⟨hml,hmi⟩:=he;cases hR:gK ⟨⟨hr',ho,hl⟩,g,c0,ob,b,at_⟩ with
 |false=>
  rw[hR] at C1;refine aue trs.eq_1 ?_;refine aU _ (Ka _) ⟨?_,leo hd⟩;refine Zn ?_;rfl
 |true=>
 rw[hR] at C1;rw[if_pos rfl];refine aue (e2 trs.eq_1 hml) ?_;clear C1
 refine aT (fun q:Nat×Own×List (List Vl)=>aD 38 0 [(2, .ptr nx (.agg 6) 0 0),(4, .sl .leaf .nil []),(5, .nilIface),(6, .sl .leaf q.2.1 (lsV q.2.2)),(15, .sl .leaf o ms),(16, .int .i64 ls.length),(17, .int .i64 q.1)])
  (fun q hp nx1=>q.1≤ls.length∧nx+1≤nx1∧aW hp nx1∧Kb nx h' hp∧hp nx=some (.arr (.agg 6) [.agg [.str hr', .sl (.agg 4) ho (hl.map Tr.v), .int .i64 g, .int .i64 c0, .sl (.agg 17) ob (b.map Li.v), .int .i64 at_]])∧Acc hp (nx+1) q.2.1 (lsV q.2.2)∧cG ⟨hr',ho,hl⟩ [] ls=cG ⟨hr',ho,hl⟩ q.2.2 (ls.drop q.1)∧q.2.2.length≤q.1∧∀t∈q.2.2,t.length≤6)
  (fun q=>ls.length-q.1) (0, .nil,[]) ⟨Ki _,Zw,by exact dmo hd,by exact kep Hp.same.aAt,by simp only[go_sem,reduceIte,jA,jB,jC,jD,reduceCtorEq,jE,jF], .inl ⟨rfl,rfl⟩,rfl,Ki _,Zm⟩ (by simp only[WkL,aD,jH,jI,jJ,hml,KU,go_sem,reduceIte,jA,jB,jC,jD,reduceCtorEq,jE,jF]) ?_
 rintro⟨i,oo,ac⟩ hp nx1 ⟨hi,hnx,hdm,aBF,hbx,aAP,hmk,hlen,aGD⟩;generalize hQ:bB _ _ _ _ _=Q0;dsimp only at hi aAP hmk hlen aGD;simp only[aD,go_sem,reduceIte,jA,jB,jC,jD,reduceCtorEq,jE,jF];have hle:=aBF.le hd (Ka _);have n1:nx<nx1:=or;rcases Kj i ls.length with hlt|hge
 ·have hc:decide ((i:Int)<(ls.length:Int))=true:=dct;have aLK:i<ms.length:=or;obtain⟨n,es,c,hm1,hm2,hm3⟩:=hmi i aLK hlt;have hg:ms.getD i (.tup [])= .map n:=by rw[Ke,Kd aLK,←hm1];rfl
  have hw:IntKind.i64.wrap ((i:Int)+1)=((i+1:Nat):Int):=wrp;have hdr:ls.drop i=ls[i]::ls.drop (i+1):=Kq hlt;have hn1:=hh _ _ hm2 rfl;have hn2:n<nx:=hd _ _ hn1;have hme:hp n=some (.mp es c):=by rw[aBF n hn2];exact hn1
  have hn3:n<nx1:=or;rw[hdr,iM] at hmk;generalize ls[i]=E at hm3 hmk;have hM6:=tR ⟨hr',ho,hl⟩ E;have hA:=qg ⟨hr',ho,hl⟩ E n es c hp hme hm3;have aEf:∀H:Hp,H.aBW oo nx=H nx:=fun H=>pY fun id e=>by have:=aAP.ge id e;omega
  have aGB:ac.length≤1000000:=or;refine aue (e11 hc hg aLK n1 hbx hn3 jG hw hml aGB aEf) ?_;refine aP hA rfl (aM _) ?_;refine Zn ?_;by_cases hz:(cP ⟨hr',ho,hl⟩ E).2=0
  ·rw[if_neg (by simp[hz])] at hmk;rw[hz];have aRD:okO 0 .free= .free:=rfl;refine aue (e8 hw yS aRD aGB aEf hbx n1 (@jK (List Vl) V)) ?_;rw[←hQ];exact aH (i+1,_,ac++[(cP ⟨hr',ho,hl⟩ E).1]) Zw ⟨hlt,or,dmo hdm,vZ aBF aAP,by simp only[aEf,hbx,n1,go_sem,reduceIte,jA,jB,jC,jD,reduceCtorEq,jE,jF],by dsimp only;rw[lsV,Ku];exact Acc.new _ Zm or,hmk,by dsimp only;rw[Kk];simp only[jL,jM];omega,fun t ht=>by
    rcases Ko.1 ht with q|q
    ·exact aGD t q
    rw[Kg.1 q];exact hM6⟩ (by simp only[WkL,aD,jH,jI,jJ,vls,Ku,List.map_cons,KU,go_sem,reduceIte,jA,jB,jC,jD,reduceCtorEq,jE,jF])
  rw[if_pos hz] at hmk;have hev:gY (cP ⟨hr',ho,hl⟩ E).2= .iface 83 (.int .i64 (cP ⟨hr',ho,hl⟩ E).2):=by unfold gY;rw[if_neg hz]
  refine aue hev ?_;rw[←hQ];refine au ?_;refine aU _ (Ka _) ⟨?_,lef hd hle⟩;refine Zn ?_;have e2:(if (cG ⟨hr',ho,hl⟩ [] ls).2≠0 then (([]:List (List Vl)),(cG ⟨hr',ho,hl⟩ [] ls).2) else (bL bK (cG ⟨hr',ho,hl⟩ [] ls).1,0))=([],(cP ⟨hr',ho,hl⟩ E).2):=by rw[hmk];rw[if_pos hz]
  show _=V.tup [lst .leaf (lsV (if (cG ⟨hr',ho,hl⟩ [] ls).2≠0 then (([]:List (List Vl)),(cG ⟨hr',ho,hl⟩ [] ls).2) else (bL bK (cG ⟨hr',ho,hl⟩ [] ls).1,0)).1),gY (if (cG ⟨hr',ho,hl⟩ [] ls).2≠0 then (([]:List (List Vl)),(cG ⟨hr',ho,hl⟩ [] ls).2) else (bL bK (cG ⟨hr',ho,hl⟩ [] ls).1,0)).2];rw[e2,hev];rfl
 have hc:decide ((i:Int)<(ls.length:Int))=false:=dcf;refine aue (e3 hc n1 hbx) ?_;rw[←hQ];refine au ?_;have hie:i=ls.length:=or;rw[hie,KM] at hmk;simp only[cG] at hmk;have el:lsV ac=(ac.map fun t=>((.free,t):TR)).map TR.v:=by simp only[lsV,KJ,Kp];rfl
 have er:aS (ac.map fun t=>((.free,t):TR))=ac:=by simp[aS,Kp]
 rw[el];refine bG ((mW oo (ac.map fun t=>((.free,t):TR)) (by simp;omega) (fun q hq=>by
  obtain⟨t,ht,rfl⟩:=Kv.1 hq;exact⟨by have:=aGD t ht;dsimp only;omega, .inr rfl⟩) _ _).mono ?_)
 rintro v h3 nx3 _ ⟨ws,hwr,hwl,hv⟩;unfold dF;refine Zn ?_;rw[er] at hwr;have hws:ws.map TR.v=lsV (bL bK ac):=by
  rw[←hwr,lsV,aS,KJ];refine List.map_congr_left fun z hz=>?_;obtain⟨t,_,rfl⟩:=Kv.1 (hwl z hz);rfl
 have e2:(if (cG ⟨hr',ho,hl⟩ [] ls).2≠0 then (([]:List (List Vl)),(cG ⟨hr',ho,hl⟩ [] ls).2) else (bL bK (cG ⟨hr',ho,hl⟩ [] ls).1,0))=(bL bK ac,0):=by rw[hmk];rfl
 have aFN:V.tup [lst .leaf (lsV (if (cG ⟨hr',ho,hl⟩ [] ls).2≠0 then (([]:List (List Vl)),(cG ⟨hr',ho,hl⟩ [] ls).2) else (bL bK (cG ⟨hr',ho,hl⟩ [] ls).1,0)).1),gY (if (cG ⟨hr',ho,hl⟩ [] ls).2≠0 then (([]:List (List Vl)),(cG ⟨hr',ho,hl⟩ [] ls).2) else (bL bK (cG ⟨hr',ho,hl⟩ [] ls).1,0)).2]= .tup [lst .leaf (ws.map TR.v), .nilIface]:=by rw[e2,hws];rfl
 rcases hv with⟨rfl,rfl,rfl⟩|⟨hwn,wid,wes,aKw,rfl,hwe,rfl,hwt⟩
 ·refine au ?_;refine aU _ (Ka _) ⟨?_,hle⟩;refine Zn ?_;exact aFN.symm
 dsimp only at aKw;refine fB 2 rfl (by simp only[go_sem,reduceIte,jA,jB,jC,jD,reduceCtorEq,jE,jF]) ?_;refine Zn ?_;refine iL (gQ (t:=4) (n:=wid) (k:= .leaf) (off:=0) (len:=ws.length) (es:=wes) rfl (by simp[Kc]) or) ?_;rw[List.drop_zero,hwt];refine au ?_;refine aU _ (Ka _) ⟨?_,kX (gM hle (aW.none hd or) _) (aW.none hd or)⟩;refine Zn ?_;refine Eq.trans ?_ aFN.symm;rw[wF ws hwn];rfl
set_option maxHeartbeats 4000000
noncomputable def rG(r:Ru)(ls:List (List Tr)):List (List Vl)×Int:=if (eU r ls).2≠0 then ([],(eU r ls).2) else bP r.g r.c (eU r ls).1
theorem bm(a:Am):∀(ls:List (List Tr)) (acc:List (List Vl)),(cG a acc ls).1.length≤acc.length+ls.length∧((∀t∈acc,t.length≤6)→∀t∈(cG a acc ls).1,t.length≤6)
 | [],acc=>by simp[cG]
 |l::r,acc=>by
  rw[iM];split
  ·simp
  obtain⟨a1,a2⟩:=bm a r (acc++[(cP a l).1]);refine⟨by simp only[Kk,jL,jM] at a1⊢;omega,fun h=>a2 fun t ht=>?_⟩;rcases Ko.1 ht with q|q
  ·exact h t q
  rw[Kg.1 q];exact tR a l
theorem pK(r:Ru)(ls:List (List Tr)):(eU r ls).1.length≤ls.length∧∀t∈(eU r ls).1,t.length≤6:=by
 obtain⟨a1,a2⟩:=bm r.h ls [];unfold eU;split
 ·split
  ·simp
  refine⟨?_,fun t ht=>a2 Zm t (((bR c3T _).2 t).1 ht)⟩;have:=dV (c:=bK) (cG r.h [] ls).1;simp only[jM] at a1;dsimp only;omega
 simp
theorem am(r:Ru)(o:Own)(ms:List V)(ls:List (List Tr))(hls:ls.length≤1000)(h':Hp)(nx:Nat)(he:gP h' ms ls):aX Tryz.prog 10 [r.v, .sl .leaf o ms] h' nx fun v h'' _=>
 ∃zs:List TR,v= .tup [lst .leaf (zs.map TR.v),gY (rG r ls).2]∧aS zs=(rG r ls).1∧(∀z∈zs,z.ok)∧h''=h':=by
 refine aB L.g7z fun hd=>?_;have C0:∀{h:Hp} {he:gP h ms ls},aO Tryz.prog 9 [r.v, .sl .leaf o ms] h (.tup [lst .leaf (lsV (eU r ls).1),gY (eU r ls).2]):=fun{h he}=>zM r o ms ls h he hls;obtain⟨hL1,hL2⟩:=pK r ls;unfold rG;generalize eU r ls=R at C0 hL1 hL2;obtain⟨rows,e⟩:=R;dsimp only at C0 hL1 hL2⊢;obtain⟨ow,how⟩:=iR .leaf (lsV rows);rw[how] at C0;obtain⟨⟨hr',ho,hl⟩,g,c0,ob,b,at_⟩:=r;rw[Ru.v.eq_1] at C0⊢;simp only[jL,jM,jA,jB,jN,jO,jP,jQ,V.undef];dsimp only at C0;refine aue trs.eq_1 ?_;have he2:gP (h'.set nx (.arr (.agg 6) [.agg [.str hr', .sl (.agg 4) ho (hl.map Tr.v), .int .i64 g, .int .i64 c0, .sl (.agg 17) ob (b.map Li.v), .int .i64 at_]])) ms ls:=by
  refine⟨he.1,fun i h1 h2=>?_⟩;obtain⟨n,es,c,q1,q2,q3⟩:=he.2 i h1 h2;have:=hd _ _ q2;exact⟨n,es,c,q1,by unfold Kc;rw[if_neg or];exact q2,q3⟩
 refine aP (C0 (he:=he2)) rfl (aM _) ?_;refine Zn ?_;by_cases hz:e=0
 ·subst hz;rw[if_neg Zm];refine aue yS ?_;have el:lsV rows=(rows.map fun t=>((.free,t):TR)).map TR.v:=by simp only[lsV,KJ,Kp];rfl
  have er:aS (rows.map fun t=>((.free,t):TR))=rows:=by simp[aS,Kp]
  rw[el];refine bG ((vO g c0 ow (rows.map fun t=>((.free,t):TR)) (by simp;omega) (fun q hq=>by
   obtain⟨t,ht,rfl⟩:=Kv.1 hq;exact⟨by have:=hL2 t ht;dsimp only;omega, .inr rfl⟩) _ _).mono ?_)
  rintro v h3 nx3 _ ⟨zs,rfl,q1,q2,rfl⟩;unfold dF;refine Zn ?_;rw[er] at q1⊢;refine au ?_;refine aU h' (leo hd) ?_;refine Zn ?_;exact⟨zs,rfl,q1,q2⟩
 rw[if_pos hz];have hev:gY e= .iface 83 (.int .i64 e):=by unfold gY;rw[if_neg hz]
 refine aue hev ?_;refine aU h' (leo hd) ?_;refine Zn ?_;exact⟨[],rfl,rfl,Zm⟩
end Go.Proofs.YtjfdoohogiojcaaGreatDoor
namespace Go.Proofs.YtjfdoohogiojcaaGreatDoor
open Go.RowKit Go.Sort
attribute [local irreducible] Kt
set_option maxHeartbeats 4000000
theorem ep(r:Ru)(hr:r.sm)(hy:(iO r.h&&zQ r&&decide (r.b.length≤8))=true)(h':Hp)(nx:Nat)(hd:aW h' nx)(sl:List V)(hw:WkL sl (aD 77 0 [(1, .ptr nx (.agg 6) 0 0),(2, .bool false),(3, .int .i64 0)])):
 lwp Tryz.prog (.loop L.aFf) (cW 0 (mI (lwp Tryz.prog ((aJ.ops L.aED).seq aJ.ret)) (oF [.slot 2] fun v' h'' x=>v'= .bool (gK r)∧h''=h'))) ⟨sl,h'.set nx (.arr (.agg 6) [.agg [.str r.h.r, .sl (.agg 4) r.h.o (r.h.l.map Tr.v), .int .i64 r.g, .int .i64 r.c, .sl (.agg 17) r.o (r.b.map Li.v), .int .i64 r.at_]]),nx+1⟩:=by
 have h8:r.b.length≤8:=by simp only[KL,decide_eq_true_eq] at hy;exact hy.2
 have hrr:gK r=r.b.all fE:=by unfold gK;rw[hy];rfl
 rw[hrr];refine aT (fun i:Nat=>aD 77 0 [(1, .ptr nx (.agg 6) 0 0),(2, .bool false),(3, .int .i64 i)]) (fun i hp nx1=>i≤r.b.length∧hp=h'.set nx (.arr (.agg 6) [.agg [.str r.h.r, .sl (.agg 4) r.h.o (r.h.l.map Tr.v), .int .i64 r.g, .int .i64 r.c, .sl (.agg 17) r.o (r.b.map Li.v), .int .i64 r.at_]])∧nx<nx1∧∀t∈r.b.take i,fE t=true) (fun i=>r.b.length-i) 0 ⟨Ki _,rfl,Zw,Zm⟩ hw ?_;rintro i hp nx1 ⟨hi,rfl,hlt1,hno⟩;generalize hQ:bB _ _ _ _ _=Q0;simp only[aD,go_sem,reduceIte,jA,jB,jC,jD,reduceCtorEq,jE,jF];rcases Kj i r.b.length with hlt|hge
 ·have hc:decide ((i:Int)<(r.b.length:Int))=true:=dct;have hg:=aR Li.v r.b i hlt;have hw:IntKind.i64.wrap ((i:Int)+1)=((i+1:Nat):Int):=wrp;have hin:r.b[i]∈r.b:=Kf _;have C1:=fun h=>np r.b[i] (hr.2 _ hin) h;have hfl:=Li.aAA r.b[i];cases k:fE r.b[i] with
  |true=>
   rw[k] at C1;refine aue (e7 hc hlt hg hw (@jK Li V) jG hfl) ?_;rw[←hQ];refine aH (i+1) or ⟨or,rfl,or,fun t ht=>?_⟩ (by simp only[WkL,aD,jH,jI,jJ,go_sem,reduceIte,jA,jB,jC,jD,reduceCtorEq,jE,jF]);rw[Kh hlt,Ko,Kg] at ht;rcases ht with ht|rfl
   ·exact hno t ht
   exact k
  |false=>
   rw[k] at C1;refine aue (e7 hc hlt hg hw (@jK Li V) jG hfl) ?_;rw[←hQ];refine au ?_;refine aC h' (leo hd) ⟨?_,rfl⟩;have:r.b.all fE=false:=List.all_eq_false.2 ⟨_,hin,by simp[k]⟩;rw[this];rfl
 have hc:decide ((i:Int)<(r.b.length:Int))=false:=dcf;refine aue (e2 hc (@jK Li V)) ?_;rw[←hQ];refine au ?_;have hil:i=r.b.length:=or;rw[hil,List.take_length] at hno;refine aC h' (leo hd) ⟨?_,rfl⟩;have h1:r.b.all fE=true:=List.all_eq_true.2 hno;rw[h1];rfl
theorem iv(r:Ru)(hr:r.sm)(h:Hp):aO Tryz.prog 25 [r.v] h (.bool (gK r)):=by
 refine aI (fun L=>trivial) fun h' nx hh=>aB L.aTg fun hd=>?_;obtain⟨⟨hr',ho,hl⟩,g,c,o,b,at_⟩:=r;simp only[jL,jM,jA,jB,jN,jO,jP,jQ,V.undef];have C1:∀h:Hp,aO Tryz.prog 47 [.agg [.str hr', .sl (.agg 4) ho (hl.map Tr.v)]] h (.bool (iO ⟨hr',ho,hl⟩)):=fun h=>vJ ⟨hr',ho,hl⟩ hr.1 h;by_cases hc:0≤c∧c<hl.length
 ·obtain⟨n,rfl⟩:∃n:Nat,c=n:=⟨c.toNat,or⟩;have hn:n<hl.length:=or;have g1:decide ((n:Int)<0)=false:=dcf;have g2:decide ((hl.length:Int)≤(n:Int))=false:=dcf;have g3:decide ((n:Int)≥(hl.length:Int))=false:=dcf;have hg:=aR Tr.v hl n hn;have hD:hl.getD n qp=hl[n]:=by rw[Ke,Kd hn];rfl
  have s0:((hl[n].x.size:Int)==0)=decide (hl[n].x.size=0):=by rw[KP];simp
  (repeat' (first|(with_reducible first|refine stp ?_|refine cD ZM ?_|refine sS (fun _=>?_) (fun _=>?_))|((first|(with_reducible refine lM ?_;first|refine jS rfl ?_ ?_|refine aP (C1 _) rfl (aM _) ?_|refine Zx ?_)|(with_reducible refine lP ?_;first|refine jV rfl ?_ ?_|refine ZX ?_)|refine Zy ?_)<;>try simp only[Ru.v.eq_1,g1,g2,g3,hg,hn,s0,Tr.v.eq_1,jK,jG,go_sem,reduceIte,jA,jB,jC,jD,reduceCtorEq,jE,jF])|refine ZY ?_|omega))
  all_goals first
   |exact ep ⟨⟨hr',ho,hl⟩,g,n,o,b,at_⟩ hr (by simp_all [zQ];try omega) h' nx hd _ (by simp only[WkL,aD,jH,jI,jJ,go_sem,reduceIte,jA,jB,jC,jD,reduceCtorEq,jE,jF])
   |(refine aC h' (leo hd) ⟨vb ?_,rfl⟩
     simp_all [gK,zQ]
     try omega
     try (intro q;exfalso;split at q<;>omega))
 rcases(by omega:c<0∨(0≤c∧(hl.length:Int)≤c)) with hc|⟨hc0,hc⟩
 ·have g1:decide (c<0)=true:=dct
  (repeat' (first|(with_reducible first|refine stp ?_|refine cD ZM ?_|refine sS (fun _=>?_) (fun _=>?_))|((first|(with_reducible refine lM ?_;first|refine jS rfl ?_ ?_|refine aP (C1 _) rfl (aM _) ?_|refine Zx ?_)|(with_reducible refine lP ?_;first|refine jV rfl ?_ ?_|refine ZX ?_)|refine Zy ?_)<;>try simp only[Ru.v.eq_1,g1,jK,go_sem,reduceIte,jA,jB,jC,jD,reduceCtorEq,jE,jF])|refine ZY ?_|omega))
  all_goals first
   |exact ep ⟨⟨hr',ho,hl⟩,g,c,o,b,at_⟩ hr (by simp_all [zQ];try omega) h' nx hd _ (by simp only[WkL,aD,jH,jI,jJ,go_sem,reduceIte,jA,jB,jC,jD,reduceCtorEq,jE,jF])
   |(refine aC h' (leo hd) ⟨vb ?_,rfl⟩
     simp_all [gK,zQ]
     try omega
     try (intro q;exfalso;split at q<;>omega))
 have g1:decide (c<0)=false:=dcf;have g2:decide ((hl.length:Int)≤c)=true:=dct;have g3:decide (c≥(hl.length:Int))=true:=dct
 (repeat' (first|(with_reducible first|refine stp ?_|refine cD ZM ?_|refine sS (fun _=>?_) (fun _=>?_))|((first|(with_reducible refine lM ?_;first|refine jS rfl ?_ ?_|refine aP (C1 _) rfl (aM _) ?_|refine Zx ?_)|(with_reducible refine lP ?_;first|refine jV rfl ?_ ?_|refine ZX ?_)|refine Zy ?_)<;>try simp only[Ru.v.eq_1,g1,g2,g3,jK,go_sem,reduceIte,jA,jB,jC,jD,reduceCtorEq,jE,jF])|refine ZY ?_|omega))
 all_goals first
  |exact ep ⟨⟨hr',ho,hl⟩,g,c,o,b,at_⟩ hr (by simp_all [zQ];try omega) h' nx hd _ (by simp only[WkL,aD,jH,jI,jJ,go_sem,reduceIte,jA,jB,jC,jD,reduceCtorEq,jE,jF])
  |(refine aC h' (leo hd) ⟨vb ?_,rfl⟩
    simp_all [gK,zQ]
    try omega
    try (intro q;exfalso;split at q<;>omega))
end Go.Proofs.YtjfdoohogiojcaaGreatDoor
namespace Go.Proofs.YtjfdoohogiojcaaGreatDoor
open Go.RowKit Go.Sort
attribute [local irreducible] Kt
set_option maxHeartbeats 4000000
abbrev TB:=Own×List Tr
def TB.v(p:TB):V:=trs p.1 p.2
abbrev tbs(o:Own)(l:List TB):V:= .sl .leaf o (l.map TB.v)
abbrev bH(l:List TB):List (List Tr):=l.map Prod.snd
set_option maxRecDepth 100000 in
theorem wY(r:Ru)(hr:r.sm)(o:Own)(ls:List TB)(hls:ls.length≤1000)(hok:∀p∈ls,p.2.length≤1000∧smB p.2)(h:Hp):aO Tryz.prog 11 [r.v,tbs o ls] h (.tup [lst .leaf (lsV (eU r (bH ls)).1), .int .i64 (eU r (bH ls)).2]):=by
 refine cB (fun L=>⟨gS (fun L=>mN _ L) L,trivial,trivial⟩) fun h' nx hh=>aB L.g8z fun hd=>?_;have hrr:=fun h=>iv r hr h;unfold eU;obtain⟨⟨hr',ho,hl⟩,g,c0,ob,b,at_⟩:=r;rw[Ru.v.eq_1] at hrr⊢;simp only[jL,jM,jA,jB,jN,jO,jP,jQ,V.undef];have C1:=hrr;cases hR:gK ⟨⟨hr',ho,hl⟩,g,c0,ob,b,at_⟩ with
 |false=>
  rw[hR] at C1;refine aue trs.eq_1 ?_;refine aU _ (Ka _) ⟨?_,leo hd⟩;refine Zn ?_;rfl
 |true=>
 rw[hR] at C1;rw[if_pos rfl];obtain⟨RR,hRR⟩:∃RR,(if (cG ⟨hr',ho,hl⟩ [] (bH ls)).2≠0 then (([]:List (List Vl)),(cG ⟨hr',ho,hl⟩ [] (bH ls)).2) else (bL bK (cG ⟨hr',ho,hl⟩ [] (bH ls)).1,0))=RR:=⟨_,rfl⟩;rw[hRR];refine aue trs.eq_1 ?_;clear C1
 refine aT (fun q:Nat×List (List Vl)=>aD 38 0 [(1,tbs o ls),(2, .ptr nx (.agg 6) 0 0),(4, .sl .leaf .nil []),(5, .int .i64 0),(6, .ptr (nx+1) (.agg 2) 0 0),(7, .int .i64 q.1)])
  (fun q hp nx1=>q.1≤ls.length∧nx+2≤nx1∧aW hp nx1∧Kb nx h' hp∧hp nx=some (.arr (.agg 6) [.agg [.str hr', .sl (.agg 4) ho (hl.map Tr.v), .int .i64 g, .int .i64 c0, .sl (.agg 17) ob (b.map Li.v), .int .i64 at_]])∧hp (nx+1)=some (.arr (.agg 2) [fY 0 (bL bK q.2)])∧cG ⟨hr',ho,hl⟩ [] (bH ls)=cG ⟨hr',ho,hl⟩ q.2 ((bH ls).drop q.1)∧q.2.length≤q.1∧∀t∈q.2,t.length≤6)
  (fun q=>ls.length-q.1) (0,[]) ⟨Ki _,Zw,by exact dmo hd,by exact kep Hp.same.aAt,by simp only[go_sem,reduceIte,jA,jB,jC,jD,reduceCtorEq,jE,jF],by simp only[go_sem,reduceIte,jA,jB,jC,jD,reduceCtorEq,jE,jF];rfl,rfl,Ki _,Zm⟩ (by simp only[WkL,aD,jH,jI,jJ,go_sem,reduceIte,jA,jB,jC,jD,reduceCtorEq,jE,jF]) ?_
 rintro⟨i,ac⟩ hp nx1 ⟨hi,hnx,hdm,aBF,hbx,hbs,hmk,hlen,aGD⟩;generalize hQ:bB _ _ _ _ _=Q0;dsimp only at hi hbs hmk hlen aGD;simp only[aD,go_sem,reduceIte,jA,jB,jC,jD,reduceCtorEq,jE,jF];have hle:=aBF.le hd (Ka _);have n1:nx<nx1:=or;have n2:nx+1<nx1:=or;have hbl:(bH ls).length=ls.length:=jK ..;rcases Kj i ls.length with hlt|hge
 ·have hc:decide ((i:Int)<(ls.length:Int))=true:=dct;have hg:=aR TB.v ls i hlt;have hw:IntKind.i64.wrap ((i:Int)+1)=((i+1:Nat):Int):=wrp;have hdr:(bH ls).drop i=ls[i].2::(bH ls).drop (i+1):=by
   have:=Kq (l:=bH ls) (i:=i) or;rw[this];simp[bH]
  obtain⟨q1,q2⟩:=hok _ (Kf hlt);rw[hdr,iM] at hmk;generalize ls[i]=E at hg hmk q1 q2;obtain⟨oE,lE⟩:=E;dsimp only at hmk q1 q2;have hM6:=tR ⟨hr',ho,hl⟩ lE;have aEr:=fun h=>ns ⟨hr',ho,hl⟩ oE lE or q2 (fun t ht=>(hr.1.2 t ht).2) h;have aLW:=mJ 0 (bL bK ac);by_cases hz:(cP ⟨hr',ho,hl⟩ lE).2=0
  ·rw[if_neg (by simp[hz])] at hmk;generalize (cP ⟨hr',ho,hl⟩ lE).1=T at hmk hM6 aEr;rw[hz] at aEr;have D1:∀h:Hp,aO Tryz.prog 26 [.agg [.str hr', .sl (.agg 4) ho (hl.map Tr.v)],trs oE lE] h (.tup [.sl (.agg 3) (frO T) (T.map Vl.v), .int .i64 0]):=aEr;have z0:((0:Int) != 0)=false:=rfl;have hs:=(bR c3T ac);have hsl:=dV (c:=bK) ac;have C1:∀h:Hp,aO Tryz.prog 27 [fY 0 (bL bK ac), .sl (.agg 3) (frO T) (T.map Vl.v)] h (fY 0 (bL bK (ac++[T]))):=fun h=>by
    rw[mG];exact tO 0 (bL bK ac) hs.1 or (fun t ht=>by have:=aGD t ((hs.2 t).1 ht);omega) (frO T) T or h
   have aRT:=mJ 0 (bL bK (ac++[T]));refine aue (e13 hc hg hlt n1 n2 hbx hbs (@jK TB V) jG hw z0 aLW (e4 aRT TB.v.eq_1 trs.eq_1 (aQ aLW))) ?_;rw[←hQ];exact aH (i+1,ac++[T]) Zw ⟨hlt,or,dmo hdm,kep aBF,by simp only[hbx,n1,n2,go_sem,reduceIte,jA,jB,jC,jD,reduceCtorEq,jE,jF],by simp only[hbx,n1,n2,go_sem,reduceIte,jA,jB,jC,jD,reduceCtorEq,jE,jF],hmk,by dsimp only;rw[Kk];simp only[jL,jM];omega,fun t ht=>by
    rcases Ko.1 ht with q|q
    ·exact aGD t q
    rw[Kg.1 q];exact hM6⟩ (by simp only[WkL,aD,jH,jI,jJ,go_sem,reduceIte,jA,jB,jC,jD,reduceCtorEq,jE,jF])
  rw[if_pos hz] at hmk;have D1:∀h:Hp,aO Tryz.prog 26 [.agg [.str hr', .sl (.agg 4) ho (hl.map Tr.v)],trs oE lE] h (.tup [.sl (.agg 3) (okO (cP ⟨hr',ho,hl⟩ lE).2 (frO (cP ⟨hr',ho,hl⟩ lE).1)) ((cP ⟨hr',ho,hl⟩ lE).1.map Vl.v), .int .i64 (cP ⟨hr',ho,hl⟩ lE).2]):=aEr;have z0:((cP ⟨hr',ho,hl⟩ lE).2 != 0)=true:=bnt hz;refine aue (e13 hc hg hlt n1 n2 hbx hbs (@jK TB V) jG hw z0 aLW (e2 TB.v.eq_1 trs.eq_1)) ?_;rw[←hQ];refine au ?_;refine aU _ (Ka _) ⟨?_,lef hd hle⟩;refine Zn ?_;rw[hmk,if_pos hz] at hRR;rw[←hRR];rfl
 have hc:decide ((i:Int)<(ls.length:Int))=false:=dcf;have hie:i=ls.length:=or;rw[hie,←hbl,KM] at hmk;simp only[cG] at hmk;rw[hmk] at hRR;obtain⟨ow,how⟩:=iR .leaf (lsV (bL bK ac));rw[fY,how] at hbs;refine aue (e4 hc n1 n2 hbs) ?_;rw[←hQ];refine aue (e4 hc n1 n2 hbs) ?_;refine aU _ (Ka _) ⟨?_,hle⟩;refine Zn ?_;rw[←hRR];show _=V.tup [lst .leaf (lsV (bL bK ac)), .int .i64 0];rw[how];have:ow= .nil∨ow= .free:=by
  unfold lst at how;split at how<;>injection how with _ e _<;>simp[←e]
 rcases this with rfl|rfl<;>rfl
end Go.Proofs.YtjfdoohogiojcaaGreatDoor
namespace Go.Proofs.YtjfdoohogiojcaaGreatDoor
open Go.RowKit Go.Sort
attribute [local irreducible] Kt
set_option maxHeartbeats 4000000
theorem pL:∀(n:Nat) (e:Ex),eL n e.cp=eL n e
 |0, .mk op t o ks=>by
  have:(Ex.cps ks=[])=(ks=[]):=by rw[Ex.aBK];simp
  show decide (op=0∧Ex.cps ks=[]∧_)=decide (op=0∧ks=[]∧_);simp only[this]
 |n+1, .mk op t o ks=>by
  match ks with
  | []=>rfl
  | [a]=>rfl
  | [a,b]=>
   show eL (n+1) (.mk op t _ [a.cp,b.cp])=_;rw[xB,xB,pL n a,pL n b]
  |a::b::c::r=>
   rw[oB _ _ _ _ _ Zm];show eL (n+1) (.mk op t _ (a.cp::b.cp::c.cp::Ex.cps r))=_;rw[oB _ _ _ _ _ Zm];simp
theorem gz(e:Ex):kA e.cp=kA e:=by
 obtain⟨op,t,o,ks⟩:=e;have:(Ex.cps ks=[])=(ks=[]):=by rw[Ex.aBK];simp
 show(decide (op=0∧Ex.cps ks=[])&&lU t)=(decide (op=0∧ks=[])&&lU t);simp only[this]
theorem sw(l:Li):fE l.cp=fE l:=by
 have h1:iN l.cp.x=iN l.x:=pL 20 l.x;have h2:iN l.cp.y=iN l.y:=pL 20 l.y;have h3:kA l.cp.x=kA l.x:=gz l.x;have h4:kA l.cp.y=kA l.y:=gz l.y;unfold fE;rw[h1,h2,h3,h4];rfl
theorem sv(r:Ru):gK r.cp=gK r:=by
 unfold gK;have h1:r.cp.b.all fE=r.b.all fE:=by
  show(r.b.map Li.cp).all fE=_;rw[List.all_map];congr 1;funext l;exact sw l
 have h2:r.cp.b.length=r.b.length:=Km ..;rw[h1,h2];rfl
theorem xf(r:Ru)(l:List Tr):cP r.cp.h l=cP r.h l:=rfl
theorem iy(r:Ru):∀(ls:List (List Tr)) (acc:List (List Vl)),cG r.cp.h acc ls=cG r.h acc ls
 | [],acc=>rfl
 |l::ls,acc=>by rw[iM,iM,xf,iy r ls]
theorem iz(r:Ru)(ls:List (List Tr)):eU r.cp ls=eU r ls:=by
 unfold eU;rw[sv,iy]
theorem Al(r:Ru)(ls:List (List Tr)):rG r.cp ls=rG r ls:=by
 unfold rG;rw[iz];rfl
theorem Ex.aDO:∀(n:Nat) (e:Ex),SizeOf.sizeOf e≤n→e.sm→e.cp.sm
 |0, .mk op t o ks,h,_=>by simp at h
 |n+1, .mk op t o ks,h,hs=>by
  have hk:∀e∈ks,SizeOf.sizeOf e≤n:=fun e he=>by
   have:=KD he;simp only[Ex.mk.sizeOf_spec] at h;omega
  refine⟨hs.1,?_⟩;have h2:=hs.2;clear hs h;show Ex.sms (Ex.cps ks);induction ks with
  |nil=>trivial
  |cons a r ih=>exact⟨Ex.aDO n a (hk a KI) h2.1,ih (fun e he=>hk e (KF _ he)) h2.2⟩
theorem Ru.aDO{r:Ru}(h:r.sm):r.cp.sm:=by
 refine⟨h.1,fun l hl=>?_⟩;obtain⟨m,hm,rfl⟩:=Kv.1 hl;obtain⟨q1,q2,q3⟩:=h.2 m hm;exact⟨q1,Ex.aDO _ m.x (Ks _) q2,Ex.aDO _ m.y (Ks _) q3⟩
theorem Tr.aA8{t:Tr}(h:t.s47):t.sm:=by
 obtain⟨h1,h2⟩:=h;unfold mS at h1 h2;exact⟨or,or⟩
theorem Ex.aA8:∀(n:Nat) (e:Ex),SizeOf.sizeOf e≤n→e.s47→e.sm
 |0, .mk op t o ks,h,_=>by simp at h
 |n+1, .mk op t o ks,h,hs=>by
  have hk:∀e∈ks,SizeOf.sizeOf e≤n:=fun e he=>by
   have:=KD he;simp only[Ex.mk.sizeOf_spec] at h;omega
  refine⟨Tr.aA8 hs.1,?_⟩;have h2:=hs.2;clear hs h;induction ks with
  |nil=>trivial
  |cons a r ih=>exact⟨Ex.aA8 n a (hk a KI) h2.1,ih (fun e he=>hk e (KF _ he)) h2.2⟩
theorem Am.aA8{a:Am}(h:a.s47):a.sm:=by
 have:=h.1;unfold mS at this;exact⟨or,fun t ht=>Tr.aA8 (h.2 t ht)⟩
theorem Ru.aA8{r:Ru}(h:r.s47):r.sm:=⟨Am.aA8 h.1,fun l hl=>⟨Am.aA8 (h.2 l hl).1,Ex.aA8 _ _ (Ks _) (h.2 l hl).2.1,Ex.aA8 _ _ (Ks _) (h.2 l hl).2.2⟩⟩
set_option maxHeartbeats 4000000
def sF:Nat→Int→List Tr→Bool
 |_,_,[]=>false
 |k,s,t::r=>if 30<k∨1500<s+(t.x.size+t.w.s.size:Nat) then true else sF (k+1) (s+(t.x.size+t.w.s.size:Nat)) r
theorem xX(k:Nat)(s:Int)(t:Tr)(r:List Tr):sF k s (t::r)=if 30<k∨1500<s+(t.x.size+t.w.s.size:Nat) then true else sF (k+1) (s+(t.x.size+t.w.s.size:Nat)) r:=rfl
theorem b6:∀(l:List Tr) (k:Nat) (s:Int),sF k s l=false→l.length=0∨k+l.length≤31
 | [],k,s,_=> .inl rfl
 |t::r,k,s,h=>by
  rw[xX] at h;split at h
  ·cases h
  rename_i q;have:=b6 r (k+1) _ h;simp only[KN];omega
theorem jq(o:Own)(l:List Tr)(hl:∀t∈l,t.s47)(h:Hp):aO Tryz.prog 6 [trs o l] h (.bool (sF 0 0 l)):=by
 refine aI (fun L=>trivial) fun h' nx hh=>aB L.g3z fun hd=>?_;simp only[KN,List.length_nil,Kw,Kx,List.replicate_succ,List.replicate_zero,List.cons_append,List.nil_append,V.undef];refine aue (e2 trs.eq_1 (@Km Tr V)) ?_
 refine aT (fun q:Nat×Int=>aD 30 0 [(2, .bool false),(3, .int .i64 q.2),(6, .sl (.agg 4) o (l.map Tr.v)),(7, .int .i64 l.length),(8, .int .i64 q.1)])
  (fun q hp nx1=>q.1≤l.length∧nx≤nx1∧aW hp nx1∧Kb nx h' hp∧sF 0 0 l=sF q.1 q.2 (l.drop q.1)∧0≤q.2∧q.2≤1500∧q.1≤31)
  (fun q=>l.length-q.1) (0,0) ⟨Ki _,Ks _,hd,Hp.same.aAt,rfl,Zw,Zw,Zw⟩ (by simp only[WkL,aD,KQ,KR,KO,go_sem,reduceIte,Kw,Kx,KK,Kz,reduceCtorEq,KA,KC]) ?_
 rintro⟨i,c⟩ hp nx1 ⟨hi,hnx,hdm,hsm,hTe,hb1,hb2,hb3⟩;generalize hQ:bB _ _ _ _ _=Q0;dsimp only at hi hTe hb1 hb2 hb3;simp only[aD,go_sem,reduceIte,Kw,Kx,KK,Kz,reduceCtorEq,KA,KC];have hle:=hsm.le hd (Ka _);rcases Kj i l.length with hlt|hge
 ·have hc:decide ((i:Int)<(l.length:Int))=true:=dct;have hg:=aR Tr.v l i hlt;have hw:IntKind.i64.wrap ((i:Int)+1)=((i+1:Nat):Int):=wrp;have hdr:l.drop i=l[i]::l.drop (i+1):=Kq hlt;obtain⟨q1,q2⟩:=hl _ (Kf hlt);unfold mS at q1 q2;rw[hdr,xX] at hTe;obtain⟨N,hN⟩:∃N,l[i].x.size+l[i].w.s.size=N:=⟨_,rfl⟩;rw[hN] at hTe;have w1:IntKind.i64.wrap ((l[i].x.size:Int)+(l[i].w.s.size:Int))=(N:Int):=wrp;have w2:IntKind.i64.wrap (c+(N:Int))=c+(N:Int):=wrp;by_cases hA:30<i
  ·have g1:decide ((30:Int)<(i:Int))=true:=dct;rw[if_pos (.inl hA)] at hTe;refine aue (e9 hc hg hlt w1 w2 g1 Tr.v.eq_1 (@Km Tr V) Ky) ?_;rw[←hQ];refine au ?_;refine aC h' (lef hd hle) ⟨?_,rfl⟩;rw[hTe];rfl
  have g1:decide ((30:Int)<(i:Int))=false:=dcf;by_cases hB:1500<c+(N:Int)
  ·have g2:decide (1500<c+(N:Int))=true:=dct;rw[if_pos (.inr hB)] at hTe;refine aue (e10 hc hg hlt w1 w2 g1 g2 Tr.v.eq_1 (@Km Tr V) Ky) ?_;rw[←hQ];refine au ?_;refine aC h' (lef hd hle) ⟨?_,rfl⟩;rw[hTe];rfl
  have g2:decide (1500<c+(N:Int))=false:=dcf;rw[if_neg or] at hTe;refine aue (e11 hc hg hlt w1 w2 g1 g2 Tr.v.eq_1 (@Km Tr V) Ky hw) ?_;rw[←hQ];exact aH (i+1,c+(N:Int)) Zw ⟨hlt,or,dmo hdm,kep hsm,hTe,Zw,Zw,Zw⟩ (by simp only[WkL,aD,KQ,KR,KO,go_sem,reduceIte,Kw,Kx,KK,Kz,reduceCtorEq,KA,KC])
 have hc:decide ((i:Int)<(l.length:Int))=false:=dcf;refine aue hc ?_;rw[←hQ];refine au ?_;refine aC h' hle ⟨?_,rfl⟩;rw[hTe,List.drop_eq_nil_of_le hge];rfl
end Go.Proofs.YtjfdoohogiojcaaGreatDoor
namespace Go.Proofs.YtjfdoohogiojcaaGreatDoor
open Go.RowKit Go.Sort
attribute [local irreducible] Kt
theorem fo{c:Nat}{a b:List Vl}(ha:c<a.length)(hb:c<b.length):bC c a=bC c b↔a.length=b.length∧∀i,(h1:i<a.length)→(h2:i<b.length)→i≠c→a[i]=b[i]:=by
 constructor
 ·intro h;have e:=nh ha hb h;have hl:a.length=b.length:=by rw[←e,List.length_set]
  refine⟨hl,fun i h1 h2 hne=>?_⟩;have e2:a[i]?=b[i]?:=by
   rw[←e,List.getElem?_set_ne (fun k=>hne k.symm)]
  rw[Kd h1,Kd h2] at e2;exact Option.some.inj e2
 rintro⟨hl,h⟩;apply List.ext_getElem
 ·simp[bC,KG,ha,hb,hl]
 intro i h1 h2;simp only[bC,List.getElem_eraseIdx];simp only[bC,KG,if_pos ha,if_pos hb] at h1 h2;split
 ·exact h i or or or
 exact h (i+1) or or or
theorem qk(o1 o2:Own)(a b:List Vl)(c:Nat)(ha:c<a.length)(hb:c<b.length)(hl:a.length≤1000000)(h:Hp):aO Tryz.prog 52 [vls o1 a,vls o2 b, .int .i64 c] h (.bool (decide (bC c a=bC c b))):=by
 refine aI (fun L=>trivial) fun h' nx hh=>aB L.aS6 fun hd=>?_;simp only[jL,jM,jA,jB,jN,jO,jP,jQ,V.undef];by_cases hlen:a.length=b.length;case neg=>
  have cl:((a.length:Int) != (b.length:Int))=true:=bnt;have:bC c a≠bC c b:=fun e=>hlen ((fo ha hb).1 e).1;refine aue (e2 cl (@jK Vl V)) ?_;exact aC h' (leo hd) ⟨by rw[decide_eq_false this]<;>rfl,rfl⟩
 have cl:((a.length:Int) != (b.length:Int))=false:=bnf;refine aue (e2 cl (@jK Vl V)) ?_;refine aT (fun i:Nat=>aD 33 0 [(0,vls o1 a),(1,vls o2 b),(2, .int .i64 c),(7, .int .i64 i)]) (fun i hp nx1=>i≤a.length∧nx≤nx1∧aW hp nx1∧Kb nx h' hp∧∀j,(h1:j<a.length)→(h2:j<b.length)→j<i→j≠c→a[j]=b[j]) (fun i=>a.length-i) 0 ⟨Ki _,Ks _,hd,Hp.same.aAt,fun j _ _ h=>absurd h or⟩ (by simp only[WkL,aD,jH,jI,jJ,go_sem,reduceIte,jA,jB,jC,jD,reduceCtorEq,jE,jF]) ?_;rintro i hp nx1 ⟨hi,hnx,hdm,hsm,aAu⟩;generalize hQ:bB _ _ _ _ _=Q0;simp only[aD,go_sem,reduceIte,jA,jB,jC,jD,reduceCtorEq,jE,jF];have hle:=hsm.le hd (Ka _);rcases Kj i a.length with hlt|hge
 ·have hc:decide ((i:Int)<(a.length:Int))=true:=dct;have hw:IntKind.i64.wrap ((i:Int)+1)=((i+1:Nat):Int):=wrp;have hlb:i<b.length:=or;have hg:=aR Vl.v a i hlt;have hg2:=aR Vl.v b i hlb;have hv:=dl a[i] b[i];have E:=e10 hc hw hg hg2 hv hlt hlb (@jK Vl V) jG (e3 Vl.aAA KH KE);have nxt:(i≠c→a[i]=b[i])→∀j,(h1:j<a.length)→(h2:j<b.length)→j<i+1→j≠c→a[j]=b[j]:=fun k j h1 h2 hj hne=>by
   rcases Kj j i with q|q
   ·exact aAu j h1 h2 q hne
   have:j=i:=or;subst this;exact k hne
  by_cases hic:i=c
  ·have ci:((i:Int) != (c:Int))=false:=bnf;refine aue (e2 E ci) ?_;rw[←hQ];exact aH (i+1) or ⟨hlt,or,dmo hdm,kep hsm,nxt fun k=>absurd hic k⟩ (by simp only[WkL,aD,jH,jI,jJ,hw,go_sem,reduceIte,jA,jB,jC,jD,reduceCtorEq,jE,jF])
  have ci:((i:Int) != (c:Int))=true:=bnt;cases he:decide (a[i]=b[i]) with
  |true=>
   refine aue (e3 E ci he) ?_;rw[←hQ];exact aH (i+1) or ⟨hlt,or,dmo hdm,kep hsm,nxt fun _=>of_decide_eq_true he⟩ (by simp only[WkL,aD,jH,jI,jJ,hw,go_sem,reduceIte,jA,jB,jC,jD,reduceCtorEq,jE,jF])
  |false=>
   refine aue (e3 E ci he) ?_;rw[←hQ];refine au ?_;have:bC c a≠bC c b:=fun e=>(of_decide_eq_false he) (((fo ha hb).1 e).2 i hlt hlb hic);exact aC h' (lef hd hle) ⟨by rw[decide_eq_false this]<;>rfl,rfl⟩
 have hc:decide ((i:Int)<(a.length:Int))=false:=dcf;have:bC c a=bC c b:=(fo ha hb).2 ⟨hlen,fun j h1 h2 hne=>aAu j h1 h2 or hne⟩;refine aue hc ?_;rw[←hQ];refine au ?_;exact aC h' (lef hd hle) ⟨by rw[decide_eq_true this]<;>rfl,rfl⟩
end Go.Proofs.YtjfdoohogiojcaaGreatDoor
