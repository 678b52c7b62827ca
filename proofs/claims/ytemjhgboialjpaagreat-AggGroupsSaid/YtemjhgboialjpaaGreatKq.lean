/-
Texts of this proof,one behind the other. No conditions.
-/
import Derived.Test.YtemjhgboialjpaaGreatKe
import Derived.Test.YtemjhgboialjpaaGreatKd
import Derived.Test.YtemjhgboialjpaaGreatKn
set_option linter.unusedSimpArgs false
set_option linter.unusedVariables false
set_option linter.unusedSectionVars false
open Nat renaming reduceAdd→jA,reduceSub→jB,reduceLT→jC,reduceLeDiff→jD,reduceEqDiff→jE
open Int renaming reduceToNat→jF,toNat_natCast→jG,natCast_add→jH,natCast_one→jI,natCast_zero→jJ
open List renaming length_map→jK,length_cons→jL,length_nil→jM,replicate_succ→jN,replicate_zero→jO,cons_append→jP,nil_append→jQ
namespace Go.Proofs.YtemjhgboialjpaaGreat
open Go.RowKit
theorem pL{v:V}(h:v.leafy=true):v.loose.leafy=true:=by
 cases v with
 |sl k o es=>cases o<;>rfl
 |_=>first|exact h|rfl
theorem VR.deep{K:Ker}{own:Own}{es:List V}{cv:Value}(r:VR K (.sl .leaf own es) cv):VR K (.sl .leaf own (es.map V.loose)) cv:=by
 cases r with
 |slnil=>exact .slnil _
 |slz _ a=>exact .slz _ a
 |sl _ _ _ b off cap f hb hfit hcell hst hv hcap hnil hfull htok=>
  have hl:es.length=(es.map V.loose).length:=(List.length_map ..).symm
  have:=VR.sl (K:=K) .leaf own (es.map V.loose) b off cap f hb (fun e he=>by
   obtain⟨x,hx,rfl⟩:=List.mem_map.1 he
   have:=hfit x hx
   rw[gA] at this⊢
   exact pL this) (by rw[←hl];exact hcell) (by rw[←hl];exact hst) (fun i hi j hj=>by
   rw[←hl] at hi
   have h1:=hv i hi j hj
   have hm:es.getD i V.undef∈es:=by rw[List.getD_eq_getElem?_getD,List.getElem?_eq_getElem hi];exact List.getElem_mem _
   have hf:=hfit _ hm
   rw[gA] at hf
   have hj0:j=0:=by simp[Sh.size] at hj;exact hj
   subst hj0
   have e1:(es.map V.loose).getD i V.undef=(es.getD i V.undef).loose:=by
    rw[List.getD_eq_getElem?_getD,List.getD_eq_getElem?_getD,List.getElem?_map,List.getElem?_eq_getElem hi];rfl
   rw[eW hf] at h1
   rw[e1,eW (pL hf)]
   exact h1.loose) (by rw[←hl];exact hcap) hnil (by rw[←hl];exact hfull) (by rw[←hl];exact htok)
  rw[←hl] at this
  exact this
theorem aAW{sl:List V}{h:Hp}{nx:Nat}(t:Nat){own:Own}{es:List V}(ht:sl.getD t V.undef= .sl .leaf own es):oI ⟨sl,h,nx⟩ ⟨sl.set t (.sl .leaf own (es.map V.loose)),h,nx⟩:=by
 intro K0 K nx0 a r
 have hv:=r.slots.2 t
 rw[ht] at hv
 exact⟨K,rfl,r.le,r.slots.set hv.deep,r.rel,r.live,r.nx,r.defers⟩
end Go.Proofs.YtemjhgboialjpaaGreat
namespace Go.Proofs.YtemjhgboialjpaaGreat
open Go.RowKit Go.Sort
attribute [local irreducible] IntKind.wrap
theorem xB(o1 o2:Own)(a b:List Vl)(ha:a.length≤1000000000)(hb:b.length≤1000000000)(h:Hp):bH Tryz.prog 175 [vls o1 a,vls o2 b] h (.bool (decide (a=b))):=by
 refine aT (fun L=>trivial) fun h' nx hh=>aF L.corollaryref02_Same_low fun hd=>?_
 simp only[jL,jM,jA,jB,jN,jO,jP,jQ,V.undef]
 have C1:=fun h=>mJ o1 o2 a b ha h
 have C2:=fun h=>mJ o2 o1 b a hb h
 have he:decide (a=b)=(!jU a b&& !jU b a):=by
  rw[Bool.eq_iff_iff]
  simp only[jU,decide_eq_true_eq,Bool.and_eq_true,Bool.not_eq_true',decide_eq_false_iff_not]
  constructor
  ·rintro rfl;simp[bS,c3T.self]
  rintro⟨h1,h2⟩
  rw[c3T.anti] at h2
  exact(c3T.eq a b).1 (by omega)
 rw[he]
 cases h1:jU a b with
 |true=>
  rw[h1] at C1
  refine aue (e2 Bool.not_true Bool.not_false) ?_
  exact aD h' (leo hd) ⟨rfl,rfl⟩
 |false=>
  rw[h1] at C1
  refine aue (e2 Bool.not_true Bool.not_false) ?_
  refine aD h' (leo hd) ⟨?_,rfl⟩
  simp
abbrev lsV(ls:List (List Vl)):List V:=ls.map fun t=>vls .free t
def eX(ar:Int)(ls:List (List Vl)):V:= .agg [.int .i64 ar,lst .leaf (lsV ls)]
theorem tS(ls:List (List Vl))(L:Nat→Prop):bQ L (lsV ls):=by
 induction ls with
 |nil=>trivial
 |cons x xs ih=>exact⟨kZ x (by simp) L,ih⟩
theorem zL(ar:Int)(ls:List (List Vl))(L:Nat→Prop):(eX ar ls).names L:=⟨trivial,iM (fun L=>tS ls L) L,trivial⟩
theorem oU(ar:Int)(ls:List (List Vl)):(eX ar ls).fits (.agg 2)=true:=by
 unfold eX
 cases ls<;>rfl
theorem aBc(ar:Int)(ls:List (List Vl))(hl:ls.length≤1000000000)(hr:∀t∈ls,t.length≤1000000000)(o2:Own)(t:List Vl)(ht:t.length≤1000000000)(h:Hp):bH Tryz.prog 120 [eX ar ls,vls o2 t] h (.bool (decide (t∈ls))):=by
 refine aT (fun L=>trivial) fun h' nx hh=>aF L.corollaryref03_Has_low fun hd=>?_
 simp only[jL,jM,jA,jB,jN,jO,jP,jQ,V.undef]
 obtain⟨ow,how⟩:=iV .leaf (lsV ls)
 have hrv:eX ar ls= .agg [.int .i64 ar, .sl .leaf ow (lsV ls)]:=by rw[eX,how]
 rw[hrv]
 refine au ?_
 refine aY (fun i:Nat=>aC 20 0 [(1,vls o2 t),(2, .ptr nx (.agg 2) 0 0),(5, .int .i64 i)])
  (fun i hp nx1=>i≤ls.length∧nx+1≤nx1∧aX hp nx1∧Hp.same nx h' hp∧hp nx=some (.arr (.agg 2) [.agg [.int .i64 ar, .sl .leaf ow (lsV ls)]])∧t∉ls.take i) (fun i=>ls.length-i) 0 ⟨Nat.zero_le _,by first|omega|(dsimp only;omega),dmo hd,kep Hp.same.rfl',by simp[Hp.set],by simp⟩ (by simp only[WkL,aC,jH,jI,jJ,go_sem,reduceIte,jA,jB,jC,jD,reduceCtorEq,jE,jF]) ?_
 rintro i hp nx1 ⟨hi,hnx,hdm,hsm,hbx,hno⟩
 generalize hQ:bU _ _ _ _ _=Q0
 simp only[aC,go_sem,reduceIte,jA,jB,jC,jD,reduceCtorEq,jE,jF]
 have hle:=hsm.le hd (Hp.le_refl _)
 have hn0:nx<nx1:=by omega
 have hlsl:(lsV ls).length=ls.length:=jK ..
 rcases Nat.lt_or_ge i ls.length with hlt|hge
 ·have hc:decide ((i:Int)<(ls.length:Int))=true:=dct
  have hw:IntKind.i64.wrap ((i:Int)+1)=((i+1:Nat):Int):=wrp
  have hg:(lsV ls).getD i (.tup [])=vls .free ls[i]:=aO (fun t=>vls .free t) ls i hlt
  have C1:=fun h=>xB .free o2 ls[i] t (hr _ (List.getElem_mem _)) ht h
  have E:=e8 hc hw hg hlt hlsl hbx hn0 jG
  cases he:decide (ls[i]=t) with
  |true=>
   rw[he] at C1
   have hin:t∈ls:=(of_decide_eq_true he)▸List.getElem_mem hlt
   refine aue E ?_
   rw[←hQ]
   refine au ?_
   exact aD h' (lef hd hle) ⟨by rw[decide_eq_true hin]<;>rfl,rfl⟩
  |false=>
   rw[he] at C1
   refine aue E ?_
   rw[←hQ]
   refine aM (i+1) (by omega) ⟨hlt,by omega,dmo hdm,kep hsm,hbx,fun hm=>?_⟩ (by simp only[WkL,aC,jH,jI,jJ,hw,go_sem,reduceIte,jA,jB,jC,jD,reduceCtorEq,jE,jF])
   rw[List.take_succ_eq_append_getElem hlt] at hm
   rcases List.mem_append.1 hm with hm|hm
   ·exact hno hm
   exact(of_decide_eq_false he) (List.mem_singleton.1 hm).symm
 have hc:decide ((i:Int)<(ls.length:Int))=false:=dcf
 rw[List.take_of_length_le hge] at hno
 refine aue (e4 hc hlsl hbx hn0) ?_
 rw[←hQ]
 refine au ?_
 exact aD h' (lef hd hle) ⟨by rw[decide_eq_false hno]<;>rfl,rfl⟩
theorem aDi(ls:List (List Vl))(h:ls≠ []):lst .leaf (lsV ls)= .sl .leaf .free (lsV ls):=by
 cases ls with
 |nil=>exact absurd rfl h
 |cons a b=>rfl
set_option maxHeartbeats 2000000 in
theorem tJ(ar:Int)(ls:List (List Vl))(hs:Str bS ls)(hl:ls.length≤1000000)(hr:∀t∈ls,t.length≤1000000)(o2:Own)(t:List Vl)(ht:t.length≤1000000)(h:Hp):bH Tryz.prog 61 [eX ar ls,vls o2 t] h (eX ar (fU bS t ls)):=by
 refine iC (fun L=>zL _ _ L) fun h' nx hh=>aF L.corollaryref03_Put_low fun hd=>?_
 simp only[jL,jM,jA,jB,jN,jO,jP,jQ,V.undef]
 obtain⟨ow,how⟩:=iV .leaf (lsV ls)
 have hrv:eX ar ls= .agg [.int .i64 ar, .sl .leaf ow (lsV ls)]:=by rw[eX,how]
 have hlo:(eX ar ls).loose=eX ar ls:=by
  unfold eX
  cases ls<;>rfl
 have C1:=fun h=>aBc ar ls (by omega) (fun q hq=>by have:=hr q hq;omega) o2 t (by omega) h
 rw[hrv] at C1 hlo⊢
 have hfz:V.fits (.agg 2) (.agg [.int .i64 ar, .sl .leaf ow (lsV ls)])=true:=rfl
 cases hm:decide (t∈ls) with
 |true=>
  rw[hm] at C1
  have hin:=wB c3T hs (of_decide_eq_true hm)
  refine aue hfz ?_
  refine xE (by simp only[go_sem,reduceIte,jA,jB,jC,jD,reduceCtorEq,jE,jF]) _ (Hp.le_refl _) ⟨?_,leo hd⟩
  simp only[go_sem,reduceIte,jA,jB,jC,jD,reduceCtorEq,jE,jF]
  rw[hin,hrv]
  exact hlo
 |false=>
 rw[hm] at C1
 have hni:t∉ls:=of_decide_eq_false hm
 have hlsl:(lsV ls).length=ls.length:=jK ..
 refine aue hfz ?_
 refine aY (fun k:Nat=>aC 48 0 [(1,vls o2 t),(2, .ptr nx (.agg 2) 0 0),(4, .ptr (nx+1) (.agg 2) 0 0),(5, .int .i64 k)])
  (fun k hp nx1=>k≤ls.length∧nx+2≤nx1∧aX hp nx1∧Hp.same nx h' hp∧hp nx=some (.arr (.agg 2) [.agg [.int .i64 ar, .sl .leaf ow (lsV ls)]])∧hp (nx+1)=some (.arr (.agg 2) [.agg [.int .i64 0, .sl .leaf .nil []]])∧∀y∈ls.take k,bS y t<0) (fun k=>ls.length-k) 0 ⟨Nat.zero_le _,by first|omega|(dsimp only;omega),dmo hd,kep Hp.same.rfl',by simp[Hp.set],by simp[Hp.set],by simp⟩ (by simp only[WkL,aC,jH,jI,jJ,go_sem,reduceIte,jA,jB,jC,jD,reduceCtorEq,jE,jF]) ?_
 rintro k hp nx1 ⟨hk,hnx,hdm,hsm,hbx,hbx2,hall⟩
 generalize hQ:bU _ _ _ _ _=Q0
 simp only[aC,go_sem,reduceIte,jA,jB,jC,jD,reduceCtorEq,jE,jF]
 have hle:=hsm.le hd (Hp.le_refl _)
 have n0:nx<nx1:=by omega
 have n1:nx+1<nx1:=by omega
 have out:(∀hk:k<ls.length,¬bS ls[k] t<0)→∀sl,WkL sl (aC 48 0 [(1,vls o2 t),(2, .ptr nx (.agg 2) 0 0),(4, .ptr (nx+1) (.agg 2) 0 0),(5, .int .i64 k)])→Q0 (.exit 0) ⟨sl,hp,nx1⟩:=fun hstop sl hsl=>by
  have hins:=aAF c3T hk hall hstop hni
  rw[←hQ]
  refine dZ (eD (iR ⟨aC 48 0 [(1,vls o2 t),(2, .ptr nx (.agg 2) 0 0),(4, .ptr (nx+1) (.agg 2) 0 0),(5, .int .i64 k)],hp,nx1⟩ ⟨hsl,Hp.le_refl _,Nat.le_refl _⟩ ?_))
  simp only[aC,go_sem,reduceIte,jA,jB,jC,jD,reduceCtorEq,jE,jF]
  have hkt:((lsV ls).take k).length=k:=by rw[List.length_take,hlsl];omega
  have hml:(t.map Vl.v).length=t.length:=jK ..
  have htk:(lsV ls).take ls.length=lsV ls:=List.take_of_length_le (by omega)
  have hdk:((lsV ls).drop k).length=ls.length-k:=by rw[List.length_drop,hlsl]
  refine dR (dS ?_)
  generalize hR:lwp _ (aJ.seq (aJ.ops L.corollaryref03_Put_r7) _)=R
  refine aue (e8 hbx hbx2 n0 n1 hlsl jG hkt hml) ?_
  rw[←hR]
  refine dR ?_
  generalize hR2:mN _ _=R2
  refine aue (e8 hbx hbx2 n0 n1 hlsl jG hkt hml) ?_
  rw[←hR2]
  refine lC (aAW 6 rfl) ?_
  have hco:∀h0 deps adds cons b,kW h0 (nx1+6) deps adds cons (nx1+5) b=(cX (nx1+5) cons∧h0 (nx1+5)=some b):=fun h0 deps adds cons b=>by
   unfold kW
   rw[eq_iff_iff]
   constructor
   ·rintro⟨h1,⟨_,h2⟩|⟨d,_,h3,_⟩⟩
    ·exact⟨h1,h2⟩
    omega
   rintro⟨h1,h2⟩;exact⟨h1, .inl ⟨by omega,h2⟩⟩
  have hloo:∀q:List (List Vl),(lsV q).map V.loose=lsV q:=fun q=>by
   simp[lsV,vls,V.loose,Function.comp_def]
  have hl6:(List.take k (lsV ls)++[V.sl (.agg 3) (.tok (nx1+3)) (t.map Vl.v)]).map V.loose=List.take k (lsV ls)++[vls .free t]:=by
   have:((lsV ls).take k).map V.loose=(lsV ls).take k:=by rw[List.map_take,hloo]
   rw[List.map_append,this];rfl
  rw[hl6]
  simp only[go_sem,reduceIte,jA,jB,jC,jD,reduceCtorEq,jE,jF]
  refine aue (e12 hbx hbx2 n0 n1 hlsl jG hkt hml hco htk hdk (@List.length_append V)) ?_
  refine xE (by simp only[go_sem,reduceIte,jA,jB,jC,jD,reduceCtorEq,jE,jF]) _ (Hp.le_refl _) ⟨?_,lef hd hle⟩
  simp only[go_sem,reduceIte,jA,jB,jC,jD,reduceCtorEq,jE,jF]
  have hne:ls.take k++t::ls.drop k≠ []:=by simp
  have hlv:lsV (ls.take k++t::ls.drop k)=List.take k (lsV ls)++[vls .free t]++List.drop k (lsV ls):=by
   simp[lsV,List.map_append,List.map_take,List.map_drop]
  rw[hins,eX,aDi _ hne,hlv]
  rfl
 rcases Nat.lt_or_ge k ls.length with hlt|hge
 ·have hc:decide ((k:Int)<(ls.length:Int))=true:=dct
  have hw:IntKind.i64.wrap ((k:Int)+1)=((k+1:Nat):Int):=wrp
  have hg:(lsV ls).getD k (.tup [])=vls .free ls[k]:=aO (fun t=>vls .free t) ls k hlt
  have C1:=fun h=>mJ .free o2 ls[k] t (by have:=hr _ (List.getElem_mem hlt);omega) h
  have E:=e8 hc hw hg hlt hlsl hbx n0 jG
  cases he:jU ls[k] t with
  |true=>
   rw[he] at C1
   refine aue E ?_
   rw[←hQ]
   refine aM (k+1) (by omega) ⟨hlt,by omega,dmo hdm,kep hsm,hbx,hbx2,fun y hy=>?_⟩ (by simp only[WkL,aC,jH,jI,jJ,hw,go_sem,reduceIte,jA,jB,jC,jD,reduceCtorEq,jE,jF])
   rw[List.take_succ_eq_append_getElem hlt] at hy
   rcases List.mem_append.1 hy with hy|hy
   ·exact hall y hy
   rw[List.mem_singleton.1 hy];exact of_decide_eq_true he
  |false=>
   rw[he] at C1
   refine aue E ?_
   exact out (fun _=>of_decide_eq_false he) _ (by simp only[WkL,aC,jH,jI,jJ,go_sem,reduceIte,jA,jB,jC,jD,reduceCtorEq,jE,jF])
 have hc:decide ((k:Int)<(ls.length:Int))=false:=dcf
 refine aue (e4 hc hlsl hbx n0) ?_
 exact out (fun k=>absurd k (by omega)) _ (by simp only[WkL,aC,jH,jI,jJ,go_sem,reduceIte,jA,jB,jC,jD,reduceCtorEq,jE,jF])
theorem vZ{c:Nat}{a b:List Vl}(ha:c<a.length)(hb:c<b.length):aU c a=aU c b↔a.length=b.length∧∀i,(h1:i<a.length)→(h2:i<b.length)→i≠c→a[i]=b[i]:=by
 constructor
 ·intro h
  have e:=zC ha hb h
  have hl:a.length=b.length:=by rw[←e,List.length_set]
  refine⟨hl,fun i h1 h2 hne=>?_⟩
  have e2:a[i]?=b[i]?:=by
   rw[←e,List.getElem?_set_ne (fun k=>hne k.symm)]
  rw[List.getElem?_eq_getElem h1,List.getElem?_eq_getElem h2] at e2
  exact Option.some.inj e2
 rintro⟨hl,h⟩
 apply List.ext_getElem
 ·simp[aU,List.length_eraseIdx,ha,hb,hl]
 intro i h1 h2
 simp only[aU,List.getElem_eraseIdx]
 simp only[aU,List.length_eraseIdx,if_pos ha,if_pos hb] at h1 h2
 split
 ·exact h i (by omega) (by omega) (by omega)
 exact h (i+1) (by omega) (by omega) (by omega)
theorem aAt(o1 o2:Own)(a b:List Vl)(c:Nat)(ha:c<a.length)(hb:c<b.length)(hl:a.length≤1000000)(h:Hp):bH Tryz.prog 62 [vls o1 a,vls o2 b, .int .i64 c] h (.bool (decide (aU c a=aU c b))):=by
 refine aT (fun L=>trivial) fun h' nx hh=>aF L.corollaryref16_alike_low fun hd=>?_
 simp only[jL,jM,jA,jB,jN,jO,jP,jQ,V.undef]
 by_cases hlen:a.length=b.length
 case neg=>
  have cl:((a.length:Int) != (b.length:Int))=true:=bnt
  have:aU c a≠aU c b:=fun e=>hlen ((vZ ha hb).1 e).1
  refine aue (e2 cl (@jK Vl V)) ?_
  exact aD h' (leo hd) ⟨by rw[decide_eq_false this]<;>rfl,rfl⟩
 have cl:((a.length:Int) != (b.length:Int))=false:=bnf
 refine aue (e2 cl (@jK Vl V)) ?_
 refine aY (fun i:Nat=>aC 33 0 [(0,vls o1 a),(1,vls o2 b),(2, .int .i64 c),(7, .int .i64 i)]) (fun i hp nx1=>i≤a.length∧nx≤nx1∧aX hp nx1∧Hp.same nx h' hp∧∀j,(h1:j<a.length)→(h2:j<b.length)→j<i→j≠c→a[j]=b[j]) (fun i=>a.length-i) 0 ⟨Nat.zero_le _,Nat.le_refl _,hd,Hp.same.rfl',fun j _ _ h=>absurd h (by omega)⟩ (by simp only[WkL,aC,jH,jI,jJ,go_sem,reduceIte,jA,jB,jC,jD,reduceCtorEq,jE,jF]) ?_
 rintro i hp nx1 ⟨hi,hnx,hdm,hsm,hsame⟩
 generalize hQ:bU _ _ _ _ _=Q0
 simp only[aC,go_sem,reduceIte,jA,jB,jC,jD,reduceCtorEq,jE,jF]
 have hle:=hsm.le hd (Hp.le_refl _)
 rcases Nat.lt_or_ge i a.length with hlt|hge
 ·have hc:decide ((i:Int)<(a.length:Int))=true:=dct
  have hw:IntKind.i64.wrap ((i:Int)+1)=((i+1:Nat):Int):=wrp
  have hlb:i<b.length:=by omega
  have hg:=aO Vl.v a i hlt
  have hg2:=aO Vl.v b i hlb
  have hv:=vF a[i] b[i]
  have E:=e10 hc hw hg hg2 hv hlt hlb (@jK Vl V) jG (e3 Vl.fits_v Bool.not_true Bool.not_false)
  have nxt:(i≠c→a[i]=b[i])→∀j,(h1:j<a.length)→(h2:j<b.length)→j<i+1→j≠c→a[j]=b[j]:=fun k j h1 h2 hj hne=>by
   rcases Nat.lt_or_ge j i with q|q
   ·exact hsame j h1 h2 q hne
   have:j=i:=by omega
   subst this;exact k hne
  by_cases hic:i=c
  ·have ci:((i:Int) != (c:Int))=false:=bnf
   refine aue (e2 E ci) ?_
   rw[←hQ]
   exact aM (i+1) (by omega) ⟨hlt,by omega,dmo hdm,kep hsm,nxt fun k=>absurd hic k⟩ (by simp only[WkL,aC,jH,jI,jJ,hw,go_sem,reduceIte,jA,jB,jC,jD,reduceCtorEq,jE,jF])
  have ci:((i:Int) != (c:Int))=true:=bnt
  cases he:decide (a[i]=b[i]) with
  |true=>
   refine aue (e3 E ci he) ?_
   rw[←hQ]
   exact aM (i+1) (by omega) ⟨hlt,by omega,dmo hdm,kep hsm,nxt fun _=>of_decide_eq_true he⟩ (by simp only[WkL,aC,jH,jI,jJ,hw,go_sem,reduceIte,jA,jB,jC,jD,reduceCtorEq,jE,jF])
  |false=>
   refine aue (e3 E ci he) ?_
   rw[←hQ]
   refine au ?_
   have:aU c a≠aU c b:=fun e=>(of_decide_eq_false he) (((vZ ha hb).1 e).2 i hlt hlb hic)
   exact aD h' (lef hd hle) ⟨by rw[decide_eq_false this]<;>rfl,rfl⟩
 have hc:decide ((i:Int)<(a.length:Int))=false:=dcf
 have:aU c a=aU c b:=(vZ ha hb).2 ⟨hlen,fun j h1 h2 hne=>hsame j h1 h2 (by omega) hne⟩
 refine aue hc ?_
 rw[←hQ]
 refine au ?_
 exact aD h' (lef hd hle) ⟨by rw[decide_eq_true this]<;>rfl,rfl⟩
end Go.Proofs.YtemjhgboialjpaaGreat
