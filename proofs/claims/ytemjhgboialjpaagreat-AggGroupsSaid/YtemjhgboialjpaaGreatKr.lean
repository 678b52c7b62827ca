/-
Texts of this proof,one behind the other. No conditions.
-/
import Derived.Test.YtemjhgboialjpaaGreatKd
import Derived.Test.YtemjhgboialjpaaGreatKq
import Derived.Test.YtemjhgboialjpaaGreatKp
open Nat renaming reduceAdd→jA,reduceSub→jB,reduceLT→jC,reduceLeDiff→jD,reduceEqDiff→jE
open Int renaming reduceToNat→jF,toNat_natCast→jG,natCast_add→jH,natCast_one→jI,natCast_zero→jJ
open List renaming length_map→jK,length_cons→jL,length_nil→jM,replicate_succ→jN,replicate_zero→jO,cons_append→jP,nil_append→jQ
set_option linter.unusedSimpArgs false
set_option linter.unusedVariables false
set_option linter.unusedSectionVars false
namespace Go.Proofs.YtemjhgboialjpaaGreat
open Go.RowKit Go.Sort
attribute [local irreducible] IntKind.wrap
abbrev rgS(g:Int)(c a b i:Nat):List (Nat×V):=[(0, .int .i64 g),(1, .int .i64 c),(8, .ptr a (.agg 2) 0 0),(10, .ptr b (.agg 2) 0 0),(11, .int .i64 i)]
def iX(c:Nat)(S:List (List Vl))(i k:Nat):Bool:=decide (∀s∈(S.take i).take k,aU c s≠aU c (S.getD i []))
def lT(c:Nat)(S:List (List Vl))(i k:Nat):List Vl:=fA c (aU c (S.getD i [])) (S.take k)
theorem xY{c:Nat}{S:List (List Vl)}{i k:Nat}(hi:i<S.length)(hk:k<S.length):
 iX c S i (k+1)=(iX c S i k&& !(decide (aU c S[k]=aU c S[i])&&decide (k<i))):=by
 have hgi:S.getD i []=S[i]:=by rw[List.getD_eq_getElem?_getD,List.getElem?_eq_getElem hi];rfl
 unfold iX
 rw[hgi,Bool.eq_iff_iff]
 rcases Nat.lt_or_ge k i with q|q
 ·have hkt:k<(S.take i).length:=by simp;omega
  rw[List.take_succ_eq_append_getElem hkt]
  simp only[List.getElem_take,List.mem_append,List.mem_singleton,decide_eq_true_eq,Bool.and_eq_true,Bool.not_eq_true',Bool.and_eq_false_iff,decide_eq_false_iff_not]
  constructor
  ·intro h;exact⟨fun s hs=>h s (.inl hs), .inl (h _ (.inr rfl))⟩
  rintro⟨h1,h2⟩ s (hs|rfl)
  ·exact h1 s hs
  exact h2.elim id fun k=>absurd q k
 have e1:(S.take i).take (k+1)=(S.take i).take k:=by rw[List.take_of_length_le (l:=S.take i) (i:=k+1) (by rw[List.length_take];omega),List.take_of_length_le (l:=S.take i) (i:=k) (by rw[List.length_take];omega)]
 rw[e1]
 simp only[decide_eq_true_eq,Bool.and_eq_true,Bool.not_eq_true',Bool.and_eq_false_iff,decide_eq_false_iff_not]
 exact⟨fun h=>⟨h, .inr (by omega)⟩,fun h=>h.1⟩
theorem aBi{c:Nat}{S:List (List Vl)}{i k:Nat}(hi:i<S.length)(hk:k<S.length):
 lT c S i (k+1)=lT c S i k++if decide (aU c S[k]=aU c S[i])=true then [S[k].getD c dF] else []:=by
 have hgi:S.getD i []=S[i]:=by rw[List.getD_eq_getElem?_getD,List.getElem?_eq_getElem hi];rfl
 unfold lT fA
 rw[hgi,List.take_succ_eq_append_getElem hk,List.filter_append,List.map_append]
 congr 1
 by_cases e:aU c S[k]=aU c S[i]<;>simp[e]
set_option maxRecDepth 100000 in
set_option maxHeartbeats 8000000 in
theorem aDX(g:Int)(c:Nat)(S:List (List Vl))(hS:S.length≤1000000)(hrow:∀t∈S,c<t.length∧t.length≤1000)(ow:Own)(h':Hp)(nx0:Nat)(a b i:Nat)(hi:i<S.length)(hp:Hp)(nx1:Nat)(ha:a<nx0)(h0:nx0≤nx1)(hbx:hp a=some (.arr (.agg 2) [.agg [.int .i64 0, .sl .leaf ow (lsV S)]]))(hdm:aX hp nx1)(Qx:bB→St→Prop)
 (hq:∀oo hp2 nx5,nx1≤nx5→aX hp2 nx5→Hp.same nx1 hp hp2→Acc hp2 nx1 oo ((lT c S i S.length).map Vl.v)→∀sl,WkL sl (aC 127 0 (rgS g c a b i++[(12, .bool (iX c S i S.length)),(13,vls oo (lT c S i S.length))]))→Qx .normal ⟨sl,hp2,nx5⟩):
 lwp Tryz.prog (.loop L.corollaryref16_Group_l1) (cK 4 Qx) ⟨aC 127 0 (rgS g c a b i++[(12, .bool true),(13, .sl (.agg 3) .nil []),(14, .int .i64 0)]),hp,nx1⟩:=by
 have hls:(lsV S).length=S.length:=jK ..
 have hgi:(lsV S).getD i (.tup [])=vls .free S[i]:=aO (fun t=>vls .free t) S i hi
 refine aY (fun q:Nat×Own=>aC 127 0 (rgS g c a b i++[(12, .bool (iX c S i q.1)),(13,vls q.2 (lT c S i q.1)),(14, .int .i64 q.1)]))
  (fun q hp2 nx2=>q.1≤S.length∧nx1≤nx2∧aX hp2 nx2∧Hp.same nx1 hp hp2∧Acc hp2 nx1 q.2 ((lT c S i q.1).map Vl.v)) (fun q=>S.length-q.1) (0, .nil) ⟨Nat.zero_le _,Nat.le_refl _,hdm,Hp.same.rfl',Acc.nil⟩ (WkL.refl _) ?_
 rintro⟨k,oo⟩ hp2 nx2 ⟨hk,hnx2,hdm2,hsm2,hacc2⟩
 generalize hQ:bU _ _ _ _ _=Q0
 dsimp only at hk hacc2
 simp only[aC,jP,jQ,go_sem,reduceIte,jA,jB,jC,jD,reduceCtorEq,jE,jF]
 have hbx2:hp2 a=some (.arr (.agg 2) [.agg [.int .i64 0, .sl .leaf ow (lsV S)]]):=by rw[hsm2 a (by omega)];exact hbx
 have han:a<nx2:=by omega
 have E0:=e8 hls hbx2 han hi hgi jG (@jK Vl V) Vl.fits_v
 rcases Nat.lt_or_ge k S.length with hlt|hge
 ·have hc:decide ((k:Int)<(S.length:Int))=true:=dct
  have hw:IntKind.i64.wrap ((k:Int)+1)=((k+1:Nat):Int):=wrp
  have hgk:(lsV S).getD k (.tup [])=vls .free S[k]:=aO (fun t=>vls .free t) S k hlt
  obtain⟨r1,r2⟩:=hrow _ (List.getElem_mem hlt)
  obtain⟨r3,r4⟩:=hrow _ (List.getElem_mem hi)
  have D1:=fun h=>aAt .free .free S[i] S[k] c r3 r1 (by omega) h
  have hf:=xY (c:=c) hi hlt
  have ho:=aBi (c:=c) hi hlt
  have hsw:decide (aU c S[i]=aU c S[k])=decide (aU c S[k]=aU c S[i]):=by
   rw[Bool.eq_iff_iff];simp only[decide_eq_true_eq];exact⟨Eq.symm,Eq.symm⟩
  rw[hsw] at D1
  have E1:=e4 hc hlt hgk E0
  cases he:decide (aU c S[k]=aU c S[i]) with
  |false=>
   rw[he] at D1 hf ho
   rw[Bool.false_and,Bool.not_false,Bool.and_true] at hf
   rw[if_neg (by simp),List.append_nil] at ho
   refine aue E1 ?_
   rw[←hQ]
   refine aue hw ?_
   exact aM (k+1,oo) (by dsimp only;omega) ⟨hlt,by omega,dmo hdm2,kep hsm2,by dsimp only;rw[ho];exact hacc2⟩ (by simp only[WkL,aC,jH,jI,jJ,rgS,jP,jQ,hw,hf,ho,go_sem,reduceIte,jA,jB,jC,jD,reduceCtorEq,jE,jF])
  |true=>
   rw[he] at D1 hf ho
   rw[if_pos rfl] at ho
   have hgc:(S[k].map Vl.v).getD c (.tup [])=(S[k].getD c dF).v:=by
    rw[aO Vl.v S[k] c r1,List.getD_eq_getElem?_getD,List.getElem?_eq_getElem r1];rfl
   have hcap:(lT c S i k).length≤1000000:=by
    have:(lT c S i k).length≤(S.take k).length:=by
     unfold lT fA
     rw[jK]
     exact List.length_filter_le _ _
    rw[List.length_take] at this;omega
   have hki:decide ((i:Int)≤(k:Int))= !decide (k<i):=by
    rw[Bool.eq_iff_iff];simp
   have hacc:=hacc2
   have hdm:=hdm2
   rw[Bool.true_and] at hf
   cases hfr:iX c S i k<;>rw[hfr] at hf
   all_goals
    refine aue (e6 E1 hgc r1 hki Bool.true_and Bool.false_and) ?_
    rw[←hQ]
    refine aue hw ?_
    refine aM (k+1, .tok (nx2+13)) (by dsimp only;omega) ⟨hlt,by omega,dmo hdm,aDm hsm2 hacc2,?_⟩ (by simp only[WkL,aC,jH,jI,jJ,rgS,jP,jQ,hw,hf,ho,vls,List.map_append,List.map_cons,List.map_nil,go_sem,reduceIte,jA,jB,jC,jD,reduceCtorEq,jE,jF])
    dsimp only;rw[ho,List.map_append];exact Acc.new _ (by simp) (by omega)
 have hc:decide ((k:Int)<(S.length:Int))=false:=dcf
 have hke:k=S.length:=by omega
 subst hke
 refine aue (e2 hc E0) ?_
 rw[←hQ]
 refine au ?_
 exact hq oo hp2 nx2 hnx2 hdm2 hsm2 hacc2 _ (by simp only[WkL,aC,jH,jI,jJ,rgS,jP,jQ,go_sem,reduceIte,jA,jB,jC,jD,reduceCtorEq,jE,jF])
abbrev aDY:aJ:=(((aJ.ops L.corollaryref16_Group_r23).seq (aJ.cond (aG.slot 101) (aJ.exit 3) aJ.skip)).seq ((aJ.ops L.corollaryref16_Group_r24).seq (((aJ.ops L.corollaryref16_Group_r25).seq (aJ.cond (aG.slot 109) ((aJ.ops L.corollaryref16_Group_r26).seq aJ.ret) aJ.skip)).seq ((aJ.ops L.corollaryref16_Group_r27).seq ((aJ.ops L.corollaryref16_Group_r28).seq (aJ.ops L.corollaryref16_Group_r29))))))
set_option maxRecDepth 100000 in
set_option maxHeartbeats 8000000 in
theorem aDW(g:Int)(c:Nat)(S:List (List Vl))(hrow:∀t∈S,c<t.length∧t.length≤1000)(ow:Own)(a b i:Nat)(hi:i<S.length)(hp:Hp)(nx1:Nat)(ha:a<nx1)(hb:b<nx1)(hab:a≠b)(hbx:hp a=some (.arr (.agg 2) [.agg [.int .i64 0, .sl .leaf ow (lsV S)]]))(hdm:aX hp nx1)
 (outl:List (List Vl)) (hos:Str bS outl) (hol:outl.length≤1000000) (hor:∀t∈outl,t.length≤1000000) (hbo:hp b=some (.arr (.agg 2) [eX 0 outl])) (first:Bool) (oo:Own) (own:List Vl) (hown:own.length≤1000000) (hos2:∀x∈own,x.sm) (Qy:bB→St→Prop)
 (hno:first=false→∀sl,WkL sl (aC 127 0 (rgS g c a b i))→Qy .normal ⟨sl,hp,nx1⟩)
 (hbad:first=true→(cH g own).2≠0→∀sl hp2 nx2,Hp.same nx1 hp hp2→sl.getD 6 V.undef= .sl .leaf .nil []→sl.getD 7 V.undef= .int .i64 (cH g own).2→Qy .ret ⟨sl,hp2,nx2⟩)
 (hyes:first=true→(cH g own).2=0→∀hp2 nx5,nx1≤nx5→aX hp2 nx5→(∀m,m<nx1→m≠b→hp2 m=hp m)→hp2 b=some (.arr (.agg 2) [eX 0 (fU bS (S[i].set c (cH g own).1) outl)])→∀sl,WkL sl (aC 127 0 (rgS g c a b i))→Qy .normal ⟨sl,hp2,nx5⟩):
 lwp Tryz.prog aDY (cK 3 Qy) ⟨aC 127 0 (rgS g c a b i++[(12, .bool first),(13,vls oo own)]),hp,nx1⟩:=by
 have hls:(lsV S).length=S.length:=jK ..
 have hgi:(lsV S).getD i (.tup [])=vls .free S[i]:=aO (fun t=>vls .free t) S i hi
 obtain⟨r1,r2⟩:=hrow _ (List.getElem_mem hi)
 simp only[aC,jP,jQ,go_sem,reduceIte,jA,jB,jC,jD,reduceCtorEq,jE,jF]
 cases first with
 |false=>
  refine au ?_
  exact hno rfl _ (by simp only[WkL,aC,jH,jI,jJ,rgS,go_sem,reduceIte,jA,jB,jC,jD,reduceCtorEq,jE,jF])
 |true=>
 have C1:=fun h=>zK g oo own hown hos2 h
 obtain⟨x,n,hx⟩:∃x n,cH g own=(x,n):=⟨_,_,rfl⟩
 rw[hx] at C1 hbad hyes
 dsimp only at hbad hyes
 have hxf:=x.fits_v
 cases hn:(n != 0) with
 |true=>
  have hn0:n≠0:=by simpa using hn
  refine aue (e2 hn Vl.fits_v) ?_
  exact hbad rfl hn0 _ _ _ (dG (dG Hp.same.rfl' (Nat.le_refl _) _) (Nat.le_refl _) _) rfl rfl
 |false=>
 have hn0:n=0:=by simpa using hn
 unfold aDY
 generalize hR:aJ.seq (aJ.ops L.corollaryref16_Group_r27) (aJ.seq (aJ.ops L.corollaryref16_Group_r28) (aJ.ops L.corollaryref16_Group_r29))=R
 refine aue (e2 hn Vl.fits_v) ?_
 rw[←hR]
 obtain⟨H1,hH1⟩:∃H1,H1=(hp.set nx1 (.arr (.agg 3) [.agg [.int .i64 0, .int .i64 0, .str ⟨#[]⟩]])).set nx1 (.arr (.agg 3) [x.v]):=⟨_,rfl⟩
 have g1:H1 nx1=some (.arr (.agg 3) [x.v]):=by rw[hH1];simp[Hp.set]
 have gk:∀m,m≠nx1→H1 m=hp m:=fun m hm=>by rw[hH1];simp[Hp.set,hm]
 have g2:H1 a=some (.arr (.agg 2) [.agg [.int .i64 0, .sl .leaf ow (lsV S)]]):=by rw[gk a (by omega)];exact hbx
 have g3:H1 b=some (.arr (.agg 2) [eX 0 outl]):=by rw[gk b (by omega)];exact hbo
 have hd1:aX H1 (nx1+2):=by rw[hH1];exact dmo hdm
 rw[←hH1]
 clear hH1
 have e1:(a=nx1+2)=False:=eq_false (by omega)
 have hne:S[i].map Vl.v≠ []:=by
  intro e
  have:=congrArg List.length e
  simp at this
  rw[this] at r1;cases r1
 have hlm:(S[i].map Vl.v).length=S[i].length:=jK ..
 refine dR (dS ?_)
 refine fS (by simp) ?_
 simp only[go_sem,reduceIte,jA,jB,jC,jD,reduceCtorEq,jE,jF]
 refine eI 5 rfl (by simp only[g2,e1,hls,hgi,hi,jG,go_sem,reduceIte,jA,jB,jC,jD,reduceCtorEq,jE,jF];omega) ?_
 simp only[g2,e1,hls,hgi,hi,jG,go_sem,reduceIte,jA,jB,jC,jD,reduceCtorEq,jE,jF]
 refine jT (es:=[]) (ys:=S[i].map Vl.v) rfl (by simp only[go_sem,reduceIte,jA,jB,jC,jD,reduceCtorEq,jE,jF]) (by simp) (by simp only[go_sem,reduceIte,jA,jB,jC,jD,reduceCtorEq,jE,jF]) hne (by rw[hlm];omega) ?_
 simp only[go_sem,reduceIte,jA,jB,jC,jD,reduceCtorEq,jE,jF]
 refine eI 1 rfl (by simp only[go_sem,reduceIte,jA,jB,jC,jD,reduceCtorEq,jE,jF]) ?_
 simp only[go_sem,reduceIte,jA,jB,jC,jD,reduceCtorEq,jE,jF]
 rw[hlm]
 obtain⟨H2,hH2⟩:∃H2,H2=((H1.set (nx1+2) (.arr (.agg 3) [])).del (nx1+2)).set (nx1+3) (.arr (.agg 3) (S[i].map Vl.v)):=⟨_,rfl⟩
 have k1:H2 (nx1+3)=some (.arr (.agg 3) (S[i].map Vl.v)):=by rw[hH2];simp[Hp.set]
 have kk:∀m,m<nx1+2→H2 m=H1 m:=fun m hm=>by
  rw[hH2];simp only[Hp.set_app,Hp.del_app]
  rw[if_neg (by omega),if_neg (by omega),if_neg (by omega)]
 have hd2:aX H2 (nx1+4):=by rw[hH2];exact dmo hd1
 rw[←hH2]
 clear hH2
 have g1:H2 nx1=some (.arr (.agg 3) [x.v]):=by rw[kk nx1 (by omega)];exact g1
 have g3:H2 b=some (.arr (.agg 2) [eX 0 outl]):=by rw[kk b (by omega)];exact g3
 refine bM (dR ?_)
 generalize hR3:mN (lwp _ (aJ.ops L.corollaryref16_Group_r29)) _=R3
 have hgc:(S[i].map Vl.v).getD c (.tup [])=S[i][c].v:=aO Vl.v S[i] c r1
 refine aue (e8 g1 k1 hlm r1 hgc Vl.fits_v jG (aL hxf)) ?_
 rw[←hR3]
 have hset:(S[i].map Vl.v).set c x.v=(S[i].set c x).map Vl.v:=List.map_set.symm
 rw[hset]
 refine lC (gU (t:=17) (n:=nx1+3) (k:= .agg 3) (off:=0) (len:=S[i].length) (es:=(S[i].set c x).map Vl.v) rfl (by simp[Hp.set]) (by simp)) ?_
 have htk:(((S[i].set c x).map Vl.v).drop 0).take S[i].length=(S[i].set c x).map Vl.v:=by rw[List.drop_zero];exact List.take_of_length_le (by simp)
 rw[htk]
 have hfR:∀ls,V.fits (.agg 2) (eX 0 ls)=true:=fun ls=>oU 0 ls
 have C1:=fun h=>tJ 0 outl hos hol hor .free (S[i].set c x) (by rw[List.length_set];omega) h
 simp only[go_sem,reduceIte,jA,jB,jC,jD,reduceCtorEq,jE,jF]
 have hbn:(b=nx1+3)=False:=eq_false (by omega)
 have hbl:b<nx1+4:=by omega
 refine aue (e8 g3 hbn hbl hfR (fun l=>aL (hfR l)) (fun l=>aN (hfR outl) (hfR l)) (show b<nx1+3 by omega) hb) ?_
 refine hyes rfl hn0 _ _ (by omega) (by exact dmo hd2) (fun m h1 h2=>?_) (by simp[Hp.set]) _ (by simp only[WkL,aC,jH,jI,jJ,rgS,go_sem,reduceIte,jA,jB,jC,jD,reduceCtorEq,jE,jF])
 simp only[Hp.set_app,Hp.del_app]
 rw[if_neg h2,if_neg (by omega),if_neg (by omega),kk m (by omega),gk m (by omega)]
end Go.Proofs.YtemjhgboialjpaaGreat
