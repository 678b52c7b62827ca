/-
Texts of this proof,one behind the other. No conditions.
-/
import Derived.Test.YtjfdoohogiojcaaGreatDoorKd
import Derived.Test.YtjfdoohogiojcaaGreatDoorKp
import Derived.Test.YtjfdoohogiojcaaGreatDoorKq
import Derived.Test.YtjfdoohogiojcaaGreatDoorKm
open Go.Proofs.YtjfdoohogiojcaaGreatDoor.Hp renaming le_refl→Ka,same→Kb,aAL→Kc
open List renaming getD_eq_getElem?_getD→Kd,take_succ_eq_append_getElem→Ke,getElem?_eq_getElem→Kf,mem_map→Kg,take_of_length_le→Kh,mem_singleton→Ki,getElem_mem→Kk,mem_append→Km,length_take→Ko,map_append→Kp,length_nil→Kq,length_set→Ku,length_filter_le→Kw,mem_cons_of_mem→Kx,length_append→Ky,mem_cons_self→Kz,length_cons→KE,mem_filter→KF,map_cons→KI,map_nil→KJ
open Nat renaming le_refl→Kj,lt_or_ge→Ks,zero_le→KD
open Bool renaming eq_iff_iff→Kt,and_eq_false_iff→Kv,not_eq_true'→KA,and_eq_true→KC,false_and→KG,true_and→KH
open Function renaming comp_def→KB
open Nat renaming reduceAdd→jA,reduceSub→jB,reduceLT→jC,reduceLeDiff→jD,reduceEqDiff→jE
open Int renaming reduceToNat→jF,toNat_natCast→jG,natCast_add→jH,natCast_one→jI,natCast_zero→jJ
open List renaming length_map→jK,length_cons→jL,length_nil→jM,replicate_succ→jN,replicate_zero→jO,cons_append→jP,nil_append→jQ
set_option linter.unusedSimpArgs false
set_option linter.unusedVariables false
set_option linter.unusedSectionVars false
set_option maxHeartbeats 8000000
namespace Go.Proofs.YtjfdoohogiojcaaGreatDoor
open Go.RowKit Go.Sort
attribute [local irreducible] IntKind.wrap
abbrev rgS(g:Int)(c a b i:Nat):List (Nat×V):=[(0, .int .i64 g),(1, .int .i64 c),(8, .ptr a (.agg 2) 0 0),(10, .ptr b (.agg 2) 0 0),(11, .int .i64 i)]
def nD(c:Nat)(S:List (List Vl))(i k:Nat):Bool:=decide (∀s∈(S.take i).take k,bC c s≠bC c (S.getD i []))
def qD(c:Nat)(S:List (List Vl))(i k:Nat):List Vl:=iA c (bC c (S.getD i [])) (S.take k)
theorem j8{c:Nat}{S:List (List Vl)}{i k:Nat}(hi:i<S.length)(hk:k<S.length):
 nD c S i (k+1)=(nD c S i k&& !(decide (bC c S[k]=bC c S[i])&&decide (k<i))):=by
 have hgi:S.getD i []=S[i]:=by rw[Kd,Kf hi];rfl
 unfold nD;rw[hgi,Kt];rcases Ks k i with q|q
 ·have hkt:k<(S.take i).length:=by simp;omega
  rw[Ke hkt];simp only[List.getElem_take,Km,Ki,decide_eq_true_eq,KC,KA,Kv,decide_eq_false_iff_not];constructor
  ·intro h;exact⟨fun s hs=>h s (.inl hs), .inl (h _ (.inr rfl))⟩
  rintro⟨h1,h2⟩ s (hs|rfl)
  ·exact h1 s hs
  exact h2.elim id fun k=>absurd q k
 have e1:(S.take i).take (k+1)=(S.take i).take k:=by rw[Kh (l:=S.take i) (i:=k+1) (by rw[Ko];omega),Kh (l:=S.take i) (i:=k) (by rw[Ko];omega)]
 rw[e1];simp only[decide_eq_true_eq,KC,KA,Kv,decide_eq_false_iff_not];exact⟨fun h=>⟨h, .inr or⟩,fun h=>h.1⟩
theorem tf{c:Nat}{S:List (List Vl)}{i k:Nat}(hi:i<S.length)(hk:k<S.length):
 qD c S i (k+1)=qD c S i k++if decide (bC c S[k]=bC c S[i])=true then [S[k].getD c eD] else []:=by
 have hgi:S.getD i []=S[i]:=by rw[Kd,Kf hi];rfl
 unfold qD iA;rw[hgi,Ke hk,List.filter_append,Kp];congr 1;by_cases e:bC c S[k]=bC c S[i]<;>simp[e]
set_option maxRecDepth 100000 in
set_option maxHeartbeats 8000000 in
theorem A7(g:Int)(c:Nat)(S:List (List Vl))(hS:S.length≤1000000)(aBH:∀t∈S,c<t.length∧t.length≤1000)(ow:Own)(h':Hp)(nx0:Nat)(a b i:Nat)(hi:i<S.length)(hp:Hp)(nx1:Nat)(ha:a<nx0)(h0:nx0≤nx1)(hbx:hp a=some (.arr (.agg 2) [.agg [.int .i64 0, .sl .leaf ow (lsV S)]]))(hdm:aW hp nx1)(Qx:bE→St→Prop)
 (hq:∀oo hp2 nx5,nx1≤nx5→aW hp2 nx5→Kb nx1 hp hp2→Acc hp2 nx1 oo ((qD c S i S.length).map Vl.v)→∀sl,WkL sl (aD 127 0 (rgS g c a b i++[(12, .bool (nD c S i S.length)),(13,vls oo (qD c S i S.length))]))→Qx .normal ⟨sl,hp2,nx5⟩):
 lwp Tryz.prog (.loop L.aFd) (cW 4 Qx) ⟨aD 127 0 (rgS g c a b i++[(12, .bool true),(13, .sl (.agg 3) .nil []),(14, .int .i64 0)]),hp,nx1⟩:=by
 have hls:(lsV S).length=S.length:=jK ..;have hgi:(lsV S).getD i (.tup [])=vls .free S[i]:=aR (fun t=>vls .free t) S i hi
 refine aT (fun q:Nat×Own=>aD 127 0 (rgS g c a b i++[(12, .bool (nD c S i q.1)),(13,vls q.2 (qD c S i q.1)),(14, .int .i64 q.1)]))
  (fun q hp2 nx2=>q.1≤S.length∧nx1≤nx2∧aW hp2 nx2∧Kb nx1 hp hp2∧Acc hp2 nx1 q.2 ((qD c S i q.1).map Vl.v)) (fun q=>S.length-q.1) (0, .nil) ⟨KD _,Kj _,hdm,Hp.same.aAt,Acc.nil⟩ (WkL.refl _) ?_
 rintro⟨k,oo⟩ hp2 nx2 ⟨hk,aEq,aHQ,aBF,aDi⟩;generalize hQ:bB _ _ _ _ _=Q0;dsimp only at hk aDi;simp only[aD,jP,jQ,go_sem,reduceIte,jA,jB,jC,jD,reduceCtorEq,jE,jF];have aCB:hp2 a=some (.arr (.agg 2) [.agg [.int .i64 0, .sl .leaf ow (lsV S)]]):=by rw[aBF a or];exact hbx
 have han:a<nx2:=or;have E0:=e8 hls aCB han hi hgi jG (@jK Vl V) Vl.aAA;rcases Ks k S.length with hlt|hge
 ·have hc:decide ((k:Int)<(S.length:Int))=true:=dct;have hw:IntKind.i64.wrap ((k:Int)+1)=((k+1:Nat):Int):=wrp;have hgk:(lsV S).getD k (.tup [])=vls .free S[k]:=aR (fun t=>vls .free t) S k hlt;obtain⟨r1,r2⟩:=aBH _ (Kk hlt);obtain⟨r3,r4⟩:=aBH _ (Kk hi);have D1:=fun h=>qk .free .free S[i] S[k] c r3 r1 or h;have hf:=j8 (c:=c) hi hlt;have ho:=tf (c:=c) hi hlt;have hsw:decide (bC c S[i]=bC c S[k])=decide (bC c S[k]=bC c S[i]):=by
   rw[Kt];simp only[decide_eq_true_eq];exact⟨Eq.symm,Eq.symm⟩
  rw[hsw] at D1;have E1:=e4 hc hlt hgk E0;cases he:decide (bC c S[k]=bC c S[i]) with
  |false=>
   rw[he] at D1 hf ho;rw[KG,Bool.not_false,Bool.and_true] at hf;rw[if_neg Zm,List.append_nil] at ho;refine aue E1 ?_;rw[←hQ];refine aue hw ?_;exact aH (k+1,oo) Zw ⟨hlt,or,dmo aHQ,kep aBF,by dsimp only;rw[ho];exact aDi⟩ (by simp only[WkL,aD,jH,jI,jJ,rgS,jP,jQ,hw,hf,ho,go_sem,reduceIte,jA,jB,jC,jD,reduceCtorEq,jE,jF])
  |true=>
   rw[he] at D1 hf ho;rw[if_pos rfl] at ho;have hgc:(S[k].map Vl.v).getD c (.tup [])=(S[k].getD c eD).v:=by
    rw[aR Vl.v S[k] c r1,Kd,Kf r1];rfl
   have hcap:(qD c S i k).length≤1000000:=by
    have:(qD c S i k).length≤(S.take k).length:=by
     unfold qD iA;rw[jK];exact Kw _ _
    rw[Ko] at this;omega
   have hki:decide ((i:Int)≤(k:Int))= !decide (k<i):=by
    rw[Kt];simp
   have aAP:=aDi;have hdm:=aHQ;rw[KH] at hf;cases hfr:nD c S i k<;>rw[hfr] at hf
   all_goals
    refine aue (e6 E1 hgc r1 hki KH KG) ?_;rw[←hQ];refine aue hw ?_;refine aH (k+1, .tok (nx2+13)) Zw ⟨hlt,or,dmo hdm,vZ aBF aDi,?_⟩ (by simp only[WkL,aD,jH,jI,jJ,rgS,jP,jQ,hw,hf,ho,vls,Kp,KI,KJ,go_sem,reduceIte,jA,jB,jC,jD,reduceCtorEq,jE,jF]);dsimp only;rw[ho,Kp];exact Acc.new _ Zm or
 have hc:decide ((k:Int)<(S.length:Int))=false:=dcf;have hke:k=S.length:=or;subst hke;refine aue (e2 hc E0) ?_;rw[←hQ];refine au ?_;exact hq oo hp2 nx2 aEq aHQ aBF aDi _ (by simp only[WkL,aD,jH,jI,jJ,rgS,jP,jQ,go_sem,reduceIte,jA,jB,jC,jD,reduceCtorEq,jE,jF])
abbrev A8:aJ:=(((aJ.ops L.aD7).seq (aJ.cond (aK.slot 101) (aJ.exit 3) aJ.skip)).seq ((aJ.ops L.aD6).seq (((aJ.ops L.aD5).seq (aJ.cond (aK.slot 109) ((aJ.ops L.aD4).seq aJ.ret) aJ.skip)).seq ((aJ.ops L.aCi).seq ((aJ.ops L.aCh).seq (aJ.ops L.aBw))))))
set_option maxRecDepth 100000 in
set_option maxHeartbeats 8000000 in
theorem A6(g:Int)(c:Nat)(S:List (List Vl))(aBH:∀t∈S,c<t.length∧t.length≤1000)(ow:Own)(a b i:Nat)(hi:i<S.length)(hp:Hp)(nx1:Nat)(ha:a<nx1)(hb:b<nx1)(hab:a≠b)(hbx:hp a=some (.arr (.agg 2) [.agg [.int .i64 0, .sl .leaf ow (lsV S)]]))(hdm:aW hp nx1)
 (aEl:List (List Vl)) (hos:Str bK aEl) (hol:aEl.length≤1000000) (hor:∀t∈aEl,t.length≤1000000) (hbo:hp b=some (.arr (.agg 2) [fY 0 aEl])) (first:Bool) (oo:Own) (own:List Vl) (aDZ:own.length≤1000000) (aRB:∀x∈own,x.sm) (Qy:bE→St→Prop)
 (hno:first=false→∀sl,WkL sl (aD 127 0 (rgS g c a b i))→Qy .normal ⟨sl,hp,nx1⟩)
 (aEh:first=true→(dD g own).2≠0→∀sl hp2 nx2,Kb nx1 hp hp2→sl.getD 6 V.undef= .sl .leaf .nil []→sl.getD 7 V.undef= .int .i64 (dD g own).2→Qy .ret ⟨sl,hp2,nx2⟩)
 (aKv:first=true→(dD g own).2=0→∀hp2 nx5,nx1≤nx5→aW hp2 nx5→(∀m,m<nx1→m≠b→hp2 m=hp m)→hp2 b=some (.arr (.agg 2) [fY 0 (jY bK (S[i].set c (dD g own).1) aEl)])→∀sl,WkL sl (aD 127 0 (rgS g c a b i))→Qy .normal ⟨sl,hp2,nx5⟩):
 lwp Tryz.prog A8 (cW 3 Qy) ⟨aD 127 0 (rgS g c a b i++[(12, .bool first),(13,vls oo own)]),hp,nx1⟩:=by
 have hls:(lsV S).length=S.length:=jK ..;have hgi:(lsV S).getD i (.tup [])=vls .free S[i]:=aR (fun t=>vls .free t) S i hi;obtain⟨r1,r2⟩:=aBH _ (Kk hi);simp only[aD,jP,jQ,go_sem,reduceIte,jA,jB,jC,jD,reduceCtorEq,jE,jF];cases first with
 |false=>
  refine au ?_;exact hno rfl _ (by simp only[WkL,aD,jH,jI,jJ,rgS,go_sem,reduceIte,jA,jB,jC,jD,reduceCtorEq,jE,jF])
 |true=>
 have C1:=fun h=>ny g oo own aDZ aRB h;obtain⟨x,n,hx⟩:∃x n,dD g own=(x,n):=⟨_,_,rfl⟩;rw[hx] at C1 aEh aKv;dsimp only at aEh aKv;have hxf:=x.aAA;cases hn:(n != 0) with
 |true=>
  have hn0:n≠0:=by simpa using hn
  refine aue (e2 hn Vl.aAA) ?_;exact aEh rfl hn0 _ _ _ (eT (eT Hp.same.aAt (Kj _) _) (Kj _) _) rfl rfl
 |false=>
 have hn0:n=0:=by simpa using hn
 unfold A8;generalize hR:aJ.seq (aJ.ops L.aCi) (aJ.seq (aJ.ops L.aCh) (aJ.ops L.aBw))=R;refine aue (e2 hn Vl.aAA) ?_;rw[←hR];obtain⟨H1,hH1⟩:∃H1,H1=(hp.set nx1 (.arr (.agg 3) [.agg [.int .i64 0, .int .i64 0, .str ⟨#[]⟩]])).set nx1 (.arr (.agg 3) [x.v]):=⟨_,rfl⟩;have g1:H1 nx1=some (.arr (.agg 3) [x.v]):=by rw[hH1];simp[Hp.set]
 have gk:∀m,m≠nx1→H1 m=hp m:=fun m hm=>by rw[hH1];simp[Hp.set,hm]
 have g2:H1 a=some (.arr (.agg 2) [.agg [.int .i64 0, .sl .leaf ow (lsV S)]]):=by rw[gk a or];exact hbx
 have g3:H1 b=some (.arr (.agg 2) [fY 0 aEl]):=by rw[gk b or];exact hbo
 have hd1:aW H1 (nx1+2):=by rw[hH1];exact dmo hdm
 rw[←hH1];clear hH1;have e1:(a=nx1+2)=False:=eq_false or;have hne:S[i].map Vl.v≠ []:=by
  intro e;have:=congrArg List.length e;simp at this;rw[this] at r1;cases r1
 have hlm:(S[i].map Vl.v).length=S[i].length:=jK ..;refine eO (fI ?_);refine jX Zm ?_;refine Zn ?_;refine fB 5 rfl (by simp only[g2,e1,hls,hgi,hi,jG,go_sem,reduceIte,jA,jB,jC,jD,reduceCtorEq,jE,jF];omega) ?_;simp only[g2,e1,hls,hgi,hi,jG,go_sem,reduceIte,jA,jB,jC,jD,reduceCtorEq,jE,jF];refine nK (es:=[]) (ys:=S[i].map Vl.v) rfl (by simp only[go_sem,reduceIte,jA,jB,jC,jD,reduceCtorEq,jE,jF]) Zm (by simp only[go_sem,reduceIte,jA,jB,jC,jD,reduceCtorEq,jE,jF]) hne (by rw[hlm];omega) ?_;refine Zn ?_;refine fB 1 rfl (by simp only[go_sem,reduceIte,jA,jB,jC,jD,reduceCtorEq,jE,jF]) ?_;refine Zn ?_;rw[hlm];obtain⟨H2,hH2⟩:∃H2,H2=((H1.set (nx1+2) (.arr (.agg 3) [])).del (nx1+2)).set (nx1+3) (.arr (.agg 3) (S[i].map Vl.v)):=⟨_,rfl⟩;have k1:H2 (nx1+3)=some (.arr (.agg 3) (S[i].map Vl.v)):=by rw[hH2];simp[Hp.set]
 have kk:∀m,m<nx1+2→H2 m=H1 m:=fun m hm=>by
  rw[hH2];simp only[Kc,Hp.aAn];rw[if_neg or,if_neg or,if_neg or]
 have hd2:aW H2 (nx1+4):=by rw[hH2];exact dmo hd1
 rw[←hH2];clear hH2;have g1:H2 nx1=some (.arr (.agg 3) [x.v]):=by rw[kk nx1 or];exact g1
 have g3:H2 b=some (.arr (.agg 2) [fY 0 aEl]):=by rw[kk b or];exact g3
 refine bZ (eO ?_);generalize hR3:mI (lwp _ (aJ.ops L.aBw)) _=R3;have hgc:(S[i].map Vl.v).getD c (.tup [])=S[i][c].v:=aR Vl.v S[i] c r1;refine aue (e8 g1 k1 hlm r1 hgc Vl.aAA jG (aQ hxf)) ?_;rw[←hR3];have aAO:(S[i].map Vl.v).set c x.v=(S[i].set c x).map Vl.v:=List.map_set.symm;rw[aAO];refine iL (gQ (t:=17) (n:=nx1+3) (k:= .agg 3) (off:=0) (len:=S[i].length) (es:=(S[i].set c x).map Vl.v) rfl (by simp[Hp.set]) Zm) ?_;have htk:(((S[i].set c x).map Vl.v).drop 0).take S[i].length=(S[i].set c x).map Vl.v:=by rw[List.drop_zero];exact Kh Zm
 rw[htk];have hfR:∀ls,V.fits (.agg 2) (fY 0 ls)=true:=fun ls=>mJ 0 ls;have C1:=fun h=>tO 0 aEl hos hol hor .free (S[i].set c x) (by rw[Ku];omega) h;refine Zn ?_;have hbn:(b=nx1+3)=False:=eq_false or;have hbl:b<nx1+4:=or;refine aue (e8 g3 hbn hbl hfR (fun l=>aQ (hfR l)) (fun l=>aV (hfR aEl) (hfR l)) (show b<nx1+3 by omega) hb) ?_;refine aKv rfl hn0 _ _ or (by exact dmo hd2) (fun m h1 h2=>?_) (by simp[Hp.set]) _ (by simp only[WkL,aD,jH,jI,jJ,rgS,go_sem,reduceIte,jA,jB,jC,jD,reduceCtorEq,jE,jF]);simp only[Kc,Hp.aAn];rw[if_neg h2,if_neg or,if_neg or,kk m or,gk m or]
theorem bg{K:Nat}{l:List (List Vl)}(h:∀t∈l,t.length≤K):∀t∈bL bK l,t.length≤K:=fun t ht=>h t (((bR c3T l).2 t).1 ht)
abbrev AP:aJ:=((aJ.ops L.aEB).seq (aJ.cond (aK.slot 53) ((aJ.ops L.aEA).seq aJ.ret) aJ.skip)).seq ((aJ.ops L.aD9).seq (((aJ.ops L.aD8).seq (aJ.block 2 (.loop L.aFc))).seq ((aJ.ops L.aD3).seq aJ.ret)))
set_option maxRecDepth 100000 in
set_option maxHeartbeats 16000000 in
theorem i8(g col:Int)(l:List TR)(hl:l.length≤100000)(h1:¬g<0)(h2:¬4<g)(aBH:∀p∈l,p.2.length≤1000)(aK2:∀p∈l,∀x∈p.2,x.sm)(h':Hp)(nx:Nat)(hd:aW h' nx)(hp:Hp)(nx1:Nat)(hn0:nx<nx1)(hdm:aW hp nx1)(hsm:Kb nx h' hp)
 (hbx:hp nx=some (.arr (.agg 2) [fY 0 (bL bK (aS l))])) (aAe:0<g→∀p∈l,0≤col∧col<p.2.length):
 lwp Tryz.prog AP (oF [vC.slot 6,vC.slot 7] fun v' h'' x=>v'=V.tup [lst .leaf (lsV (bP g col (aS l)).1), .int .i64 (bP g col (aS l)).2]∧h''=h') ⟨aD 127 0 [(0, .int .i64 g),(1, .int .i64 col),(8, .ptr nx (.agg 2) 0 0)],hp,nx1⟩:=by
 have aEg:¬(g<0∨4<g):=or;have hle:=hsm.le hd (Ka _);have hrl:(aS l).length=l.length:=jK ..;have aK7:∀t∈aS l,t.length≤1000:=fun t ht=>by
  obtain⟨p,hp,rfl⟩:=Kg.1 ht;exact aBH p hp
 obtain⟨S,hS⟩:∃S,bL bK (aS l)=S:=⟨_,rfl⟩;have hSm:∀t,t∈S↔t∈aS l:=fun t=>by rw[←hS];exact(bR c3T _).2 t
 have hSl:S.length≤100000:=by
  have:=dV (c:=bK) (aS l);rw[hS,hrl] at this;omega
 rw[hS] at hbx;obtain⟨ow,how⟩:=iR .leaf (lsV S);have hrv:fY 0 S= .agg [.int .i64 0, .sl .leaf ow (lsV S)]:=by rw[fY,how]
 rw[hrv] at hbx;have hls:(lsV S).length=S.length:=jK ..;simp only[aD,go_sem,reduceIte,jA,jB,jC,jD,reduceCtorEq,jE,jF];cases c0:(g==0) with
 |true=>
  have hg0:g=0:=by simpa using c0
  have hgv:bP g col (aS l)=(S,0):=by
   unfold bP;rw[if_neg aEg,if_neg (fun k=>or),if_pos hg0,hS]
  refine aue (e3 c0 hbx hn0) ?_;refine aU h' (lef hd hle) ⟨?_,rfl⟩;rw[hgv,how];rfl
 |false=>
 have hg0:0<g:=by have:g≠0:=by simpa using c0
                  omega
 cases hl0:l with
 |nil=>
  have hS0:S=[]:=by rw[←hS,hl0];rfl
  have hgv:bP g col (aS [])=([],0):=by
   unfold bP;rw[if_neg aEg,if_neg (fun k=>k.2 Zm),if_neg or];rfl
  rw[hS0] at hbx;have cz:decide ((0:Int)<0)=false:=ZM;have hlz:(lsV []).length=0:=rfl;refine aue c0 ?_
  refine aT (fun _:Unit=>aD 127 0 [(8, .ptr nx (.agg 2) 0 0),(10, .ptr nx1 (.agg 2) 0 0),(11, .int .i64 0)])
   (fun _ hp2 nx2=>nx1+1≤nx2∧Kb nx h' hp2∧hp2 nx=some (.arr (.agg 2) [.agg [.int .i64 0, .sl .leaf ow (lsV [])]])∧hp2 nx1=some (.arr (.agg 2) [.agg [.int .i64 0, .sl .leaf .nil []]])) (fun _=>0) () ⟨ZN,kep hsm,by simp only[Kc];rw[if_neg or,if_neg or];exact hbx,by simp[Hp.set]⟩ (by simp only[WkL,aD,jH,jI,jJ,go_sem,reduceIte,jA,jB,jC,jD,reduceCtorEq,jE,jF]) ?_
  rintro _ hp2 nx2 ⟨aEq,aBF,aCB,aGw⟩;generalize hQ:bB _ _ _ _ _=Q0;simp only[aD,go_sem,reduceIte,jA,jB,jC,jD,reduceCtorEq,jE,jF];have hn2:nx<nx2:=or;have hn3:nx1<nx2:=or;refine aue (e5 cz aCB hn2 hlz jJ) ?_;rw[←hQ];refine aue (e2 aGw hn3) ?_;refine aU h' (lef hd (aBF.le hd (Ka _))) ⟨?_,rfl⟩;rw[show bP g col []=([],0) from hgv];rfl
 |cons p0 l0=>
 have hp0:p0∈l:=by rw[hl0];simp
 rw[←hl0];obtain⟨c,rfl⟩:∃c:Nat,col=c:=⟨col.toNat,by have:=(aAe hg0 p0 hp0).1;omega⟩;have aDW:∀t∈S,c<t.length∧t.length≤1000:=fun t ht=>by
  obtain⟨p,hp,rfl⟩:=Kg.1 ((hSm t).1 ht);exact⟨by have:=(aAe hg0 p hp).2;omega,aBH p hp⟩
 have aQ6:∀t∈S,∀x∈t,x.sm:=fun t ht=>by
  obtain⟨p,hp,rfl⟩:=Kg.1 ((hSm t).1 ht);exact aK2 p hp
 have hgv:bP g c (aS l)=lK g c [] S:=by
  unfold bP;rw[if_neg aEg,if_neg,if_neg or,hS]
  ·rfl
  rintro⟨_,k⟩;refine k fun t ht=>?_;have:=(aDW t ((hSm t).2 ht)).1;omega
 have hzm:Vl.sm eD:=by show(0:Nat)≤9223372036854775807;omega
 have hfR:∀ls,V.fits (.agg 2) (fY 0 ls)=true:=fun ls=>mJ 0 ls;refine aue c0 ?_
 refine aT (fun q:Nat×List (List Vl)=>aD 127 0 (rgS g c nx nx1 q.1))
  (fun q hp nx2=>q.1≤S.length∧nx1+1≤nx2∧aW hp nx2∧Kb nx h' hp∧hp nx=some (.arr (.agg 2) [.agg [.int .i64 0, .sl .leaf ow (lsV S)]])∧hp nx1=some (.arr (.agg 2) [fY 0 (bL bK q.2)])∧lK g c [] S=lK g c q.2 (nM c S q.1)∧q.2.length≤q.1∧∀t∈q.2,t.length≤1000)
  (fun q=>S.length-q.1) (0,[]) ⟨KD _,ZN,dmo hdm,kep hsm,by simp only[Kc];rw[if_neg or,if_neg or];exact hbx,by simp[Hp.set,fY,bL,rf],by rw[o9],Zm,Zm⟩ (by simp only[WkL,aD,jH,jI,jJ,rgS,go_sem,reduceIte,jA,jB,jC,jD,reduceCtorEq,jE,jF]) ?_
 rintro⟨i,out⟩ hp2 nx2 ⟨hi,aEq,aHQ,aBF,aCB,aGw,hre,hol,hor⟩;generalize hQ:bB _ _ _ _ _=Q0;dsimp only at hi aGw hre hol hor;simp only[aD,go_sem,reduceIte,jA,jB,jC,jD,reduceCtorEq,jE,jF];have aAw:=aBF.le hd (Ka _);have hn2:nx<nx2:=or;have hn3:nx1<nx2:=or;rcases Ks i S.length with hlt|hge
 ·have hc:decide ((i:Int)<(S.length:Int))=true:=dct;have hw:IntKind.i64.wrap ((i:Int)+1)=((i+1:Nat):Int):=wrp;refine aue (e5 hc hls aCB hn2 jG) ?_;refine tT (s':=⟨aD 127 0 (rgS g c nx nx1 i++[(12, .bool true),(13, .sl (.agg 3) .nil []),(14, .int .i64 0)]),hp2,nx2⟩) (Wk.tell ⟨by simp only[WkL,aD,jH,jI,jJ,rgS,jP,jQ,go_sem,reduceIte,jA,jB,jC,jD,reduceCtorEq,jE,jF],Ka _,Kj _⟩) ?_;refine A7 g c S or aDW ow h' nx2 nx nx1 i hlt hp2 nx2 hn2 (Kj _) aCB aHQ _ ?_;intro oo hp3 nx3 aUE hd3 hs3 aRY sl hsl;refine mX ⟨aD 127 0 (rgS g c nx nx1 i++[(12, .bool (nD c S i S.length)),(13,vls oo (qD c S i S.length))]),hp3,nx3⟩ ⟨hsl,Ka _,Kj _⟩ ?_;have hgi:S.getD i []=S[i]:=by rw[Kd,Kf hlt];rfl
  have hfG:nD c S i S.length=decide (∀s∈S.take i,bC c s≠bC c S[i]):=by
   unfold nD;rw[hgi,Kh (l:=S.take i) (by rw[Ko];omega)]
  have hoK:qD c S i S.length=iA c (bC c S[i]) S:=by unfold qD;rw[hgi,List.take_length]
  have hb3:hp3 nx=some (.arr (.agg 2) [.agg [.int .i64 0, .sl .leaf ow (lsV S)]]):=by rw[hs3 nx hn2];exact aCB
  have ho3:hp3 nx1=some (.arr (.agg 2) [fY 0 (bL bK out)]):=by rw[hs3 nx1 hn3];exact aGw
  have aK3:Kb nx h' hp3:=fun m hm=>by rw[hs3 m or];exact aBF m hm
  have aQT:(qD c S i S.length).length≤1000000:=by
   rw[hoK,iA,jK];have:=Kw (fun s=>decide (bC c s=bC c S[i])) S;omega
  have aDZ:∀x∈qD c S i S.length,x.sm:=fun x hx=>by
   rw[hoK] at hx;simp only[iA,Kg,KF] at hx;obtain⟨s,⟨hs,_⟩,rfl⟩:=hx;have hcl:=(aDW s hs).1;rw[Kd,Kf hcl];exact aQ6 s hs _ (Kk _)
  have aKW:=dV (c:=bK) out;refine A6 g c S aDW ow nx nx1 i hlt hp3 nx3 or or or hb3 hd3 (bL bK out) (bR c3T out).1 or (fun t ht=>by have:=bg hor t ht;omega) ho3 _ oo _ aQT aDZ _ ?_ ?_ ?_
  ·intro hf sl2 aKW;refine mX ⟨aD 127 0 (rgS g c nx nx1 i),hp3,nx3⟩ ⟨aKW,Ka _,Kj _⟩ ?_;simp only[aD,go_sem,reduceIte,jA,jB,jC,jD,reduceCtorEq,jE,jF];rw[hfG] at hf;have hex:∃s∈S.take i,bC c s=bC c S[i]:=Classical.byContradiction fun k=>(of_decide_eq_false hf) fun s hs e=>k ⟨s,hs,e⟩;refine aue hw ?_;rw[←hQ];exact aH (i+1,out) Zw ⟨hlt,or,hd3,aK3,hb3,ho3,by rw[hre,t6 hlt hex],Zw,hor⟩ (by simp only[WkL,aD,jH,jI,jJ,rgS,hw,go_sem,reduceIte,jA,jB,jC,jD,reduceCtorEq,jE,jF])
  ·intro hf hne sl2 hp4 nx4 hs4 q6 q7;rw[hfG] at hf;obtain⟨l',e1,e2,e3⟩:=b9 hlt (of_decide_eq_true hf);refine gZ ?_;rw[←hQ];refine au ?_;refine aU h' (fun m b e=>?_) ⟨?_,rfl⟩
   ·have:=hd m b e;dsimp only;rw[hs4 m or,aK3 m this];exact e
   show V.tup [sl2.getD 6 V.undef,sl2.getD 7 V.undef]=_;rw[q6,q7,hgv,hre,e1,bp (by rw[e2,←hoK];exact hne),e2,←hoK];rfl
  intro hf h0 hp4 nx5 hn5 hd5 hk5 hb5 sl2 aKW;rw[hfG] at hf;obtain⟨l',e1,e2,e3⟩:=b9 hlt (of_decide_eq_true hf);refine mX ⟨aD 127 0 (rgS g c nx nx1 i),hp4,nx5⟩ ⟨aKW,Ka _,Kj _⟩ ?_;simp only[aD,go_sem,reduceIte,jA,jB,jC,jD,reduceCtorEq,jE,jF];refine aue hw ?_;rw[←hQ];refine aH (i+1,out++[S[i].set c (dD g (qD c S i S.length)).1]) Zw ⟨hlt,or,hd5,fun m hm=>by rw[hk5 m or or];exact aK3 m hm,by rw[hk5 nx or or];exact hb3,by rw[hb5,mG],?_,by dsimp only;rw[Ky];simp only[jL,jM];omega,?_⟩ (by simp only[WkL,aD,jH,jI,jJ,rgS,hw,go_sem,reduceIte,jA,jB,jC,jD,reduceCtorEq,jE,jF])
  ·rw[hre,e1,xC (by rw[e2,←hoK];exact h0),e2,←hoK,e3]
  intro t ht;rcases Km.1 ht with ht|ht
  ·exact hor t ht
  rw[Ki.1 ht,Ku];exact(aDW _ (Kk hlt)).2
 have hc:decide ((i:Int)<(S.length:Int))=false:=dcf;have hie:i=S.length:=or;rw[hie,t7,bo] at hre;obtain⟨ow2,aKY⟩:=iR .leaf (lsV (bL bK out));rw[fY,aKY] at aGw;refine aue (e4 hc hls aCB hn2) ?_;rw[←hQ];refine aue (e2 aGw hn3) ?_;refine aU h' (lef hd aAw) ⟨?_,rfl⟩;rw[hgv,hre,aKY];rfl
set_option maxRecDepth 100000 in
set_option maxHeartbeats 16000000 in
theorem ja(g col:Int)(o:Own)(l:List TR)(hl:l.length≤100000)(aBH:∀p∈l,p.2.length≤1000)(aK2:∀p∈l,∀x∈p.2,x.sm)(h:Hp):aO Tryz.prog 28 [.int .i64 g, .int .i64 col,tps o l] h (.tup [lst .leaf (lsV (bP g col (aS l)).1), .int .i64 (bP g col (aS l)).2]):=by
 refine aI (fun L=>⟨gS (fun L=>mN _ L) L,trivial,trivial⟩) fun h' nx hh=>aB L.aTd fun hd=>?_;simp only[jL,jM,jA,jB,jN,jO,jP,jQ,V.undef];by_cases h1:g<0
 ·have c1:decide (g<0)=true:=dct;have hgv:bP g col (aS l)=([],1):=by unfold bP;rw[if_pos (.inl h1)]
  refine aue c1 ?_;refine aU h' (leo hd) ⟨?_,rfl⟩;rw[hgv];rfl
 have c1:decide (g<0)=false:=dcf;by_cases h2:4<g
 ·have c2:decide (4<g)=true:=dct;have hgv:bP g col (aS l)=([],1):=by unfold bP;rw[if_pos (.inr h2)]
  refine aue (e2 c1 c2) ?_;refine aU h' (leo hd) ⟨?_,rfl⟩;rw[hgv];rfl
 have c2:decide (4<g)=false:=dcf;have aEg:¬(g<0∨4<g):=or;have aK7:∀t∈aS l,t.length≤1000:=fun t ht=>by
  obtain⟨p,hp,rfl⟩:=Kg.1 ht;exact aBH p hp
 have hfR:∀ls,V.fits (.agg 2) (fY 0 ls)=true:=fun ls=>mJ 0 ls;refine aue (e2 c1 c2) ?_
 refine aT (fun i:Nat=>aD 127 0 [(0, .int .i64 g),(1, .int .i64 col),(2,tps o l),(8, .ptr nx (.agg 2) 0 0),(9, .int .i64 i)])
  (fun i hp nx1=>i≤l.length∧nx+1≤nx1∧aW hp nx1∧Kb nx h' hp∧hp nx=some (.arr (.agg 2) [fY 0 (bL bK (aS (l.take i)))])∧(0<g→∀p∈l.take i,0≤col∧col<p.2.length))
  (fun i=>l.length-i) 0 ⟨KD _,ZN,dmo hd,kep Hp.same.aAt,by simp[Hp.set,fY,bL,rf],Zm⟩ (by simp only[WkL,aD,jH,jI,jJ,go_sem,reduceIte,jA,jB,jC,jD,reduceCtorEq,jE,jF]) ?_
 rintro i hp nx1 ⟨hi,hnx,hdm,hsm,hbx,aAe⟩;generalize hQ:bB _ _ _ _ _=Q0;simp only[aD,go_sem,reduceIte,jA,jB,jC,jD,reduceCtorEq,jE,jF];have hle:=hsm.le hd (Ka _);have hn0:nx<nx1:=or;rcases Ks i l.length with hlt|hge
 ·have hc:decide ((i:Int)<(l.length:Int))=true:=dct;have hw:IntKind.i64.wrap ((i:Int)+1)=((i+1:Nat):Int):=wrp;obtain⟨p,hpq⟩:∃p,l[i]=p:=⟨_,rfl⟩;have hpm:p∈l:=hpq▸Kk _;have hg:(l.map TR.v).getD i (.tup [])=vls p.1 p.2:=by rw[aR TR.v l i hlt,hpq];rfl
  have hS2:bL bK (aS (l.take (i+1)))=jY bK p.2 (bL bK (aS (l.take i))):=by
   rw[Ke hlt,hpq];simp only[aS,Kp,KI,KJ];exact mG bK _ _
  have hrt:∀t∈aS (l.take i),t.length≤1000:=fun t ht=>by
   obtain⟨q,hq,rfl⟩:=Kg.1 ht;exact aBH q (List.mem_of_mem_take hq)
  have hSl:(bL bK (aS (l.take i))).length≤1000000:=by
   have:=dV (c:=bK) (aS (l.take i));have e:(aS (l.take i)).length=(l.take i).length:=jK ..;rw[e,Ko] at this;omega
  obtain⟨S,hS⟩:∃S,bL bK (aS (l.take i))=S:=⟨_,rfl⟩;have hSs:Str bK S:=by rw[←hS];exact(bR c3T _).1
  have hSr:∀t∈S,t.length≤1000000:=fun t ht=>by have:=bg hrt t (by rw[hS];exact ht);omega
  rw[hS] at hbx hS2 hSl;have D1:=fun h=>tO 0 S hSs hSl hSr p.1 p.2 (by have:=aBH p hpm;omega) h;have aDh:0<g→¬(0≤col∧col<p.2.length)→bP g col (aS l)=([],1):=fun hg0 hb=>by
   unfold bP;rw[if_neg aEg,if_pos ⟨hg0,fun k=>hb (k p.2 (Kg.2 ⟨p,hpm,rfl⟩))⟩]
  have aA9:(0<g→0≤col∧col<p.2.length)→0<g→∀q∈l.take (i+1),0≤col∧col<q.2.length:=fun k hg0 q hq=>by
   rw[Ke hlt,hpq] at hq;rcases Km.1 hq with hq|hq
   ·exact aAe hg0 q hq
   rw[Ki.1 hq];exact k hg0
  have E:=e10 hc hw hg hlt (@jK TR V) (@jK Vl V) jG hbx hn0 (e3 hfR (fun l=>aQ (hfR l)) (fun l=>aV (hfR S) (hfR l)));have tst:(decide (0<g)=true∧decide (col<0)=true)∨(decide (0<g)=true∧decide (col<0)=false∧decide ((p.2.length:Int)≤col)=true)∨(decide (0<g)=true∧decide (col<0)=false∧decide ((p.2.length:Int)≤col)=false)∨decide (0<g)=false:=by
   cases decide (0<g)<;>cases decide (col<0)<;>cases decide ((p.2.length:Int)≤col)<;>simp
  rcases tst with⟨t1,t2⟩|⟨t1,t2,t3⟩|⟨t1,t2,t3⟩|t1
  ·refine aue (e3 E t1 t2) ?_;rw[←hQ];refine au ?_;refine aU h' (lef hd hle) ⟨?_,rfl⟩;rw[aDh (of_decide_eq_true t1) (by have:=of_decide_eq_true t2;omega)];rfl
  ·refine aue (e4 E t1 t2 t3) ?_;rw[←hQ];refine au ?_;refine aU h' (lef hd hle) ⟨?_,rfl⟩;rw[aDh (of_decide_eq_true t1) (by have:=of_decide_eq_true t3;omega)];rfl
  ·refine aue (e4 E t1 t2 t3) ?_;rw[←hQ];exact aH (i+1) or ⟨hlt,or,dmo hdm,kep hsm,by rw[hS2];simp[Hp.set],aA9 fun _=>by have:=of_decide_eq_false t2;have:=of_decide_eq_false t3;omega⟩ (by simp only[WkL,aD,jH,jI,jJ,hw,go_sem,reduceIte,jA,jB,jC,jD,reduceCtorEq,jE,jF])
  refine aue (e2 E t1) ?_;rw[←hQ];exact aH (i+1) or ⟨hlt,or,dmo hdm,kep hsm,by rw[hS2];simp[Hp.set],aA9 fun k=>absurd k (of_decide_eq_false t1)⟩ (by simp only[WkL,aD,jH,jI,jJ,hw,go_sem,reduceIte,jA,jB,jC,jD,reduceCtorEq,jE,jF])
 have hc:decide ((i:Int)<(l.length:Int))=false:=dcf;rw[Kh hge] at hbx aAe;refine aue hc ?_;rw[←hQ];refine fN (fT (mX ⟨aD 127 0 [(0, .int .i64 g),(1, .int .i64 col),(8, .ptr nx (.agg 2) 0 0)],hp,nx1⟩ ⟨by simp only[WkL,aD,jH,jI,jJ,go_sem,reduceIte,jA,jB,jC,jD,reduceCtorEq,jE,jF],Ka _,Kj _⟩ ?_));exact i8 g col l hl h1 h2 aBH aK2 h' nx hd hp nx1 hn0 hdm hsm hbx aAe
end Go.Proofs.YtjfdoohogiojcaaGreatDoor
namespace Go.Proofs.YtjfdoohogiojcaaGreatDoor
open Go.RowKit Go.Sort
attribute [local irreducible] IntKind.wrap
set_option maxHeartbeats 4000000
theorem AN(ls:List (List Vl)):(ls.map fun t=>((.free,t):TR)).map TR.v=lsV ls∧aS (ls.map fun t=>((.free,t):TR))=ls:=by
 constructor
 ·simp only[lsV,List.map_map,KB];rfl
 simp[aS,KB]
theorem wi{t:Tr}{l:List Tr}(ht:t.w.s.size≤9223372036854775807)(hl:smB l):(eE t l).1.sm:=by
 have h0:qR.sm:=by show(0:Nat)≤_;omega
 unfold eE;split
 ·split
  ·exact ht
  exact h0
 split
 ·rename_i w hw;split
  ·exact yd hl hw
  exact h0
 exact h0
theorem ji{l:List Tr}(hl:smB l):∀(ts:List Tr),(∀t∈ts,t.w.s.size≤9223372036854775807)→∀acc:List Vl,(∀x∈acc,x.sm)→∀x∈(mM l acc ts).1,x.sm
 | [],_,acc,h=>h
 |t::r,ht,acc,h=>by
  rw[nA];split
  ·simp
  refine ji hl r (fun t hx=>ht t (Kx _ hx)) _ fun x hx=>?_;rcases Km.1 hx with q|q
  ·exact h x q
  rw[Ki.1 q];exact wi (ht t Kz) hl
theorem xe{a:Am}{l:List Tr}(hl:smB l)(ha:a.sm):∀x∈(cP a l).1,x.sm:=by
 unfold cP;split
 ·simp
 exact ji hl a.l (fun t ht=>(ha.2 t ht).2) [] Zm
theorem ix{a:Am}(ha:a.sm):∀(ls:List (List Tr)),(∀l∈ls,smB l)→∀acc:List (List Vl),(∀t∈acc,∀x∈t,x.sm)→∀t∈(cG a acc ls).1,∀x∈t,x.sm
 | [],_,acc,h=>h
 |l::r,hl,acc,h=>by
  rw[iM];split
  ·simp
  refine ix ha r (fun l hx=>hl l (Kx _ hx)) _ fun t ht=>?_;rcases Km.1 ht with q|q
  ·exact h t q
  rw[Ki.1 q];exact xe (hl l Kz) ha
theorem ww{r:Ru}(hr:r.sm){ls:List (List Tr)}(hl:∀l∈ls,smB l):∀t∈(eU r ls).1,∀x∈t,x.sm:=by
 unfold eU;split
 ·split
  ·simp
  intro t ht;exact ix hr.1 ls hl [] Zm t (((bR c3T _).2 t).1 ht)
 simp
theorem ew(r:Ru)(hr:r.sm)(o:Own)(ls:List TB)(hls:ls.length≤1000)(hok:∀p∈ls,p.2.length≤1000∧smB p.2)(h:Hp):aO Tryz.prog 12 [r.v,tbs o ls] h (.tup [lst .leaf (lsV (rG r (bH ls)).1), .int .i64 (rG r (bH ls)).2]):=by
 refine aI (fun L=>⟨gS (fun L=>mN _ L) L,trivial,trivial⟩) fun h' nx hh=>aB L.g9z fun hd=>?_;have C1:=fun h=>wY r hr o ls hls hok h;obtain⟨hL1,hL2⟩:=pK r (bH ls);have hsm:=ww hr (ls:=bH ls) (fun l hl=>by obtain⟨p,hp,rfl⟩:=Kg.1 hl;exact(hok p hp).2);unfold rG;generalize eU r (bH ls)=R at C1 hL1 hL2 hsm;obtain⟨rows,e⟩:=R;dsimp only at C1 hL1 hL2 hsm⊢;obtain⟨ow,how⟩:=iR .leaf (lsV rows);rw[how] at C1;have hbl:(bH ls).length=ls.length:=List.length_map ..;obtain⟨⟨hr',ho,hl⟩,g,c0,ob,b,at_⟩:=r;rw[Ru.v.eq_1] at C1⊢;simp only[KE,Kq,Nat.reduceAdd,Nat.reduceSub,List.replicate_succ,List.replicate_zero,List.cons_append,List.nil_append,V.undef];dsimp only at C1;by_cases hz:e=0
 ·subst hz;rw[if_neg Zm];have z0:((0:Int) != 0)=false:=rfl;have hrv:=AN rows;have C2:=fun h=>ja g c0 ow (rows.map fun t=>((.free,t):TR)) (by simp;omega) (fun q hq=>by
   obtain⟨t,ht,rfl⟩:=Kg.1 hq;have:=hL2 t ht;dsimp only;omega) (fun q hq=>by
   obtain⟨t,ht,rfl⟩:=Kg.1 hq;exact hsm t ht) h
  simp only[tps,hrv.1,hrv.2] at C2;refine aue (e2 trs.eq_1 z0) ?_;exact aU h' (leo hd) ⟨rfl,rfl⟩
 rw[if_pos hz];have z0:(e != 0)=true:=bnt hz;refine aue (e2 trs.eq_1 z0) ?_;exact aU h' (leo hd) ⟨rfl,rfl⟩
end Go.Proofs.YtjfdoohogiojcaaGreatDoor
namespace Go.Proofs.YtjfdoohogiojcaaGreatDoor
open Go.RowKit Go.Sort
theorem ir(g:Int)(c K:Nat):∀n out l,(∀t∈l,t.length≤K)→(∀t∈out,t.length≤K)→(∀t∈(tN g c n out l).1,t.length≤K)∧(tN g c n out l).1.length≤out.length+l.length
 |0,out,l,_,ho=>⟨fun t ht=>ho t (((bR c3T out).2 t).1 ht),by have:=dV (c:=bK) out;simp only[tN];omega⟩
 |n+1,out,[],_,ho=>⟨fun t ht=>ho t (((bR c3T out).2 t).1 ht),by have:=dV (c:=bK) out;simp only[tN,Kq];omega⟩
 |n+1,out,t::l,hl,ho=>by
  rw[tN];split
  ·exact⟨Zm,Zm⟩
  have hm:=pO c t l;have:=ir g c K n (out++[t.set c (dD g (iA c (bC c t) (t::l))).1]) (sC c (bC c t) (t::l)) (fun s hs=>hl s (KF.1 hs).1) (fun s hs=>by
   rcases Km.1 hs with k|k
   ·exact ho s k
   rw[Ki.1 k,Ku];exact hl t Zm)
  refine⟨this.1,?_⟩;have h2:=this.2;simp only[Ky,KE,Kq] at h2⊢;omega
theorem pi(g col:Int)(K:Nat)(rows:List (List Vl))(h:∀t∈rows,t.length≤K):(∀t∈(bP g col rows).1,t.length≤K)∧(bP g col rows).1.length≤rows.length:=by
 have hs:∀t∈bL bK rows,t.length≤K:=fun t ht=>h t (((bR c3T rows).2 t).1 ht);have hn:=dV (c:=bK) rows;unfold bP;repeat' split
 ·exact⟨Zm,Zm⟩
 ·exact⟨Zm,Zm⟩
 ·exact⟨hs,hn⟩
 have:=ir g col.toNat K (bL bK rows).length [] (bL bK rows) hs Zm;exact⟨this.1,by have:=this.2;simp only[lK,Kq] at this⊢;omega⟩
end Go.Proofs.YtjfdoohogiojcaaGreatDoor
