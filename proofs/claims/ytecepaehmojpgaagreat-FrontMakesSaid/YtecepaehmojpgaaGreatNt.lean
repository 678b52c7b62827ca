/-
Texts of this proof,one behind the other. No conditions.
-/
import Derived.Test.YtecepaehmojpgaaGreatNd
import Derived.Test.YtecepaehmojpgaaGreatNs
import Derived.Test.YtecepaehmojpgaaGreatNn
open Go.Proofs.YtecepaehmojpgaaGreat.Hp renaming set→Ka,le_refl→Kd,del→Ke
open Go.Proofs.YtecepaehmojpgaaGreat.V renaming undef→Kb
open Go.Proofs.YtecepaehmojpgaaGreat.QE renaming me→Kc
open List renaming getD_eq_getElem?_getD→Kf,mem_singleton→Kg,length_singleton→Ki,mem_iff_getElem→Kj,getElem_mem→Kk,mem_cons→Km,length_set→Ko,not_mem_nil→Ku,map_append→Kv,getD_cons_zero→Kw,length_append→Kx,getElem?_eq_getElem→Ky,mem_cons_of_mem→KB,map_eq_nil_iff→KC,set_cons_zero→KE,map_nil→KF
open Bool renaming decide_and→Kh
open Go.IntKind renaming wrap→Kp
open Nat renaming lt_succ_of_lt→Kq,le_succ_of_le→Ks,le_refl→Kt,le_trans→Kz,lt_or_ge→KG,zero_le→KH
open Prod renaming snd→KD
open Nat renaming reduceAdd→jA,reduceSub→jB,reduceLT→jC,reduceLeDiff→jD,reduceEqDiff→jE
open Int renaming reduceToNat→jF,toNat_natCast→jG,natCast_add→jH,natCast_one→jI,natCast_zero→jJ
open List renaming length_map→jK,length_cons→jL,length_nil→jM,replicate_succ→jN,replicate_zero→jO,cons_append→jP,nil_append→jQ
set_option linter.unusedSimpArgs false
set_option linter.unusedVariables false
set_option linter.unusedSectionVars false
set_option maxHeartbeats 8000000
namespace Go.Proofs.YtecepaehmojpgaaGreat
open Go.RowKit
attribute [local irreducible] Kp
set_option maxRecDepth 100000 in
set_option maxHeartbeats 8000000 in
theorem np{n0:Nat}{B:Hp}{nxB wb nb tb:Nat}{vo:Own}{vs:List Nat}{P:Int}{wv lc:V}{ot:Own}{rows:List V}{S:Nat→CS}{Q:Int→Int→List Nt}(H:WI n0 B nxB wb nb tb vo vs P wv lc ot rows S Q)
 (j:Nat) (hj:j<vs.length) (y:Own×Nt) (hy:y.2.cs.length≤100000) (hok:∀k,fK (S k).1 (S k).2) (aI3:V→Hp→Nat→Prop)
 (hP:∀h2 nx2,nxB≤nx2→(∀x,x<nxB→x≠vs[j]→h2 x=B x)→WI n0 h2 nx2 wb nb tb vo vs P wv lc ot rows (gU S (j+1) (bQ P (S (j+1)).1 (S (j+1)).2 y.2.cs).2) Q→aI3 (eF (bQ P (S (j+1)).1 (S (j+1)).2 y.2.cs).1) h2 nx2):
 lwp Tryz.prog (.seq (.ops L.aE9) .ret) (iU [.slot 6] aI3) ⟨aB 84 0 [(0, .ptr wb (.agg 4) 0 0),(2, .int .i64 j),(8,zA y)],B,nxB⟩:=by
 simp only[aB,go_sem,reduceIte,jA,jB,jC,jD,reduceCtorEq,jE,jF];obtain⟨q,c,hw,hq,hl⟩:=H.q;have c1:=hw.cell;have n1:wb<nxB:=H.dom _ _ c1;obtain⟨m,hm,hc⟩:=H.v j hj;have hg:(vs.map fun v=>V.ptr v (.agg 4) 0 0).getD j (.tup [])= .ptr vs[j] (.agg 4) 0 0:=dQ (fun v=>V.ptr v (.agg 4) 0 0) _ vs j hj;refine aue (ee5 c1 n1 hg hj (@jK Nat V)) ?_;refine bX ((xD y.1 y.2.cs hy _ _ (hok (j+1)) P _ _ vs[j] m _ _ H.dom hc).mono ?_);rintro v h2 nx2 aBZ ⟨rfl,⟨m2,hc2,hm2⟩,hk,_,hd2,_⟩;unfold eI;refine Zn ?_;refine au ?_;exact aG h2 (Kd _) (hP h2 nx2 aBZ hk (H.apply (j+1) (by simpa using hj) hk hd2 hm2 hm hc2))
set_option maxRecDepth 100000 in
set_option maxHeartbeats 8000000 in
theorem xn{n0:Nat}{h':Hp}{nx wb nb tb:Nat}{vo:Own}{vs:List Nat}{P:Int}{wv lc:V}{ot:Own}{rows:List V}{S:Nat→CS}{Q:Int→Int→List Nt}(H:WI n0 h' nx wb nb tb vo vs P wv lc ot rows S Q)
 (i j:Int) (hok:∀k,fK (S k).1 (S k).2) (hcs:∀n∈Q i j,n.made.length≤1000) (hn0:n0≤nx) (hql:(Q i j).length≤1000):
 bD Tryz.prog 10 [.ptr wb (.agg 4) 0 0, .int .i64 i, .int .i64 j] h' nx fun v h'' nx2=>nx≤nx2∧Fr n0 (tb::vs) h' h''∧
  ((¬(0≤i∧i<vs.length∧0≤j∧j<vs.length∧i≠j)∧v=eF 1∧WI n0 h'' nx2 wb nb tb vo vs P wv lc ot rows S Q)∨
   ((0≤i∧i<vs.length∧0≤j∧j<vs.length∧i≠j)∧Q i j=[]∧v=eF 13∧WI n0 h'' nx2 wb nb tb vo vs P wv lc ot rows S Q)∨
   ((0≤i∧i<vs.length∧0≤j∧j<vs.length∧i≠j)∧∃n r,Q i j=n::r∧v=eF (bQ P (S (j.toNat+1)).1 (S (j.toNat+1)).2 n.cs).1∧WI n0 h'' nx2 wb nb tb vo vs P wv lc ot rows (gU S (j.toNat+1) (bQ P (S (j.toNat+1)).1 (S (j.toNat+1)).2 n.cs).2) (l5 Q i j r))):=by
 refine aD L.g3z fun hd=>?_;simp only[jL,jM,jA,jB,jN,jO,jP,jQ,Kb];have hd:aK h' nx:=hd;obtain⟨q,c,hw,hq,hl⟩:=H.q;have c1:=hw.cell;have c2:=hw.mp;have n1:wb<nx:=hd _ _ c1;have n2:nb<nx:=hd _ _ c2;have C5:=nJ hw i;have C6:=nJ hw j;have hk:∀nx2,nx≤nx2→WI n0 h' nx2 wb nb tb vo vs P wv lc ot rows S Q:=fun nx2 hx=>H.aBP (fun _ _=>rfl) (hd.up hx);by_cases hi:0≤i∧i<vs.length;case neg=>
  have g1:(decide (0≤i)&&decide (i<vs.length))=false:=by rw[←Kh];exact decide_eq_false hi
  rw[g1] at C5;refine au ?_;exact aG h' (leo hd) ⟨ZN,Fr.refl .., .inl ⟨fun h=>hi ⟨h.1,h.2.1⟩,rfl,hk _ ZN⟩⟩
 have g1:(decide (0≤i)&&decide (i<vs.length))=true:=by rw[←Kh];exact decide_eq_true hi
 rw[g1] at C5;by_cases hj:0≤j∧j<vs.length;case neg=>
  have g2:(decide (0≤j)&&decide (j<vs.length))=false:=by rw[←Kh];exact decide_eq_false hj
  rw[g2] at C6;refine au ?_;exact aG h' (leo hd) ⟨ZN,Fr.refl .., .inl ⟨fun h=>hj ⟨h.2.2.1,h.2.2.2.1⟩,rfl,hk _ ZN⟩⟩
 have g2:(decide (0≤j)&&decide (j<vs.length))=true:=by rw[←Kh];exact decide_eq_true hj
 rw[g2] at C6;by_cases hij:i=j;case pos=>
  have g3:(i==j)=true:=bqt;refine aue g3 ?_;exact aG h' (leo hd) ⟨ZN,Fr.refl .., .inl ⟨fun h=>h.2.2.2.2 hij,rfl,hk _ ZN⟩⟩
 have g3:(i==j)=false:=bqf;have z1:(wb=nx)=False:=fls;have z2:(nb=nx)=False:=fls;have hf:fC (.plain (.agg 2) [.int, .int]) (.agg [.int .i64 i, .int .i64 j]) (q.map Kc)=some (eT q i j):=sE i j q;have hg:=mw q i j;have aS6:0≤i∧i<vs.length∧0≤j∧j<vs.length∧i≠j:=⟨hi.1,hi.2,hj.1,hj.2,hij⟩;cases hfi:eT q i j with
 |none=>
  rw[hfi] at hf hg;rw[vV hfi] at hg;have hqe:Q i j=[]:=by rw[←hl,gy hfi];rfl
  have g4:(((0:Nat):Int)==0)=true:=rfl;refine aue (ee9 g3 c1 c2 n1 n2 z1 z2 hf (e2 hg g4)) ?_;exact aG h' (leo hd) ⟨ZN,Fr.refl .., .inr (.inl ⟨aS6,hqe,rfl,hk _ ZN⟩)⟩
 |some k=>
  rw[hfi] at hf hg;obtain⟨hkl,hka⟩:=vW hfi;rw[vU hfi] at hg;have hxm:q.getD k default∈q:=by rw[Kf,Ky hkl];exact Kk hkl
  obtain⟨b,hb1,hb0,hb2⟩:=hq.tk _ hxm;have hne:=hq.ne _ hxm;rw[←gw hfi] at hne;obtain⟨y,r,hyr⟩:∃y r,dH q i j=y::r:=by
   cases e:dH q i j with
   |nil=>exact absurd e hne
   |cons y r=>exact⟨y,r,rfl⟩
  have hQ:Q i j=y.2::r.map KD:=by rw[←hl,hyr];rfl
  rw[hb1,hyr] at hg;have hg:qF false (.sl .leaf .nil []) (q.map Kc) (some k)= .sl .leaf (.tok b) (zA y::r.map zA):=hg;obtain⟨es,hes⟩:∃es,es=r.map zA:=⟨_,rfl⟩;rw[←hes] at hg;have hel:es.length≤1000:=by rw[hes,jK];have:=hql;rw[hQ,jL,jK] at this;omega
  have g4:(((es.length+1:Nat):Int)==0)=false:=bqf;have hyl:(zA y).aAD=true:=rfl;refine aue (ta g3 c1 c2 n1 n2 z1 z2 hf hg (e2 g4 hyl)) ?_;refine db (c:=c) (es:=q.map Kc) rfl rfl (by simp only[z2,c2,go_sem,reduceIte,jA,jB,jC,jD,reduceCtorEq,jE,jF]) hf (fun k' ek=>?_) (fun ek=>by cases ek);injection ek with ek;subst ek;refine Zn ?_;have aAR:(q.map Kc).set k ⟨.agg [.int .i64 i, .int .i64 j], .sl .leaf (.tok b) es,((q.map Kc).getD k default).b⟩=(iM q i j).map Kc:=by
   have:=vf hfi;rw[hb1,hyr] at this;rw[hes];exact this
  have hgs:qF false (.sl .leaf .nil []) ((q.map Kc).set k ⟨.agg [.int .i64 i, .int .i64 j], .sl .leaf (.tok b) es,((q.map Kc).getD k default).b⟩) (some k)= .sl .leaf (.tok b) es:=by
   unfold qF;simp only[Bool.false_eq_true,if_false];rw[Kf,List.getElem?_set_self (by simpa using hkl)];rfl
  rw[aAR] at hgs;rw[aAR];have hf2:fC (.plain (.agg 2) [.int, .int]) (.agg [.int .i64 i, .int .i64 j]) ((iM q i j).map Kc)=some (some k):=by rw[←hfi,←bu q i j];exact sE i j _
  obtain⟨A,hA⟩:∃A,A=((h'.set nx (.arr (.agg 2) [.agg [.int .i64 0, .int .i64 0]])).set nx (.arr (.agg 2) [.agg [.int .i64 i, .int .i64 j]])).set nb (.mp ((iM q i j).map Kc) c):=⟨_,rfl⟩;rw[←hA];have hkA:∀x,x<nx→x≠nb→A x=h' x:=fun x hx hne=>by rw[hA];simp only[Ka];rw[if_neg hne,if_neg or,if_neg or]
  have a1:A wb=some (.arr (.agg 4) [.agg [.sl .leaf ot rows, .ptr tb (.agg 4) 0 0, .sl .leaf vo (vs.map fun v=> .ptr v (.agg 4) 0 0), .map nb]]):=by rw[hkA _ n1 (rP c1 c2)];exact c1
  have a2:A nb=some (.mp ((iM q i j).map Kc) c):=by rw[hA];simp only[Ka,if_true]
  have a3:A nx=some (.arr (.agg 2) [.agg [.int .i64 i, .int .i64 j]]):=by rw[hA];simp only[Ka];rw[if_neg or];simp
  have hdA:aK A (nx+1):=by rw[hA];exact dmo hd
  have z3:nx<nx+32:=or;have z4:wb<nx+32:=or;have z5:nb<nx+32:=or;obtain⟨jn,rfl⟩:∃jn:Nat,j=jn:=⟨j.toNat,or⟩;have hjn:jn<vs.length:=or;have aNC:y.2.cs.length≤100000:=by rw[Nt.aDl];have:=hcs y.2 (by rw[hQ];simp);omega
  have aTu:∀(C:Hp) (nxC:Nat),nx+1≤nxC→aK C nxC→C nb=some (.mp ((tR q i jn).map Kc) c)→(∀x,x<nx→x≠nb→C x=h' x)→WI n0 C nxC wb nb tb vo vs P wv lc ot rows S (l5 Q i jn (r.map KD)):=fun C nxC hx hdC hC hkC=>by
   refine H.queue (fun x k es he=>hkC x (hd _ _ he) (rP he c2)) (fun x es k hx he=>hkC x (hd _ _ he) hx) hdC hC ?_ fun a e=>?_
   ·have hq2:=hq.pop i jn;exact⟨fun x hx=>by
     obtain⟨b,h1,h2,h3⟩:=hq2.tk x hx;exact⟨b,h1,h2,by rw[hkC b (hd _ _ h3) (uq c2 h3).symm];exact h3⟩,hq2.td,hq2.key,hq2.ne⟩
   unfold l5;split
   ·rename_i e;obtain⟨rfl,rfl⟩:=e;rw[Cw hq.key,hyr];rfl
   rename_i e;rw[vm e];exact hl a _
  have hfr:∀(C h2:Hp) (nxC:Nat),aK C nxC→nx≤nxC→C nb=some (.mp ((tR q i jn).map Kc) c)→(∀x,x<nx→x≠nb→C x=h' x)→(∀x,x<nxC→x≠vs[jn]→h2 x=C x)→Fr n0 (tb::vs) h' h2:=fun C h2 nxC hdC hxC hC hkC hk2=>by
   have hvm:vs[jn]∈tb::vs:=KB _ (Kk hjn);refine⟨fun x hx=>?_,fun x k es hx he=>?_⟩
   ·have l1:=H.lo.1;have l2:=H.lo.2 _ hvm;rw[hk2 x or or,hkC x or or]
   have hxn:=hd _ _ he;rw[hk2 x or (fun e=>hx (e▸hvm)),hkC x hxn (rP he c2)]
  refine aM ?_;refine bH ?_;generalize hC:pB (lwp Tryz.prog (.seq (.ops L.aE9) .ret)) _=QC;have aBr:∀(C:Hp) (nxC:Nat) (sl:List V),nx+1≤nxC→aK C nxC→C nb=some (.mp ((tR q i jn).map Kc) c)→(∀x,x<nx→x≠nb→C x=h' x)→WkL sl (aB 84 0 [(0, .ptr wb (.agg 4) 0 0),(2, .int .i64 jn),(8,zA y)])→QC .normal ⟨sl,C,nxC⟩:=fun C nxC sl hx hdC hC2 hkC hsl=>by
   rw[←hC];refine kK ⟨_,C,nxC⟩ ⟨hsl,Kd _,Kt _⟩ ?_;refine np (aTu C nxC hx hdC hC2 hkC) jn hjn y aNC hok _ fun h2 nx2 aBZ hk2 hW=>⟨or,hfr C h2 nxC hdC or hC2 hkC hk2, .inr (.inr ⟨aS6,y.2,r.map KD,hQ,?_,?_⟩)⟩
   ·rw[jG]
   rw[jG];exact hW
  clear hC;by_cases aJa:es=[]
  ·have g5:((es.length:Int)==0)=true:=by rw[aJa];rfl
   have hqp:tR q i jn=zW (iM q i jn) i jn:=by
    unfold tR;rw[if_pos];rw[hyr];rw[hes] at aJa;exact KC.1 aJa
   have hqd:=z7 ((bu q i jn).trans hfi);rw[←hqp] at hqd;refine aue (ee9 a1 a2 a3 z3 z4 z5 hf2 hgs g5) ?_;refine rp (c:=c) (es:=(iM q i jn).map Kc) rfl rfl a2 hf2 ?_;rw[hqd];refine Zn ?_;refine au ?_;refine aBr _ _ _ or (dmo hdA) (by simp only[Ka,if_true]) (fun x hx hne=>by simp only[Ka];rw[if_neg hne];exact hkA x hx hne) (by simp only[WkL,aB,jH,jI,jJ,go_sem,reduceIte,jA,jB,jC,jD,reduceCtorEq,jE,jF])
  have g5:((es.length:Int)==0)=false:=by
   cases es with
   |nil=>exact absurd rfl aJa
   |cons a l=>exact bqf (by simp only[jL];omega)
  have hqp:tR q i jn=iM q i jn:=by
   unfold tR;rw[if_neg];rw[hyr];intro e;exact aJa (by rw[hes,show r=[] from e];rfl)
  refine aue (ee9 a1 a2 a3 z3 z4 z5 hf2 hgs g5) ?_;exact aBr _ _ _ or (hdA.up or) (by rw[hqp];exact a2) hkA (by simp only[WkL,aB,jH,jI,jJ,go_sem,reduceIte,jA,jB,jC,jD,reduceCtorEq,jE,jF])
theorem gsl(l:List V)(i j:Nat)(v d:V):(l.set i v).getD j d=if i=j∧j<l.length then v else l.getD j d:=by
 rw[Kf,Kf,List.getElem?_set];split
 ·rename_i e;subst e;split
  ·rename_i h;rw[if_pos ⟨rfl,h⟩];rfl
  rename_i h;rw[if_neg (fun k=>h k.2),List.getElem?_eq_none or]
 rename_i e;rw[if_neg (fun k=>e k.1)]
theorem Cl:∀(n k:Nat) (ps:List (Nat×V)) (sl:List V),sl.length=n→(∀p∈ps,k≤p.1→p.1<k+n→sl.getD (p.1-k) Kb=p.2)→WkL sl (aB n k ps)
 |0,k,ps,sl,hl,_=>by
  have:sl=[]:=List.length_eq_zero_iff.1 hl;subst this;trivial
 |n+1,k,ps,[],hl,_=>by simp at hl
 |n+1,k,ps,a::sl,hl,h=>by
  have hl:sl.length=n:=by simpa using hl
  cases ps with
  |nil=>exact⟨.inr rfl,Cl n (k+1) [] sl hl Zm⟩
  |cons q r=>
   obtain⟨j,v⟩:=q;have tail:∀p∈(j,v)::r,k+1≤p.1→p.1<k+1+n→sl.getD (p.1-(k+1)) Kb=p.2:=fun p hp h1 h2=>by
    have:=h p hp or or;rw[show p.1-k=(p.1-(k+1))+1 by omega,List.getD_cons_succ] at this;exact this
   unfold aB;split
   ·rename_i e;subst e;have h0:=h (j,v) Zm (Kt _) (Nat.lt_add_of_pos_right (Nat.succ_pos n));rw[Nat.sub_self,Kw] at h0;exact⟨.inl h0.symm,Cl n (j+1) r sl hl fun p hp=>tail p (by simp[hp])⟩
   exact⟨.inr rfl,Cl n (k+1) _ sl hl tail⟩
structure RN(tb wb:Nat)(A B cv:V)(vo:Own)(aB0:List V)(CA:Hp→Nat→Nat→Prop)(n1:Nat)(hp:Hp)(D:Nat→Bool)(c m a b:Nat)(s:St):Prop where
 len:s.sl.length=58
 s1:s.sl.getD 1 Kb=A
 s8:s.sl.getD 8 Kb= .ptr tb (.agg 4) 0 0
 s11:s.sl.getD 11 Kb= .ptr wb (.agg 4) 0 0
 s42:s.sl.getD 42 Kb=A
 s43:s.sl.getD 43 Kb=B
 d0:D 0=true→s.sl.getD 45 Kb= .ptr wb (.agg 4) 0 0
 d1:D 1=true→s.sl.getD 46 Kb= .ptr wb (.agg 4) 0 0
 d2:D 2=true→s.sl.getD 47 Kb= .ptr wb (.agg 4) 0 0
 d3:D 3=true→s.sl.getD 48 Kb= .ptr wb (.agg 4) 0 2
 d4:D 4=true→s.sl.getD 49 Kb= .sl .leaf vo aB0
 d5:D 5=true→s.sl.getD 50 Kb= .ptr tb (.agg 4) 0 0
 d6:D 6=true→s.sl.getD 51 Kb= .ptr c (.agg 4) 0 0
 d7:D 7=true→s.sl.getD 52 Kb= .sl .leaf (.tok a) [.ptr c (.agg 4) 0 0]
 d8:D 8=true→s.sl.getD 53 Kb= .sl .leaf (.tok b) (aB0++[.ptr c (.agg 4) 0 0])
 d9:D 9=true→s.sl.getD 54 Kb= .ptr wb (.agg 4) 0 0
 d10:D 10=true→s.sl.getD 55 Kb= .ptr wb (.agg 4) 0 2
 hw:s.h wb=some (.arr (.agg 4) [cv])
 h6:D 6=true→CA s.h c m∧n1≤c∧n1≤m∧c<s.nx∧m<s.nx
 ho:D 8=false→∀x,x<n1→s.h x=hp x
 h8:D 8=true→s.h b=some .tip∧n1≤b∧∀x,x<n1→vo≠ .tok x→s.h x=hp x
 dm:aK s.h s.nx
 nn:n1≤s.nx
section
variable{tb wb:Nat}{A B cv:V}{vo:Own}{aB0:List V}{CA:Hp→Nat→Nat→Prop}{n1:Nat}{hp:Hp}{D:Nat→Bool}{c m a b:Nat}{sl:List V}{h:Hp}{n2:Nat}
theorem RN.slot(r:RN tb wb A B cv vo aB0 CA n1 hp D c m a b ⟨sl,h,n2⟩)(t i:Nat)(v:V)
 (hi:(i=0∧t=45∧v= .ptr wb (.agg 4) 0 0)∨(i=1∧t=46∧v= .ptr wb (.agg 4) 0 0)∨(i=2∧t=47∧v= .ptr wb (.agg 4) 0 0)∨(i=3∧t=48∧v= .ptr wb (.agg 4) 0 2)∨(i=4∧t=49∧v= .sl .leaf vo aB0)∨(i=5∧t=50∧v= .ptr tb (.agg 4) 0 0)∨(i=9∧t=54∧v= .ptr wb (.agg 4) 0 0)∨(i=10∧t=55∧v= .ptr wb (.agg 4) 0 2)):
 RN tb wb A B cv vo aB0 CA n1 hp (fun j=>if j=i then true else D j) c m a b ⟨sl.set t v,h,n2⟩:=by
 obtain⟨len,s1,s8,s11,s42,s43,d0,d1,d2,d3,d4,d5,d6,d7,d8,d9,d10,hw,h6,ho,h8,dm,nn⟩:=r;dsimp only at*;rcases hi with⟨rfl,rfl,rfl⟩|⟨rfl,rfl,rfl⟩|⟨rfl,rfl,rfl⟩|⟨rfl,rfl,rfl⟩|⟨rfl,rfl,rfl⟩|⟨rfl,rfl,rfl⟩|⟨rfl,rfl,rfl⟩|⟨rfl,rfl,rfl⟩<;>
  (constructor<;>(try simp only[gsl,len,Ko])<;>first|(simp;done)|(simp;assumption)|assumption)
theorem RN.copy(r:RN tb wb A B cv vo aB0 CA n1 hp D c m a b ⟨sl,h,n2⟩)(e7:D 7=false)(e8:D 8=false){c' m' n3:Nat}{h3:Hp}(hc:CA h3 c' m')(q1:n2≤c')(q2:n2≤m')(q5:c'<n3)(q6:m'<n3)(q3:∀x,x<n2→h3 x=h x)(q4:aK h3 n3)(hn:n2≤n3):
 RN tb wb A B cv vo aB0 CA n1 hp (fun j=>if j=6 then true else D j) c' m' a b ⟨sl.set 51 (.ptr c' (.agg 4) 0 0),h3,n3⟩:=by
 obtain⟨len,s1,s8,s11,s42,s43,d0,d1,d2,d3,d4,d5,d6,d7,d8,d9,d10,hw,h6,ho,h8,dm,nn⟩:=r;dsimp only at*;have hwb:wb<n2:=dm _ _ hw;constructor;case hw=>rw[←hw];exact q3 _ hwb
 case h6=>exact fun _=>⟨hc,or,or,q5,q6⟩
 case ho=>intro _ x hx;dsimp only;rw[q3 x or];exact ho e8 x hx
 case h8=>intro e;rw[show(if (8:Nat)=6 then true else D 8)=D 8 from rfl,e8] at e;cases e
 case d7=>intro e;rw[show(if (7:Nat)=6 then true else D 7)=D 7 from rfl,e7] at e;cases e
 case d8=>intro e;rw[show(if (8:Nat)=6 then true else D 8)=D 8 from rfl,e8] at e;cases e
 case dm=>exact q4
 case nn=>exact Kz nn hn
 all_goals ((try simp only[gsl,len,Ko])<;>first|(simp;done)|(simp;assumption)|assumption)
theorem RN.lit(r:RN tb wb A B cv vo aB0 CA n1 hp D c m a b ⟨sl,h,n2⟩)(hCA:∀h h2 c m,CA h c m→(∀x,x=c∨x=m→h2 x=h x)→CA h2 c m)(e8:D 8=false):
 RN tb wb A B cv vo aB0 CA n1 hp (fun j=>if j=7 then true else D j) c m n2 b ⟨sl.set 52 (.sl .leaf (.tok n2) [.ptr c (.agg 4) 0 0]),h.set n2 .tip,n2+1⟩:=by
 obtain⟨len,s1,s8,s11,s42,s43,d0,d1,d2,d3,d4,d5,d6,d7,d8,d9,d10,hw,h6,ho,h8,dm,nn⟩:=r;dsimp only at*;have hwb:wb<n2:=dm _ _ hw;constructor;case hw=>simp only[Ka];rw[if_neg or];exact hw
 case h6=>
  intro e;obtain⟨g1,g2,g3,g4,g5⟩:=h6 (by simpa using e);exact⟨hCA _ _ _ _ g1 fun x hx=>by simp only[Ka];rw[if_neg or],g2,g3,Kq g4,Kq g5⟩
 case ho=>intro _ x hx;simp only[Ka];rw[if_neg or];exact ho e8 x hx
 case h8=>intro e;rw[show(if (8:Nat)=7 then true else D 8)=D 8 from rfl,e8] at e;cases e
 case d8=>intro e;rw[show(if (8:Nat)=7 then true else D 8)=D 8 from rfl,e8] at e;cases e
 case dm=>exact aK.set dm (Nat.lt_succ_self _) (Nat.le_succ _) _
 case nn=>exact Ks nn
 all_goals ((try simp only[gsl,len,Ko])<;>first|(simp;done)|(simp;assumption)|assumption)
theorem RN.app(r:RN tb wb A B cv vo aB0 CA n1 hp D c m a b ⟨sl,h,n2⟩)(hCA:∀h h2 c m,CA h c m→(∀x,x=c∨x=m→h2 x=h x)→CA h2 c m)(e8:D 8=false){h3:Hp}(hlo:∀x,vo= .tok x→x<n1∧x≠wb)(q:∀x,x≠n2→vo≠ .tok x→h3 x=h x)(q2:h3 n2=some .tip)(q3:aK h3 (n2+1)):
 RN tb wb A B cv vo aB0 CA n1 hp (fun j=>if j=8 then true else D j) c m a n2 ⟨sl.set 53 (.sl .leaf (.tok n2) (aB0++[.ptr c (.agg 4) 0 0])),h3,n2+1⟩:=by
 obtain⟨len,s1,s8,s11,s42,s43,d0,d1,d2,d3,d4,d5,d6,d7,d8,d9,d10,hw,h6,ho,h8,dm,nn⟩:=r;dsimp only at*;have hwb:wb<n2:=dm _ _ hw;constructor;case hw=>dsimp only;rw[q wb or (fun e=>(hlo _ e).2 rfl)];exact hw
 case h6=>
  intro e;obtain⟨g1,g2,g3,g4,g5⟩:=h6 (by simpa using e);exact⟨hCA _ _ _ _ g1 fun x hx=>q x or (fun e=>by have:=(hlo _ e).1;omega),g2,g3,Kq g4,Kq g5⟩
 case ho=>intro e;cases e
 case h8=>exact fun _=>⟨q2,nn,fun x hx hv=>by dsimp only;rw[q x or hv];exact ho e8 x hx⟩
 case dm=>exact q3
 case nn=>exact Ks nn
 all_goals ((try simp only[gsl,len,Ko])<;>first|(simp;done)|(simp;assumption)|assumption)
end
set_option maxRecDepth 100000 in
set_option maxHeartbeats 8000000 in
theorem yz(o:Own){P:Int}{ws:List Wy}{n:Nat}{l:List We}(R:nB P ws n l)(hl:ws.length≤1000)(hn:o= .nil→ws=[])(N:Nat)(hN:1≤N∧N≤17)(ob:Own)(bg:List Sp)(hb:bg.length≤1000)(h':Hp)(nx:Nat):
 bD Tryz.prog 9 [mps o P ws, .int .i64 N, .sl (.agg 3) ob (bg.map Sp.v)] h' nx fun v h'' nx2=>nx≤nx2∧aK h'' nx2∧(∀x,x<nx→h'' x=h' x)∧
  (((bQ P [] 0 (cJ bg 1)).1≠0∧v= .tup [.aAI,eF (bQ P [] 0 (cJ bg 1)).1])∨
   ((bQ P [] 0 (cJ bg 1)).1=0∧∃wb nb tb vo vs o2 oc ot,v= .tup [.ptr wb (.agg 4) 0 0, .nilIface]∧vs.length=N∧nx≤wb∧
     WI nx h'' nx2 wb nb tb vo vs P (wys o2 ws) (.sl .leaf oc (iR n l n)) ot (iR n l n) (fun _=>(bQ P [] 0 (cJ bg 1)).2) (fun _ _=>[]))):=by
 have hmf:(mps o P ws).fits (.agg 2)=true:=by simp[mps,V.fits,V.aAD,wys]
 refine aD L.g2z fun hd=>?_;simp only[jL,jM,jA,jB,jN,jO,jP,jQ,Kb];refine aue hmf ?_;refine bX ((Bx o R or hn _ _).mono ?_);rintro v1 M1 nx1 aIu ⟨tb,m,o2,oc,rfl,htb,hm,aFq,hk1,hd1,_⟩;dsimp only at htb hm aIu hk1;unfold eI;refine Zn ?_;have g1:decide ((N:Int)<1)=false:=dcf;have g2:decide ((N:Int)>17)=false:=dcf;refine aue (e2 g1 g2) ?_;refine bX ((pZ ob bg 1 or _ _).dom.mono ?_);rintro v2 M2 nx2 aBZ ⟨hf,hd2,_⟩;try dsimp only at aBZ
 obtain⟨ox,hk2,rfl⟩:∃ox,(∀x,x<nx1→M2 x=M1 x)∧v2=cgs ox (cJ bg 1):=by
  rcases hf with⟨he,rfl,rfl⟩|⟨_,id,hid,rfl,rfl⟩
  ·exact⟨.nil,fun x hx=>rfl,by rw[cgs,he]⟩
  exact⟨.tok id,fun x hx=>by simp only[Ka];rw[if_neg (by dsimp only at hid;omega)],rfl⟩
 have hlen:(cJ bg 1).length≤100000:=by simp[cJ];omega
 unfold eI;refine Zn ?_;refine au ?_;refine bX ((xD ox (cJ bg 1) hlen [] 0 (jp 0) P _ _ tb m _ _ hd2 (aFq.aBP hd1 hk2)).mono ?_);rintro v3 M3 nx3 aGm ⟨rfl,⟨m3,hc3,hm3⟩,hk3,_,hd3,_⟩;try dsimp only at aGm hk3 hm3
 have hv:=iE (bQ P [] 0 (cJ bg 1)).1;have hkA:∀x,x<nx→M3 x=h' x:=fun x hx=>by
  rw[hk3 x or or,hk2 x or,hk1 x or];simp only[Ka];rw[if_neg or]
 unfold eI;refine Zn ?_;by_cases he:(bQ P [] 0 (cJ bg 1)).1=0;case neg=>
  rw[decide_eq_false he] at hv;refine aue hv ?_;refine fS M3 (Kd _) ⟨ZN,hd3.up ZN,hkA, .inl ⟨he,?_⟩⟩;simp only[go_sem,reduceIte,jA,jB,jC,jD,reduceCtorEq,jE,jF]
 rw[decide_eq_true he] at hv;have b0:M3 nx=some (.arr (.agg 2) [mps o P ws]):=by
  rw[hk3 nx or or,hk2 nx or,hk1 nx or];simp only[Ka,if_true]
 obtain⟨ot,hot⟩:=mQ .leaf (iR n l n);have C1:∀h,aX Tryz.prog 38 [mps o P ws] h (.sl .leaf ot (iR n l n)):=fun h=>by
  have:=uf o R or h;rw[hot] at this;exact this
 refine aue (e3 hv b0 hmf) ?_;refine CH ?_;refine Zn ?_;refine au ?_;have aWM:tb<nx3:=hd3 _ _ hc3.cell;have aWT:m3<nx3:=hd3 _ _ hc3.mp;obtain⟨X,hX⟩:∃X:CS,X=(bQ P [] 0 (cJ bg 1)).2:=⟨_,rfl⟩;rw[←hX] at hc3⊢;obtain⟨CA,hCA⟩:∃CA:Hp→Nat→Nat→Prop,∀h c m,CA h c m↔(m≠nx3∧eV h c m P (wys o2 ws) (.sl .leaf oc (iR n l n)) X.1 X.2):=⟨_,fun _ _ _=>Iff.rfl⟩;have aI2:∀h h2 c m,CA h c m→(∀x,x=c∨x=m→h2 x=h x)→CA h2 c m:=fun h h2 c m hc hk=>by
  obtain⟨q1,q2⟩:=(hCA ..).1 hc;exact(hCA ..).2 ⟨q1,by rw[hk _ (.inl rfl)];exact q2.cell,by rw[hk _ (.inr rfl)];exact q2.mp,q2.wf,q2.lf⟩
 refine aT (fun q:List Nat×Own=>aB 58 0 [(1, .int .i64 N),(8, .ptr tb (.agg 4) 0 0),(11, .ptr (nx3+1) (.agg 4) 0 0),(42, .int .i64 N),(43, .int .i64 q.1.length)])
  (fun q hp nx1=>q.1.length≤N∧nx3+2≤nx1∧aK hp nx1∧(∀x,x<nx→hp x=h' x)∧hp nx3=some (.mp [] 0)∧hp (nx3+1)=some (.arr (.agg 4) [.agg [.sl .leaf ot (iR n l n), .ptr tb (.agg 4) 0 0, .sl .leaf q.2 (q.1.map fun v=> .ptr v (.agg 4) 0 0), .map nx3]])∧
    CA hp tb m3∧(∀v∈q.1,∃m,CA hp v m∧nx3+2≤v∧nx3+2≤m)∧q.1.Nodup∧((q.2= .nil∧q.1=[])∨∃b,q.2= .tok b∧hp b=some .tip∧nx3+2≤b))
  (fun q=>N-q.1.length) ([], .nil) ⟨KH _,ZN,dmo hd3,fun x hx=>?_,?_,?_,(hCA ..).2 ⟨or,?_⟩,fun v hv=>(by cases hv), .nil, .inl ⟨rfl,rfl⟩⟩ (by simp only[WkL,aB,jH,jI,jJ,KF,go_sem,reduceIte,jA,jB,jC,jD,reduceCtorEq,jE,jF]) ?_
 ·simp only[go_sem,reduceIte,jA,jB,jC,jD,reduceCtorEq,jE,jF];rw[if_neg or,if_neg or];exact hkA x hx
 ·simp only[go_sem,reduceIte,jA,jB,jC,jD,reduceCtorEq,jE,jF]
 ·simp only[go_sem,reduceIte,jA,jB,jC,jD,reduceCtorEq,jE,jF]
 ·exact hc3.aBP hd3 fun x hx=>by simp only[Ka];rw[if_neg or,if_neg or]
 rintro⟨vs,vo⟩ hp nx1 ⟨aHl,hnx,hdm,hsm,w1,w2,w3,w4,w5,w6⟩;dsimp only at aHl w2 w4 w5 w6;generalize hQ:bO _ _ _ _ _=Q0;simp only[aB,go_sem,reduceIte,jA,jB,jC,jD,reduceCtorEq,jE,jF];rcases KG vs.length N with hlt|hge;case inr=>
  have hc1:decide ((vs.length:Int)<(N:Int))=false:=dcf;refine aue hc1 ?_;rw[←hQ];refine au ?_;have hvN:vs.length=N:=or;refine fS hp (Kd _) ⟨ZN,hdm.up ZN,hsm, .inr ⟨he,nx3+1,nx3,tb,vo,vs,o2,oc,ot,?_,hvN,or,?_⟩⟩
  ·simp only[go_sem,reduceIte,jA,jB,jC,jD,reduceCtorEq,jE,jF]
  obtain⟨q1,q2⟩:=(hCA ..).1 w3;have aTn:tb∉vs:=fun hc=>by
   obtain⟨m,_,h2,_⟩:=w4 tb hc;omega
  refine⟨⟨[],0,⟨w2,w1⟩,QOK.nil _ _,fun i j=>rfl⟩,hdm.up ZN,fun i hi=>?_,List.nodup_cons.2 ⟨aTn,w5⟩,or,fun x hx=>?_⟩
  ·cases i with
   |zero=>exact⟨m3,q1,q2⟩
   |succ i=>
    have hi:i<vs.length:=by simpa using hi
    obtain⟨m,h1,_⟩:=w4 vs[i] (Kk _);obtain⟨h2,h3⟩:=(hCA ..).1 h1;exact⟨m,h2,h3⟩
  rcases Km.1 hx with rfl|hx
  ·omega
  obtain⟨m,_,h2,_⟩:=w4 x hx;omega
 have hc1:decide ((vs.length:Int)<(N:Int))=true:=dct;unfold L.aLL;generalize hR:bF.draw 11 L.aDj L.aFL=R;refine aue hc1 ?_;rw[←hR];clear hR;refine sF ?_;obtain⟨aB0,aHV⟩:∃aB0,aB0=vs.map fun v=>V.ptr v (.agg 4) 0 0:=⟨_,rfl⟩;rw[←aHV] at w2;obtain⟨cv,hcv⟩:∃cv,cv=V.agg [.sl .leaf ot (iR n l n), .ptr tb (.agg 4) 0 0, .sl .leaf vo aB0, .map nx3]:=⟨_,rfl⟩;rw[←hcv] at w2;refine⟨fun D s=>∃c m a b,RN tb (nx3+1) (.int .i64 N) (.int .i64 vs.length) cv vo aB0 CA nx1 hp D c m a b s,⟨0,0,0,0,?_⟩,?_,?_⟩
 ·constructor<;>first|exact hdm|exact w2|exact Kt _|(intro h;cases h;done)|exact fun _ _ _=>rfl|rfl|skip
 ·rintro D i oo aAP ⟨sl,hq,n2⟩ hi hDi aAX hcl ⟨c,m,a,b,r⟩;have no:∀j (o:aA) dp,L.aDj[j]?=some (o,dp)→i∈dp→D j=false:=fun j o dp hj hin=>by
   cases h:D j with
   |false=>rfl
   |true=>have:=hcl j _ _ hj h i hin;rw[hDi] at this;cases this
  have hrw:=r.hw;dsimp only at hrw;rcases i with _|_|_|_|_|_|_|_|_|_|_|i;all_goals first|(injection hi with hi;injection hi with q1 q2;subst q1;subst q2)|skip
  all_goals try simp only[Km,Ku,or_false,forall_eq_or_imp,forall_eq,false_implies,implies_true] at aAX
  all_goals simp only[bB,LOp.run,LOp.sem,bL.sem,aO.ev,r.s8,r.s11,bN,List.map_cons,KF]
  ·exact⟨c,m,a,b,r.slot 45 0 _ Zm⟩
  ·exact⟨c,m,a,b,r.slot 46 1 _ Zm⟩
  ·simp only[r.d1 aAX,hrw];exact⟨c,m,a,b,r.slot 47 2 _ Zm⟩
  ·simp only[r.d2 aAX.2,hrw];exact⟨c,m,a,b,r.slot 48 3 _ Zm⟩
  ·simp only[r.d3 aAX.2.2,hrw];exact⟨trivial,Zm,by simp[cR],c,m,a,b,r.slot 49 4 _ (by simp[hcv,bV,V.cell,V.cells])⟩
  ·exact⟨c,m,a,b,r.slot 50 5 _ Zm⟩
  ·simp only[r.d5 aAX];have e7:=no 7 _ _ rfl Zm;have e8:=no 8 _ _ rfl Zm;have ho:=r.ho e8;have hnn:=r.nn;dsimp only at ho hnn;have hct:=aI2 hp hq tb m3 w3 (fun x hx=>ho x (by rcases hx with rfl|rfl<;>omega));refine(CT ((hCA ..).1 hct).2).mono ?_;rintro v h3 n3 hn3 ⟨cb2,m2,rfl,q1,q2,q3,q4,q5,q6⟩;exact⟨cb2,m2,a,b,r.copy e7 e8 ((hCA ..).2 ⟨or,q3⟩) q1 q2 (q5 _ _ q3.cell) (q5 _ _ q3.mp) q4 q5 q6⟩
  ·simp only[r.d6 aAX.2];refine⟨fun e he=>by rw[Kg.1 he];simp only[r.d6 aAX.2];rfl, .inl ⟨c,m,n2,b,r.lit aI2 (no 8 _ _ rfl Zm)⟩⟩
  ·simp only[r.d4 aAX.2.2.2.1,r.d7 aAX.2.2.2.2.2.2,eJ];have e8:=hDi;have ho:=r.ho e8;have hnn:=r.nn;have hdq:=r.dm;dsimp only at ho hnn hdq;refine⟨trivial,trivial,by rw[aHV,jK,Ki];omega, .inl ⟨?_,c,m,a,n2,?_⟩⟩
   ·rcases w6 with⟨h1,h2⟩|⟨b',h1,h2,h3⟩
    ·rw[h1];trivial
    rw[h1];show hq b'=some .tip;rw[ho b' (hdm _ _ h2)];exact h2
   rcases w6 with⟨h1,h2⟩|⟨b',h1,h2,h3⟩
   ·subst h1;exact r.app aI2 e8 (fun x e=>by cases e) (fun x hx _=>by simp[fE,Ka,hx]) (by simp[fE,Ka]) (by simp only[fE];exact dmo hdq)
   subst h1;have hb':=hdm _ _ h2;refine r.app aI2 e8 (fun x e=>?_) (fun x hx hne=>?_) (by simp[fE,Ka]) (by simp only[fE];exact dmo hdq)
   ·injection e with e;exact⟨or,or⟩
   have:x≠b':=fun e=>hne (by rw[e]);simp[fE,Ka,Ke,hx,this]
  ·simp only[r.d0 aAX.1,hrw];exact⟨c,m,a,b,r.slot 54 9 _ Zm⟩
  ·simp only[r.d9 (by simp[aAX]),hrw];exact⟨c,m,a,b,r.slot 55 10 _ Zm⟩
  simp[L.aDj] at hi
 rintro D ⟨sl,h2,n2⟩ hD ⟨c,m,a,b,r⟩;have dd:=fun i (h:i<11)=>hD i h;have x8:=r.d8 (dd 8 or);have x10:=r.d10 (dd 10 or);obtain⟨y1,y2,y3,y4,y5⟩:=r.h6 (dd 6 or);obtain⟨y6,y7,y8⟩:=r.h8 (dd 8 or);obtain⟨len,s1,s8,s11,s42,s43,d0,d1,d2,d3,d4,d5,d6,d7,d8,d9,d10,hw,h6,ho,h8,dm,nn⟩:=r;dsimp only at len s1 s8 s11 s42 s43 hw dm nn x8 x10 y1 y4 y5 y6 y7 y8;clear d0 d1 d2 d3 d4 d5 d6 d7 d8 d9 d10 h6 ho h8 hD dd;simp only[bB,LOp.run,LOp.sem,aO.ev,x10,x8,hw,bN];refine⟨trivial,Zm,by simp[cR],rfl,?_⟩;have aAJ: [cv].set 0 (bU .leaf 2 ([cv].getD 0 Kb) (.sl .leaf (.tok b) (aB0++[.ptr c (.agg 4) 0 0])))=[.agg [.sl .leaf ot (iR n l n), .ptr tb (.agg 4) 0 0, .sl .leaf (.tok b) ((vs++[c]).map fun v=> .ptr v (.agg 4) 0 0), .map nx3]]:=by
  rw[hcv,aHV,Kv];rfl
 rw[aAJ];refine cC ?_;refine kK ⟨aB 58 0 [(1, .int .i64 N),(8, .ptr tb (.agg 4) 0 0),(11, .ptr (nx3+1) (.agg 4) 0 0),(42, .int .i64 N),(43, .int .i64 vs.length)],_,_⟩ ⟨Cl 58 0 _ sl len ?_,Kd _,Kt _⟩ ?_
 ·simp only[Km,Ku,or_false,forall_eq_or_imp,forall_eq,Nat.sub_zero];rw[s1,s8,s11,s42,s43];simp
 have hw1:IntKind.i64.wrap ((vs.length:Int)+1)=((vs.length+1:Nat):Int):=wrp;simp only[aB,go_sem,reduceIte,jA,jB,jC,jD,reduceCtorEq,jE,jF];refine aue hw1 ?_;rw[←hQ];clear hQ s1 s8 s11 s42 s43 len x8 x10 aAJ;have hkp:∀x,x<nx1→vo≠ .tok x→x≠nx3+1→h2 x=hp x:=fun x hx hne h1=>y8 x hx hne;have hno:∀x,(x<nx3+2∨∃k es,hp x=some (.arr k es))∨(∃es k,hp x=some (.mp es k))→vo≠ .tok x:=fun x hx e=>by
  rcases w6 with⟨h1,_⟩|⟨b',h1,h3,h4⟩
  ·rw[h1] at e;cases e
  rw[h1] at e;injection e with e;subst e;rcases hx with(hx|⟨k,es,hx⟩)|⟨es,k,hx⟩
  ·omega
  ·rw[h3] at hx;cases hx
  rw[h3] at hx;cases hx
 have hCk:∀v m,CA hp v m→CA (h2.set (nx3+1) (.arr (.agg 4) [.agg [.sl .leaf ot (iR n l n), .ptr tb (.agg 4) 0 0, .sl .leaf (.tok b) ((vs++[c]).map fun v=> .ptr v (.agg 4) 0 0), .map nx3]])) v m:=fun v m hv=>by
  obtain⟨q1,q2⟩:=(hCA ..).1 hv;have hv1:=od (hcv▸w2) q2.cell;have hm1:m≠nx3+1:=(rP w2 q2.mp).symm;refine aI2 hp _ v m hv fun x hx=>?_;rcases hx with rfl|rfl
  ·simp only[Ka];rw[if_neg hv1.symm,hkp _ (hdm _ _ q2.cell) (hno _ (.inl (.inr ⟨_,_,q2.cell⟩))) hv1.symm]
  simp only[Ka];rw[if_neg hm1,hkp _ (hdm _ _ q2.mp) (hno _ (.inr ⟨_,_,q2.mp⟩)) hm1]
 refine aF (vs++[c], .tok b) (by simp only[Kx,Ki];omega) ⟨by simp only[Kx,Ki];omega,ZN,dmo dm,fun x hx=>?_,?_,?_,hCk _ _ w3,fun v hv=>?_,?_, .inr ⟨b,rfl,?_,or⟩⟩ (by simp only[WkL,aB,jH,jI,jJ,Kx,Ki,go_sem,reduceIte,jA,jB,jC,jD,reduceCtorEq,jE,jF])
 ·simp only[Ka];rw[if_neg or,hkp x or (hno x (.inl (.inl or))) or];exact hsm x hx
 ·simp only[Ka];rw[if_neg or,hkp nx3 or (hno nx3 (.inl (.inl or))) or];exact w1
 ·simp only[Ka,if_true]
 ·rcases List.mem_append.1 hv with hv|hv
  ·obtain⟨m',q1,q2,q3⟩:=w4 v hv;exact⟨m',hCk _ _ q1,q2,q3⟩
  rw[Kg.1 hv];exact⟨m,aI2 _ _ _ _ y1 (fun x hx=>by simp only[Ka];rw[if_neg or]),or,or⟩
 ·refine List.nodup_append.2 ⟨w5,Zm,fun x hx y hy e=>?_⟩;rw[Kg.1 hy] at e;obtain⟨m',q1,_⟩:=w4 x hx;have:=hdm _ _ ((hCA ..).1 q1).2.cell;omega
 simp only[Ka];rw[if_neg or];exact y6
theorem sS:aJ Tryz.prog 44=some (LB.aAj (.agg 3) 73):=Zz
theorem yA:aJ Tryz.prog 73=some (LB.aAe (.agg 3)):=Zz
theorem tx(o:Own)(d:Int)(h:Hp):aX Tryz.prog 37 [.sl (.agg 3) o [], .int .i64 d] h (.sl (.agg 4) .nil []):=by
 refine aP (fun L=>by simp[V.names,bP]) fun h' nx hh=>(pZ o [] d Zm h' nx).mono ?_;rintro v h2 n2 _ (⟨_,h1,h2⟩|⟨hne,_⟩)
 ·exact⟨h1,h2⟩
 exact absurd rfl hne
def mkB(T:Nat→Nat→List Pa)(n:Nat)(s u:Sp):Bool:=decide (0≤u.p∧u.p<n∧0≤s.p∧s.p<n)&&pW (T s.p.toNat u.p.toNat) s u
theorem gj{h:Hp}{wb tb nb:Nat}{ot:Own}{rows:List V}{vo:Own}{vs:List Nat}{q:List QE}{c:Nat}(w:iJ h wb tb nb (.sl .leaf ot rows) vo vs q c)(T:Nat→Nat→List Pa)(n:Nat)(hT:AW T n rows)(hlen:∀a b,(T a b).length≤1000)(s u:Sp)
 {a b:Nat} (ha:h a=some (.arr .leaf [.ptr wb (.agg 4) 0 0])) (hb:h b=some (.arr (.agg 3) [s.v])):aX Tryz.prog 41 [u.v, .ptr a .leaf 0 0, .ptr b (.agg 3) 0 0] h (.bool (!mkB T n s u)):=by
 refine aP (fun L=>trivial) fun h' nx hh=>aD L.aV3 fun hd=>?_;simp only[jL,jM,jA,jB,jN,jO,jP,jQ,Kb];have c1:=hh _ _ ha rfl;have c2:h' b=some (.arr (.agg 3) [.agg [.int .i64 s.p, .int .i64 s.t.e, .int .i64 s.t.r]]):=hh _ _ hb rfl;have hw:iJ h' wb tb nb (.sl .leaf ot rows) vo vs q c:=⟨hh _ _ w.cell rfl,hh _ _ w.mp rfl⟩;have n1:a<nx:=hd _ _ c1;have n2:b<nx:=hd _ _ c2;have e1:(a=nx)=False:=fls;have e2:(b=nx)=False:=fls;have hw2:iJ (h'.set nx (.arr (.agg 3) [.agg [.int .i64 u.p, .int .i64 u.t.e, .int .i64 u.t.r]])) wb tb nb (.sl .leaf ot rows) vo vs q c:=by
  have q1:=hd _ _ hw.cell;have q2:=hd _ _ hw.mp;exact⟨by simp only[Ka];rw[if_neg or];exact hw.cell,by simp only[Ka];rw[if_neg or];exact hw.mp⟩
 have C5:=wd hw2 T n hT hlen s u;refine aue (e7 Sp.v.eq_1 c1 c2 n1 n2 e1 e2) ?_;exact aG h' (leo hd) ⟨rfl,rfl⟩
def doE(N:Nat)(P:Int)(T:CS)(T0:Nat→Nat→List Pa)(n:Nat)(i:Int)(nt:Nt):Int:=
 if¬(0≤i∧i<N) then 1 else if dT T.1 nt.aAz<1 then 13 else if nt.made.any (fun u=> !mkB T0 n nt.aAz u)=true then 2 else (bQ P T.1 T.2 nt.cs).1
theorem DA(nt:Nt):(cJ nt.made 1).map Cg.v++[.agg [.int .i64 nt.aAz.p, .int .i64 nt.aAz.t.e, .int .i64 nt.aAz.t.r, .int .i64 (-1)]]=nt.cs.map Cg.v:=by
 unfold Nt.cs cJ;rw[Kv];rfl
def sV(S:Nat→CS)(T' V':CS)(m k:Nat):Nat→CS:=if m<k then gU (gU S 0 T') (m+1) V' else gU S 0 T'
theorem ur(S:Nat→CS)(T' V':CS){m k:Nat}(h:k≠m):sV S T' V' m (k+1)=sV S T' V' m k:=by
 unfold sV;by_cases e:m<k
 ·rw[if_pos e,if_pos or]
 rw[if_neg e,if_neg or]
theorem zq(Q:Int→Int→List Nt)(m:Int)(n:Nt):kF 0 Q m n=Q:=by
 funext a b;unfold kF;rw[if_neg or]
theorem zr(Q:Int→Int→List Nt)(m k:Nat)(n:Nt)(h:k≠m):kF (k+1) Q m n=l5 (kF k Q m n) m k (Q m k++[n]):=by
 funext a b;unfold kF l5;by_cases e:a=m∧b=k
 ·obtain⟨rfl,rfl⟩:=e;rw[if_pos or,if_pos ⟨rfl,rfl⟩]
 rw[if_neg e];dsimp only;by_cases e2:a=m∧b≠m∧0≤b∧b<k
 ·rw[if_pos or,if_pos e2]
 rw[if_neg or,if_neg e2]
theorem gp(Q:Int→Int→List Nt)(m:Nat)(n:Nt):kF (m+1) Q m n=kF m Q m n:=by
 funext a b;unfold kF;by_cases e2:a=m∧b≠m∧0≤b∧b<m
 ·rw[if_pos or,if_pos e2]
 rw[if_neg or,if_neg e2]
theorem WI.push{n0:Nat}{h h2:Hp}{nx nx2 wb nb tb:Nat}{vo:Own}{vs:List Nat}{P:Int}{wv lc:V}{ot:Own}{rows:List V}{S:Nat→CS}{Q:Int→Int→List Nt}{q:List QE}{c c2 a:Nat}{i j:Int}{x:Own×Nt}
 (H:WI n0 h nx wb nb tb vo vs P wv lc ot rows S Q) (hw:iJ h wb tb nb (.sl .leaf ot rows) vo vs q c) (hq:QOK n0 h q) (hl:∀i j,(dH q i j).map KD=Q i j)
 (hk:∀y,y<nx→y≠nb→(∀z∈q,z.at' i j=true→z.o≠ .tok y)→h2 y=h y) (ha:nx≤a) (ha2:h2 a=some .tip) (hn0:n0≤nx) (hm:h2 nb=some (.mp ((lQ q c i j (.tok a) x).map Kc) c2)) (hd:aK h2 nx2):
 WI n0 h2 nx2 wb nb tb vo vs P wv lc ot rows S (l5 Q i j (Q i j++[x.2])):=by
 have tok:∀z∈q,∀y,z.o= .tok y→h y=some .tip:=fun z hz y e=>by
  obtain⟨b,h1,_,h3⟩:=hq.tk z hz;rw[h1] at e;injection e with e;rw[←e];exact h3
 refine H.queue (fun y k es he=>hk y (H.dom _ _ he) (rP he hw.mp) fun z hz _ e=>by rw[tok z hz y e] at he;cases he) (fun y es k hy he=>hk y (H.dom _ _ he) hy fun z hz _ e=>by rw[tok z hz y e] at he;cases he) hd hm ?_ fun a' b'=>?_
 ·refine hq.push or ha2 fun y hy hn=>⟨fun e=>?_,fun b e=>?_⟩
  ·have:=H.dom _ _ (tok y hy a e);omega
  have hb:=tok y hy b e;refine hk b (H.dom _ _ hb) (uq hw.mp hb).symm fun z hz hz2 e2=>?_;have hne:y≠z:=fun e3=>hn (e3▸hz2);obtain⟨i1,hi1,rfl⟩:=Kj.1 hy;obtain⟨i2,hi2,rfl⟩:=Kj.1 hz;have hii:i1≠i2:=fun e3=>hne (by subst e3;rfl);have hp:=List.pairwise_iff_getElem.1 hq.td;rcases Nat.lt_or_gt_of_ne hii with k1|k1
  ·exact hp i1 i2 hi1 hi2 k1 (e.trans e2.symm)
  exact hp i2 i1 hi2 hi1 k1 (e2.trans e.symm)
 unfold l5;split
 ·rename_i e;obtain⟨rfl,rfl⟩:=e;rw[qk,Kv,hl];rfl
 rename_i e;rw[yV e];exact hl a' b'
set_option maxRecDepth 100000 in
set_option maxHeartbeats 8000000 in
theorem CP{n0:Nat}{B:Hp}{nxB wb nb tb:Nat}{vo:Own}{vs:List Nat}{P:Int}{wv lc:V}{ot:Own}{rows:List V}{S:Nat→CS}{Q:Int→Int→List Nt}(H:WI n0 B nxB wb nb tb vo vs P wv lc ot rows S Q)
 (m:Nat) (hm:m<vs.length) (nt:Nt) (ox:Own) (nx0:Nat) (b0:B nx0=some (.arr .leaf [.ptr wb (.agg 4) 0 0])) (hcs:nt.cs.length≤100000) (hok:∀k,fK (S k).1 (S k).2) (hn0:n0≤nxB) (hql:∀a b,(Q a b).length<1000) (hvs:vs.length≤17) (aI3:V→Hp→Nat→Prop)
 (hap:(bQ P (S 0).1 (S 0).2 nt.cs).1=0→(bQ P (S (m+1)).1 (S (m+1)).2 nt.cs).1=0)
 (hPe:∀h2 nx2,nxB≤nx2→Fr n0 (tb::vs) B h2→(bQ P (S 0).1 (S 0).2 nt.cs).1≠0→WI n0 h2 nx2 wb nb tb vo vs P wv lc ot rows S Q→aI3 (eF (bQ P (S 0).1 (S 0).2 nt.cs).1) h2 nx2)
 (hPo:∀h2 nx2,nxB≤nx2→Fr n0 (tb::vs) B h2→(bQ P (S 0).1 (S 0).2 nt.cs).1=0→WI n0 h2 nx2 wb nb tb vo vs P wv lc ot rows (gU (gU S 0 (bQ P (S 0).1 (S 0).2 nt.cs).2) (m+1) (bQ P (S (m+1)).1 (S (m+1)).2 nt.cs).2) (kF vs.length Q m nt)→aI3 (eF 0) h2 nx2):
 lwp Tryz.prog (.seq (.seq (.ops L.aGx) (.seq (.ops L.aGw) (.cond (.slot 57) (.seq (.ops L.aGv) .ret) .skip))) (.seq (.seq (.ops L.aGu) (.block 1 (.loop L.aKs))) (.seq (.ops L.aGt) .ret))) (iU [.slot 8] aI3)
  ⟨aB 97 0 [(1, .int .i64 m),(4, .ptr nx0 .leaf 0 0),(8, .nilIface),(10,cgs ox nt.cs)],B,nxB⟩:=by
 simp only[aB,go_sem,reduceIte,jA,jB,jC,jD,reduceCtorEq,jE,jF];obtain⟨q,c,hw,hq,hl⟩:=H.q;obtain⟨mt,hmt,hct⟩:=H.t;have c1:=hw.cell;have n1:wb<nxB:=H.dom _ _ c1;have n2:nx0<nxB:=H.dom _ _ b0;refine aue (e4 b0 c1 n1 n2) ?_;refine bX ((xD ox nt.cs hcs _ _ (hok 0) P _ _ tb mt _ _ H.dom hct).mono ?_);rintro v h2 nx2 aBZ ⟨rfl,⟨m2,hc2,hm2⟩,hk,hke,hd2,_⟩;have hv:=iE (bQ P (S 0).1 (S 0).2 nt.cs).1;have hF2:Fr n0 (tb::vs) B h2:=⟨fun x hx=>by have:=H.lo.2 tb Zm;exact hk x or or,fun x k es hx he=>hk x (H.dom _ _ he) (fun e=>hx (by rw[e];simp))⟩;unfold eI;refine Zn ?_;by_cases he:(bQ P (S 0).1 (S 0).2 nt.cs).1=0;case neg=>
  rw[decide_eq_false he] at hv;refine aue hv ?_;exact aG h2 (Kd _) (hPe h2 _ ZN hF2 he (H.aBP (fun x _=>by rw[hke he]) (hd2.up ZN)))
 rw[decide_eq_true he] at hv;have hbt:nx0≠tb:=fun e=>by rw[e,hct.cell] at b0;simp[lM] at b0
 have hbv:∀k (hk:k<vs.length),nx0≠vs[k]:=fun k hk e=>by
  obtain⟨m',_,hc'⟩:=H.v k hk;rw[e,hc'.cell] at b0;simp[lM] at b0
 have hb0:nx0∉tb::vs:=fun e=>by
  rcases Km.1 e with e|e
  ·exact hbt e
  obtain⟨k,hk,e2⟩:=Kj.1 e;exact hbv k hk e2.symm
 have b2:h2 nx0=some (.arr .leaf [.ptr wb (.agg 4) 0 0]):=by rw[hk _ n2 hbt];exact b0
 have H2:WI n0 h2 nx2 wb nb tb vo vs P wv lc ot rows (gU S 0 (bQ P (S 0).1 (S 0).2 nt.cs).2) Q:=H.apply 0 Zm hk hd2 hm2 hmt hc2;have hap:=hap he;obtain⟨T',hT'⟩:∃T',T'=(bQ P (S 0).1 (S 0).2 nt.cs).2:=⟨_,rfl⟩;obtain⟨V',hV'⟩:∃V',V'=(bQ P (S (m+1)).1 (S (m+1)).2 nt.cs).2:=⟨_,rfl⟩;rw[←hT'] at H2;rw[←hT',←hV'] at hPo;have c2:h2 wb=some (.arr (.agg 4) [.agg [.sl .leaf ot rows, .ptr tb (.agg 4) 0 0, .sl .leaf vo (vs.map fun v=> .ptr v (.agg 4) 0 0), .map nb]]):=by rw[hk _ n1 (od c1 hct.cell)];exact c1
 have n4:wb<nx2:=or;have n5:nx0<nx2:=or;refine aue (e6 hv b2 c2 n4 n5 (@jK Nat V)) ?_;clear hc2 hm2 hke hk hmt hct
 refine aT (fun k:Nat=>aB 97 0 [(1, .int .i64 m),(4, .ptr nx0 .leaf 0 0),(8, .nilIface),(10,cgs ox nt.cs),(62, .sl .leaf vo (vs.map fun v=> .ptr v (.agg 4) 0 0)),(63, .int .i64 vs.length),(64, .int .i64 k)])
  (fun k hp nx1=>k≤vs.length∧nx2≤nx1∧Fr n0 (tb::vs) B hp∧hp nx0=some (.arr .leaf [.ptr wb (.agg 4) 0 0])∧WI n0 hp nx1 wb nb tb vo vs P wv lc ot rows (sV S T' V' m k) (kF k Q m nt))
  (fun k=>vs.length-k) 0 ⟨KH _,ZN,hF2,b2,?_⟩ (by simp only[WkL,aB,jH,jI,jJ,go_sem,reduceIte,jA,jB,jC,jD,reduceCtorEq,jE,jF]) ?_
 ·rw[zq,show sV S T' V' m 0=gU S 0 T' from if_neg or];exact H2.aBP (fun _ _=>rfl) (hd2.up ZN)
 rintro k hp nx1 ⟨hk,hnx,hfr,p0,HK⟩;generalize hQ:bO _ _ _ _ _=Q0;simp only[aB,go_sem,reduceIte,jA,jB,jC,jD,reduceCtorEq,jE,jF];rcases KG k vs.length with hlt|hge;case inr=>
  have hc1:decide ((k:Int)<(vs.length:Int))=false:=dcf;refine aue hc1 ?_;rw[←hQ];refine au ?_;have hkv:k=vs.length:=or;subst hkv;rw[show sV S T' V' m vs.length=gU (gU S 0 T') (m+1) V' from if_pos hm] at HK;exact aG hp (Kd _) (hPo hp _ ZN hfr he (HK.aBP (fun _ _=>rfl) (HK.dom.up ZN)))
 have hc1:decide ((k:Int)<(vs.length:Int))=true:=dct;have hw1:IntKind.i64.wrap ((k:Int)+1)=((k+1:Nat):Int):=wrp;have hg:(vs.map fun v=>V.ptr v (.agg 4) 0 0).getD k (.tup [])= .ptr vs[k] (.agg 4) 0 0:=dQ (fun v=>V.ptr v (.agg 4) 0 0) _ vs k hlt;obtain⟨q',c',hw',hq',hl'⟩:=HK.q;have d1:=hw'.cell;have d2:=hw'.mp;have l1:wb<nx1:=HK.dom _ _ d1;have l2:nb<nx1:=HK.dom _ _ d2;have l3:nx0<nx1:=HK.dom _ _ p0;by_cases hkm:k=m;case pos=>
  subst hkm;have g1:((k:Int) != (k:Int))=false:=bnf;obtain⟨mv,hmv,hcv⟩:=HK.v k hlt;rw[show sV S T' V' k k=gU S 0 T' from if_neg or,show gU S 0 T' (k+1)=S (k+1) from if_neg or] at hcv;refine aue (e6 hc1 hw1 hg hlt g1 (@jK Nat V)) ?_;refine bX ((xD ox nt.cs hcs _ _ (hok (k+1)) P _ _ vs[k] mv _ _ (dmo HK.dom) hcv).mono ?_);rintro v h5 nx5 aS8 ⟨rfl,⟨m5,hc5,hm5⟩,hk5,_,hd5,_⟩;have hv5:=iE (bQ P (S (k+1)).1 (S (k+1)).2 nt.cs).1;rw[decide_eq_true hap] at hv5;try dsimp only at aS8 hk5 hm5
  unfold eI;refine Zn ?_;refine aue (e2 hv5 hw1) ?_;rw[←hQ];have hxv:vs[k]∈tb::vs:=KB _ (Kk hlt);refine aF (k+1) or ⟨hlt,by first|omega|(dsimp only at aS8⊢;omega),hfr.trans ⟨fun x hx=>?_,fun x kk es hx he=>?_⟩,?_,?_⟩ (by simp only[WkL,aB,jH,jI,jJ,go_sem,reduceIte,jA,jB,jC,jD,reduceCtorEq,jE,jF])
  ·have:=HK.lo.2 _ hxv;have:=HK.dom _ _ hcv.cell;exact hk5 x or or
  ·exact hk5 x (HK.dom _ _ he) (fun e=>hx (e▸hxv))
  ·rw[hk5 nx0 l3 (hbv k hlt)];exact p0
  rw[gp,show sV S T' V' k (k+1)=gU (gU S 0 T') (k+1) V' from if_pos or];rw[show sV S T' V' k k=gU S 0 T' from if_neg or] at HK;rw[hV'];exact(HK.apply (k+1) (by simpa using hlt) hk5 hd5 hm5 hmv hc5).aBP (fun _ _=>rfl) (hd5.up ZN)
 have g1:((k:Int) != (m:Int))=true:=bnt;have hf:fC (.plain (.agg 2) [.int, .int]) (.agg [.int .i64 m, .int .i64 k]) (q'.map Kc)=some (eT q' m k):=sE m k q';have hg2:=mw q' m k;have hqe:kF k Q m nt m k=Q m k:=by unfold kF;rw[if_neg or]
 have hxl:(cgs ox nt.cs).aAD=true:=rfl
 have aC8:∀(H2:Hp) (nx3 c3:Nat),nx1+18≤nx3→aK H2 nx3→H2 (nx1+17)=some .tip→H2 nb=some (.mp ((lQ q' c' m k (.tok (nx1+17)) (ox,nt)).map Kc) c3)→(∀y,y<nx1→y≠nb→(∀z∈q',z.at' m k=true→z.o≠ .tok y)→H2 y=hp y)→
  k+1≤vs.length∧nx2≤nx3∧Fr n0 (tb::vs) B H2∧H2 nx0=some (.arr .leaf [.ptr wb (.agg 4) 0 0])∧WI n0 H2 nx3 wb nb tb vo vs P wv lc ot rows (sV S T' V' m (k+1)) (kF (k+1) Q m nt):=fun H2 nx3 c3 h1 h3 h4 h5 h6=>by
  have tok:∀z∈q',∀y,z.o= .tok y→n0≤y∧hp y=some .tip:=fun z hz y e=>by
   obtain⟨b,x1,x2,x3⟩:=hq'.tk z hz;rw[x1] at e;injection e with e;rw[←e];exact⟨x2,x3⟩
  have aJg:∀y kk es,hp y=some (.arr kk es)→H2 y=hp y:=fun y kk es he=>h6 y (HK.dom _ _ he) (rP he d2) fun z hz _ e=>by rw[(tok z hz y e).2] at he;cases he
  refine⟨hlt,or,hfr.trans ⟨fun x hx=>?_,fun x kk es _ he=>aJg x kk es he⟩,by rw[aJg _ _ _ p0];exact p0,?_⟩
  ·have:=HK.lo.1;exact h6 x or or fun z hz _ e=>by have:=(tok z hz x e).1;omega
  have:=HK.push hw' hq' hl' h6 or h4 or h5 h3;rw[hqe] at this;rw[zr Q m k nt hkm,ur S T' V' hkm];exact this
 cases hfi:eT q' m k with
 |none=>
  have aAR:=vj hfi c' (.tok (nx1+17)) (ox,nt);have hno:∀z∈q',¬z.at' m k=true:=fun z hz=>by
   have:=List.findIdx?_eq_none_iff.1 hfi z hz;unfold QE.at';rw[this];simp
  rw[hfi] at hf hg2;rw[vV hfi] at hg2;refine aue (BV hc1 hw1 hg hlt g1 (@jK Nat V) p0 d1 d2 l1 l2 l3 hf (e2 hg2 hxl)) ?_;refine db (c:=c') (es:=q'.map Kc) rfl rfl (by simp only[Ka];rw[if_neg or,if_neg or];exact d2) hf (fun jj e=>by cases e) (fun _=>?_);refine Zn ?_;refine aue hw1 ?_;rw[←hQ];exact aF (k+1) or (aC8 _ _ _ ZN (dmo HK.dom) (by simp only[Ka];rw[if_neg or];simp) (by simp only[Ka,if_true];exact congrArg (fun e=>some (Blk.mp e _)) aAR) (fun y hy hne _=>by simp only[Ka];rw[if_neg hne,if_neg or,if_neg or])) (by simp only[WkL,aB,jH,jI,jJ,go_sem,reduceIte,jA,jB,jC,jD,reduceCtorEq,jE,jF])
 |some j=>
  have aAR:=vh hfi c' (.tok (nx1+17)) (ox,nt);rw[qV,Kv] at aAR;rw[hfi] at hf hg2;obtain⟨hkl,hka⟩:=vW hfi;rw[vU hfi] at hg2;have hxm:q'.getD j default∈q':=by rw[Kf,Ky hkl];exact Kk hkl
  obtain⟨b,hb1,hb0,hb2⟩:=hq'.tk _ hxm;rw[hb1] at hg2;obtain⟨es,hes⟩:∃es,es=(dH q' m k).map zA:=⟨_,rfl⟩;have hg2:qF false (.sl .leaf .nil []) (q'.map Kc) (some j)= .sl .leaf (.tok b) es:=by rw[hes];exact hg2
  have hel:es.length≤1000:=by rw[hes,jK,←jK (f:=KD),hl',hqe];exact Nat.le_of_lt (hql m k)
  have aUG:(es.length+1)*24≤140737488355328:=or;have hbn:=HK.dom _ _ hb2;have hco:∀aAP aAL,kG hp nx1 aAP aAL [none,none,none,none,none,none,none,none,none,none,none,none,none,none,none,none,none] b .tip:=fun _ _=>oP hbn hb2 (by simp[cU]);refine aue (BV hc1 hw1 hg hlt g1 (@jK Nat V) p0 d1 d2 l1 l2 l3 hf (e4 hg2 hxl aUG hco)) ?_;have aT2:nb≠b:=uq d2 hb2;refine db (c:=c') (es:=q'.map Kc) rfl rfl (by simp only[Ka,Ke];rw[if_neg aT2,if_neg or,if_neg or];exact d2) hf (fun jj e=>?_) (fun e=>by cases e);injection e with e;subst e;refine Zn ?_;refine aue hw1 ?_;rw[←hQ];exact aF (k+1) or (aC8 _ _ _ ZN (dmo HK.dom) (by simp only[Ka,Ke];rw[if_neg or,if_neg or];simp) (by simp only[Ka,if_true];exact congrArg (fun e=>some (Blk.mp e _)) (by rw[hes];exact aAR)) (fun y hy hne hz=>by
   have hyb:y≠b:=fun e=>hz _ hxm hka (by rw[hb1,e]);simp only[Ka,Ke];rw[if_neg hne,if_neg hyb,if_neg or,if_neg or])) (by simp only[WkL,aB,jH,jI,jJ,go_sem,reduceIte,jA,jB,jC,jD,reduceCtorEq,jE,jF])
set_option maxRecDepth 100000 in
set_option maxHeartbeats 8000000 in
theorem Ee{n0:Nat}{h':Hp}{nx wb nb tb:Nat}{vo:Own}{vs:List Nat}{P:Int}{wv lc:V}{ot:Own}{rows:List V}{S:Nat→CS}{Q:Int→Int→List Nt}(H:WI n0 h' nx wb nb tb vo vs P wv lc ot rows S Q)
 (T:Nat→Nat→List Pa) (n:Nat) (hT:AW T n rows) (hlen:∀a b,(T a b).length≤1000) (i:Int) (nt:Nt) (o:Own) (aT6:nt.made.length≤1000) (hok:∀k,fK (S k).1 (S k).2) (hn0:n0≤nx) (hql:∀a b,(Q a b).length<1000) (hvs:vs.length≤17)
 (hap:(bQ P (S 0).1 (S 0).2 nt.cs).1=0→doE vs.length P (S 0) T n i nt=0→(bQ P (S (i.toNat+1)).1 (S (i.toNat+1)).2 nt.cs).1=0):
 bD Tryz.prog 11 [.ptr wb (.agg 4) 0 0, .int .i64 i,nt.aAz.v, .sl (.agg 3) o (nt.made.map Sp.v)] h' nx fun v h'' nx2=>nx≤nx2∧Fr n0 (tb::vs) h' h''∧v=eF (doE vs.length P (S 0) T n i nt)∧
  ((doE vs.length P (S 0) T n i nt≠0∧WI n0 h'' nx2 wb nb tb vo vs P wv lc ot rows S Q)∨
   (doE vs.length P (S 0) T n i nt=0∧WI n0 h'' nx2 wb nb tb vo vs P wv lc ot rows (gU (gU S 0 (bQ P (S 0).1 (S 0).2 nt.cs).2) (i.toNat+1) (bQ P (S (i.toNat+1)).1 (S (i.toNat+1)).2 nt.cs).2) (kF vs.length Q i nt))):=by
 refine aD L.g4z fun hd=>?_;simp only[jL,jM,jA,jB,jN,jO,jP,jQ,Kb];have hd:aK h' nx:=hd;have htf:=Sp.aAC nt.aAz;have htv:nt.aAz.v= .agg [.int .i64 nt.aAz.p, .int .i64 nt.aAz.t.e, .int .i64 nt.aAz.t.r]:=rfl;rw[htv] at htf⊢;refine aue htf ?_;obtain⟨A,hA⟩:∃A,A=(h'.set nx (.arr .leaf [.ptr wb (.agg 4) 0 0])).set (nx+1) (.arr (.agg 3) [.agg [.int .i64 nt.aAz.p, .int .i64 nt.aAz.t.e, .int .i64 nt.aAz.t.r]]):=⟨_,rfl⟩;rw[←hA];have a0:A nx=some (.arr .leaf [.ptr wb (.agg 4) 0 0]):=by rw[hA];simp only[Ka];rw[if_neg or];simp
 have a1:A (nx+1)=some (.arr (.agg 3) [.agg [.int .i64 nt.aAz.p, .int .i64 nt.aAz.t.e, .int .i64 nt.aAz.t.r]]):=by rw[hA];simp only[Ka,if_true]
 have hkA:∀x,x<nx→A x=h' x:=fun x hx=>by rw[hA];simp only[Ka];rw[if_neg or,if_neg or]
 have hdA:aK A (nx+2):=by rw[hA];exact dmo hd
 have HA:WI n0 A (nx+2) wb nb tb vo vs P wv lc ot rows S Q:=H.aBP hkA hdA;have hfA:Fr n0 (tb::vs) h' A:=Fr.of hd hn0 hkA;clear hA;obtain⟨q,c,hw,hq,hl⟩:=HA.q;obtain⟨mt,hmt,hct⟩:=HA.t;have c1:=hw.cell;have n1:wb<nx+2:=hdA _ _ c1;have C5:=nJ hw i
 have aBY:∀(e:Int) (nx2:Nat),nx+2≤nx2→doE vs.length P (S 0) T n i nt=e→e≠0→nx≤nx2∧Fr n0 (tb::vs) h' A∧eF e=eF (doE vs.length P (S 0) T n i nt)∧
  ((doE vs.length P (S 0) T n i nt≠0∧WI n0 A nx2 wb nb tb vo vs P wv lc ot rows S Q)∨
   (doE vs.length P (S 0) T n i nt=0∧WI n0 A nx2 wb nb tb vo vs P wv lc ot rows (gU (gU S 0 (bQ P (S 0).1 (S 0).2 nt.cs).2) (i.toNat+1) (bQ P (S (i.toNat+1)).1 (S (i.toNat+1)).2 nt.cs).2) (kF vs.length Q i nt))):=fun e nx2 hx he h0=>
  ⟨or,hfA,by rw[he], .inl ⟨by rw[he];exact h0,HA.aBP (fun _ _=>rfl) (hdA.up hx)⟩⟩
 by_cases hi:0≤i∧i<vs.length;case neg=>
  have g1:(decide (0≤i)&&decide (i<vs.length))=false:=by rw[←Kh];exact decide_eq_false hi
  rw[g1] at C5;refine au ?_;exact aG A (Kd _) (aBY 1 _ ZN (by unfold doE;rw[if_pos hi]) ZM)
 have g1:(decide (0≤i)&&decide (i<vs.length))=true:=by rw[←Kh];exact decide_eq_true hi
 rw[g1] at C5;have z1:nx<nx+2:=or;have z2:nx+1<nx+2:=or;refine aue (e6 c1 n1 a0 a1 z1 z2) ?_;refine bJ (BL nt.aAz hct) rfl (aU _) ?_;refine Zn ?_;by_cases hg:dT (S 0).1 nt.aAz<1;case pos=>
  have g2:decide (dT (S 0).1 nt.aAz<1)=true:=decide_eq_true hg;refine aue g2 ?_;exact aG A (Kd _) (aBY 13 _ ZN (by unfold doE;rw[if_neg (fun h=>h hi),if_pos hg]) ZM)
 have g2:decide (dT (S 0).1 nt.aAz<1)=false:=decide_eq_false hg;have C6:aX Tryz.prog 44 [.sl (.agg 3) o (nt.made.map Sp.v), .fn (.func 41) [] [.ptr nx .leaf 0 0, .ptr (nx+1) (.agg 3) 0 0]] A (.bool (nt.made.any (fun u=> !mkB T n nt.aAz u))):=
  dR Sp.v Sp.aAC sS yA (fun u=> !mkB T n nt.aAz u) o nt.made _ [.ptr nx .leaf 0 0, .ptr (nx+1) (.agg 3) 0 0] _ (fun u _=>gj hw T n hT hlen nt.aAz u a0 a1) or
 cases aBW:nt.made.any (fun u=> !mkB T n nt.aAz u) with
 |true=>
  rw[aBW] at C6;refine aue g2 ?_;exact aG A (Kd _) (aBY 2 _ ZN (by unfold doE;rw[if_neg (fun h=>h hi),if_neg hg,if_pos aBW]) ZM)
 |false=>
 rw[aBW] at C6;have hE:doE vs.length P (S 0) T n i nt=(bQ P (S 0).1 (S 0).2 nt.cs).1:=by unfold doE;rw[if_neg (fun h=>h hi),if_neg hg,if_neg (by rw[aBW];simp)]
 have C5:=Aw hw i or (fun j=>by have:=hql i j;rw[←hl,jK] at this;exact this);generalize hD:bF.draw 7 L.aGy L.aE7=DR;refine aue (e3 g2 a0 z1) ?_;generalize hC:pB (lwp Tryz.prog _) (iU _ _)=QC;obtain⟨m,rfl⟩:∃m:Nat,i=m:=⟨i.toNat,or⟩;have hm:m<vs.length:=or;have hcl:nt.cs.length≤100000:=by rw[Nt.aDl];omega
 have aBr:∀(ox:Own) (C:Hp) (nxC:Nat) (sl:List V),nx+2≤nxC→aK C nxC→(∀x,x<nx+2→C x=A x)→WkL sl (aB 97 0 [(1, .int .i64 m),(4, .ptr nx .leaf 0 0),(8, .nilIface),(10,cgs ox nt.cs)])→QC .normal ⟨sl,C,nxC⟩:=fun ox C nxC sl hx hdC hkC hsl=>by
  have hfC:Fr n0 (tb::vs) A C:=Fr.of hdA or hkC;rw[←hC];refine kK ⟨_,C,nxC⟩ ⟨hsl,Kd _,Kt _⟩ ?_;refine CP (HA.aBP hkC hdC) m hm nt ox nx (by rw[hkC _ or];exact a0) hcl hok or hql hvs _ (fun h0=>hap h0 (by rw[hE];exact h0)) (fun h2 nx2 hx2 hf2 h0 hW=>⟨or,(hfA.trans hfC).trans hf2,by rw[hE], .inl ⟨by rw[hE];exact h0,hW⟩⟩) (fun h2 nx2 hx2 hf2 h0 hW=>⟨or,(hfA.trans hfC).trans hf2,by rw[hE,h0], .inr ⟨by rw[hE];exact h0,?_⟩⟩);rw[jG];exact hW
 clear hC;rw[←hD];clear hD;have hcm:=DA nt;have hl1:(cJ nt.made 1).length=nt.made.length:=by simp[cJ]
 have hl2:(nt.made.length+1)*32≤140737488355328:=or;rcases List.eq_nil_or_concat nt.made with hm0|⟨_,_,hm0⟩
 ·have hcm:nt.cs.map Cg.v=[.agg [.int .i64 nt.aAz.p, .int .i64 nt.aAz.t.e, .int .i64 nt.aAz.t.r, .int .i64 (-1)]]:=by rw[←hcm,hm0];rfl
  refine aue trivial ?_;refine bJ (tx o 1 _) (by rw[hm0];rfl) (aU _) ?_;refine Zn ?_;refine aue (e4 a1 z2 htf hcm) ?_;exact aBr (.tok (nx+15)) _ _ _ or (dmo hdA) (fun x hx=>by simp only[Ka];repeat rw[if_neg or]) (by simp only[WkL,aB,jH,jI,jJ,cgs,hcm,go_sem,reduceIte,jA,jB,jC,jD,reduceCtorEq,jE,jF])
 refine aue trivial ?_;refine xj (ic o nt.made 1 or (by rw[hm0];simp) _) rfl (aU _) ?_;refine Zn ?_;have ca1:kG A (nx+10) [0,1,2,3,4] [none,some .tip,none,none,some .tip] [none,none,none,none,none] (nx+11) .tip:=⟨by simp[cU], .inr ⟨1,Zm,rfl,rfl⟩⟩;refine aue (e7 a1 z2 htf hcm hl1 hl2 ca1) ?_;exact aBr (.tok (nx+15)) _ _ _ or (dmo hdA) (fun x hx=>by simp only[Ka,Ke];repeat rw[if_neg or]) (by simp only[WkL,aB,jH,jI,jJ,cgs,go_sem,reduceIte,jA,jB,jC,jD,reduceCtorEq,jE,jF])
end Go.Proofs.YtecepaehmojpgaaGreat
namespace Go.Proofs.YtecepaehmojpgaaGreat
open Go.RowKit Go.Sort
def aS:Sp:=⟨0,⟨1,0⟩⟩
def bS:Sp:=⟨1,⟨1,0⟩⟩
def aN:Nt:=⟨aS,[bS]⟩
def aC:CS:=([⟨aS,1,0⟩],1)
def bC:CS:=([⟨bS,1,1⟩],2)
theorem kw:bQ 2 [] 0 (cJ [aS] 1)=(0,aC):=ZM
theorem mM:bQ 2 aC.1 aC.2 aN.cs=(0,bC):=ZM
theorem Ce:fK aC.1 aC.2:=⟨ZM,ZM,ZM,ZM⟩
theorem Dg:fK bC.1 bC.2:=⟨ZM,ZM,ZM,ZM⟩
theorem Dm:mkB (dB jZ) 2 aS bS=true:=by
 unfold mkB pW;rw[show aS.p.toNat=0 from rfl,show bS.p.toNat=1 from rfl,jh];decide
theorem Cy:doE 2 2 aC (dB jZ) 2 0 aN=0:=by
 unfold doE;rw[if_neg ZM,if_neg ZM,if_neg,show bQ 2 aC.1 aC.2 aN.cs=(0,bC) from mM];rw[show aN.made.any (fun u=> !mkB (dB jZ) 2 aN.aAz u)=(!mkB (dB jZ) 2 aS bS||false) from rfl,Dm];decide
theorem oz{b:Nat}{w:List We}(h:iK jZ 1 w b):w=[]∧b=1:=by
 cases w with
 |nil=>exact⟨rfl,(show 1=b from h).symm⟩
 |cons x w=>
  obtain⟨h1,h2,_⟩:=h;simp[jZ] at h1;subst h1;cases h2
theorem vw:dB jZ 1 1=[Pa.aAO]:=
 oJ ⟨by simp[Can],(fun p hp=>by simp at hp;subst hp;exact⟨[],rfl,rfl⟩),fun p ⟨l,h1,h2⟩=>⟨Pa.aAO,Zm,by
  have h3:=(oz h1).1;subst h3;have h2:some Pa.aAO=some p:=h2;injection h2 with h2;rw[←h2];decide⟩⟩
theorem v6:dB jZ 1 0=[]:=
 oJ ⟨by simp[Can],(fun p hp=>by cases hp),fun p ⟨l,h1,h2⟩=>by have:=(oz h1).2;omega⟩
theorem xd{T:Nat→Nat→List Pa}{b:Nat}{s:Sp}{l:List Pa}(h:T s.p.toNat b=l):frT T b [s]=kA s.t l:=by
 unfold frT;rw[List.flatMap_cons,List.flatMap_nil,List.append_nil,h]
theorem Eh:nY aC.1=[aS]:=ZM
theorem Eg:nY bC.1=[bS]:=ZM
theorem CM:ofT (frT (dB jZ) 1 [aS])=[⟨1,0⟩]:=by
 rw[xd jh,show kA aS.t [Pa.aAO]=[⟨1,0⟩] from by decide,xX];decide
theorem CL:ofT (frT (dB jZ) 1 [bS])=[⟨1,0⟩]:=by
 rw[xd vw,show kA bS.t [Pa.aAO]=[⟨1,0⟩] from by decide,xX];decide
theorem BP:ofT (frT (dB jZ) 0 [bS])=[]:=by
 rw[xd v6,show kA bS.t []=[] from rfl,xX];decide
attribute [local irreducible] Kp
structure RG(F:List (Nat×Nat×V))(fix:List (Nat×V))(n:Nat)(D:Nat→Bool)(sl:List V):Prop where
 len:sl.length=n
 fx:∀p∈fix,sl.getD p.1 Kb=p.2
 dn:∀f∈F,D f.1=true→sl.getD f.2.1 Kb=f.2.2
theorem RG.slot{F:List (Nat×Nat×V)}{fix:List (Nat×V)}{n:Nat}{D:Nat→Bool}{sl:List V}(r:RG F fix n D sl)(i t:Nat)(v:V)(ht:t<n)(hF:∀f∈F,(f.1=i∨f.2.1=t)→f=(i,t,v))(hx:∀p∈fix,p.1≠t):
 RG F fix n (fun j=>if j=i then true else D j) (sl.set t v):=by
 obtain⟨len,fx,dn⟩:=r;refine⟨by rw[Ko];exact len,fun p hp=>?_,fun f hf hd=>?_⟩
 ·rw[gsl,if_neg (fun e=>hx p hp e.1.symm)];exact fx p hp
 rw[gsl];by_cases e:t=f.2.1
 ·have:=hF f hf (.inr e.symm);subst this;rw[if_pos ⟨rfl,by rw[len];exact ht⟩]
 rw[if_neg (fun k=>e k.1)];by_cases e2:f.1=i
 ·have:=hF f hf (.inl e2);subst this;exact absurd rfl e
 rw[if_neg e2] at hd;exact dn f hf hd
theorem RG.none{F:List (Nat×Nat×V)}{fix:List (Nat×V)}{n:Nat}{D:Nat→Bool}{sl:List V}(r:RG F fix n D sl)(i:Nat)(hF:∀f∈F,f.1≠i):RG F fix n (fun j=>if j=i then true else D j) sl:=
 ⟨r.len,r.fx,fun f hf hd=>r.dn f hf (by rwa [if_neg (hF f hf)] at hd)⟩
theorem WI.box{h h2:Hp}{n0 n1 nx nx2 wb nb tb:Nat}{vo:Own}{vs:List Nat}{P:Int}{wv lc:V}{ot:Own}{rows:List V}{S:Nat→CS}{Q:Int→Int→List Nt}(H:WI n0 h nx wb nb tb vo vs P wv lc ot rows S Q)(hk:∀x b,h x=some b→(∀es,b≠ .arr (.agg 3) es)→h2 x=h x)(hd:aK h2 nx2)(hn:n1≤n0):WI n1 h2 nx2 wb nb tb vo vs P wv lc ot rows S Q:=by
 obtain⟨q,c,hw,hq,hl⟩:=H.q;refine⟨⟨q,c,⟨?_,?_⟩,⟨fun x hx=>?_,hq.td,hq.key,hq.ne⟩,hl⟩,hd,fun i hi=>?_,H.d,Kz hn H.lo.1,fun x hx=>Kz hn (H.lo.2 x hx)⟩
 ·rw[hk _ _ hw.cell (fun _ e=>by injection e with e;cases e)];exact hw.cell
 ·rw[hk _ _ hw.mp (fun _ e=>by cases e)];exact hw.mp
 ·obtain⟨b,h1,h0,h3⟩:=hq.tk x hx;exact⟨b,h1,Kz hn h0,by rw[hk _ _ h3 (fun _ e=>by cases e)];exact h3⟩
 obtain⟨m,hm,hc⟩:=H.c i hi;exact⟨m,hm,by rw[hk _ _ hc.cell (fun _ e=>by injection e with e;cases e)];exact hc.cell,by rw[hk _ _ hc.mp (fun _ e=>by cases e)];exact hc.mp,hc.wf,hc.lf⟩
def yP(wb:Nat):List (Nat×Nat×V):=[(0,27, .ptr wb (.agg 4) 0 0),(1,28,aS.v),(2,29,bS.v),(3,30, .nilIface),(4,31, .bool true),(5,32, .bool true),(6,33, .nilIface),(7,34, .bool true),(8,35, .bool true),(9,36, .bool true),(10,37, .ptr wb (.agg 4) 0 0),(11,38, .bool true),(12,39, .bool true),(13,0, .ptr wb (.agg 4) 0 0),(16,3, .bool true)]
def rO(wb c1 c2 c6 c7:Nat):List (Nat×V):=[(1, .ptr c1 (.agg 3) 0 0),(2, .ptr c2 (.agg 3) 0 0),(5, .nilIface),(6, .ptr c6 (.agg 3) 0 0),(7, .ptr c7 (.agg 3) 0 0),(8, .ptr wb (.agg 4) 0 0),(9, .nilIface)]
def iq:Sp:=⟨0,⟨0,0⟩⟩
structure RB(M:Hp)(wb c1 c2 c6 c7 nx:Nat)(D:Nat→Bool)(s:St):Prop where
 sl:RG (yP wb) (rO wb c1 c2 c6 c7) 40 D s.sl
 h1:s.h c1=some (.arr (.agg 3) [if D 14=true then aS.v else iq.v])
 h2:s.h c2=some (.arr (.agg 3) [if D 15=true then bS.v else iq.v])
 ho:∀x,x≠c1→x≠c2→s.h x=M x
 nn:nx≤s.nx
theorem RB.slot{M:Hp}{wb c1 c2 c6 c7 nx:Nat}{D:Nat→Bool}{sl:List V}{h:Hp}{n:Nat}(r:RB M wb c1 c2 c6 c7 nx D ⟨sl,h,n⟩)(i t:Nat)(v:V)(ht:t<40)(hF:∀f∈yP wb,(f.1=i∨f.2.1=t)→f=(i,t,v))(hx:∀p∈rO wb c1 c2 c6 c7,p.1≠t)(h14:i≠14)(h15:i≠15):
 RB M wb c1 c2 c6 c7 nx (fun j=>if j=i then true else D j) ⟨sl.set t v,h,n⟩:=
 ⟨r.sl.slot i t v ht hF hx,by rw[if_neg h14.symm];exact r.h1,by rw[if_neg h15.symm];exact r.h2,r.ho,r.nn⟩
set_option maxRecDepth 100000 in
set_option maxHeartbeats 8000000 in
theorem B9(h':Hp)(nx:Nat):bD Tryz.prog 34 [] h' nx fun v h'' nx2=>nx≤nx2∧aK h'' nx2∧(∀x,x<nx→h'' x=h' x)∧
 ∃wb nb tb vo vs o2 oc ot,v= .tup [.ptr wb (.agg 4) 0 0,aS.v,bS.v, .bool true]∧vs.length=2∧nx≤wb∧WI nx h'' nx2 wb nb tb vo vs 2 (wys o2 qX) (.sl .leaf oc (iR 2 jZ 2)) ot (iR 2 jZ 2) (fun _=>aC) (fun _ _=>[]):=by
 refine aD L.aWD fun hd=>?_;simp only[jL,jM,jA,jB,jN,jO,jP,jQ,Kb];have hd:aK h' nx:=hd;have aCe:∀o h,aX Tryz.prog 62 [.int .i64 2, .sl (.agg 4) o [.agg [.int .i64 0, .int .i64 1, .bool false, .int .i64 0]]] h (.tup [.agg [.int .i64 2, .sl (.agg 4) .free (qX.map Wy.v)], .nilIface]):=fun o h=>by
  have:=ra o 2 qX ZM h;rw[yi] at this;exact this
 have C1:=fun h=>aCe (.tok (nx+2)) h;refine au ?_;obtain⟨A,hA⟩:∃A,A=St.h ⟨[],h',0⟩:=⟨_,rfl⟩;clear hA A;generalize hH:Ka _ _ _=A;have a1:A nx=some (.arr (.agg 3) [iq.v]):=by rw[←hH];simp only[go_sem,reduceIte,jA,jB,jC,jD,reduceCtorEq,jE,jF];rfl
 have a2:A (nx+1)=some (.arr (.agg 3) [iq.v]):=by rw[←hH];simp only[go_sem,reduceIte,jA,jB,jC,jD,reduceCtorEq,jE,jF];rfl
 have a6:A (nx+5)=some (.arr (.agg 3) [aS.v]):=by rw[←hH];simp only[go_sem,reduceIte,jA,jB,jC,jD,reduceCtorEq,jE,jF];rfl
 have a7:A (nx+7)=some (.arr (.agg 3) [bS.v]):=by rw[←hH];simp only[go_sem,reduceIte,jA,jB,jC,jD,reduceCtorEq,jE,jF];rfl
 have hkA:∀x,x<nx→A x=h' x:=by rw[←hH];exact kep Hp.same.aBI
 clear hH;refine bX ((yz .free xW ZM Zm 2 or _ [aS] ZM _ _).mono ?_);rintro v M nxM aNS ⟨_,hdM,hkM,(⟨hne,_⟩|⟨_,wb,nb,tb,vo,vs,o2,oc,ot,rfl,hvs,hwb,hW⟩)⟩
 ·rw[kw] at hne;exact absurd rfl hne
 simp only[kw] at hW;try dsimp only at aNS hwb hkM
 unfold eI;refine Zn ?_;generalize hD:bF.draw 18 L.aFN L.aFM=DR;refine au ?_;rw[←hD];clear hD C1;have hlo:=hW.lo;have hM:∀x,x<nx+10→M x=A x:=hkM;refine sF ?_;refine⟨fun D s=>RB M wb nx (nx+1) (nx+5) (nx+7) nxM D s,⟨⟨rfl,?_,fun f _ e=>by cases e⟩,?_,?_,fun _ _ _=>rfl,by first|exact Kt _|(dsimp only;omega)⟩,?_,?_⟩
 ·intro p hp;simp only[rO,Km,Ku,or_false] at hp;rcases hp with rfl|rfl|rfl|rfl|rfl|rfl|rfl<;>rfl
 ·dsimp only;rw[hM nx or];exact a1
 ·dsimp only;rw[hM (nx+1) or];exact a2
 ·rintro D i oo aAP ⟨sl,hq,n2⟩ hi hDi aAX hcl r;have x1:=r.sl.fx (1, .ptr nx (.agg 3) 0 0) (by simp[rO]);have x2:=r.sl.fx (2, .ptr (nx+1) (.agg 3) 0 0) (by simp[rO]);have x5:=r.sl.fx (5, .nilIface) (by simp[rO]);have x6:=r.sl.fx (6, .ptr (nx+5) (.agg 3) 0 0) (by simp[rO]);have x7:=r.sl.fx (7, .ptr (nx+7) (.agg 3) 0 0) (by simp[rO]);have x8:=r.sl.fx (8, .ptr wb (.agg 4) 0 0) (by simp[rO]);have x9:=r.sl.fx (9, .nilIface) (by simp[rO]);have y:∀f∈yP wb,f.1∈aAP→sl.getD f.2.1 Kb=f.2.2:=fun f hf hd=>r.sl.dn f hf (aAX _ hd);have h6:hq (nx+5)=some (.arr (.agg 3) [aS.v]):=by
   have:=r.ho (nx+5) or or;dsimp only at this;rw[this,hM _ or];exact a6
  have h7:hq (nx+7)=some (.arr (.agg 3) [bS.v]):=by
   have:=r.ho (nx+7) or or;dsimp only at this;rw[this,hM _ or];exact a7
  have r1:=r.h1;have r2:=r.h2;dsimp only at x1 x2 x5 x6 x7 x8 x9 r1 r2;have fin:=fun(i t:Nat) (v:V) (ht:t<40) (hF:∀f∈yP wb,(f.1=i∨f.2.1=t)→f=(i,t,v)) (hx:∀p∈rO wb nx (nx+1) (nx+5) (nx+7),p.1≠t) (h14:i≠14) (h15:i≠15)=>r.slot i t v ht hF hx h14 h15;rcases i with _|_|_|_|_|_|_|_|_|_|_|_|_|_|_|_|_|i;all_goals first|(injection hi with hi;injection hi with q1 q2;subst q1;subst q2)|skip
  all_goals simp only[yP,Km,Ku,or_false,forall_eq_or_imp,forall_eq,jE,reduceCtorEq,false_implies,implies_true,true_or,or_true,true_implies,and_true,true_and] at y
  all_goals simp only[bB,LOp.run,LOp.sem,bL.sem,aO.ev,bN,x1,x2,x5,x6,x7,x8,x9,y,h6,h7,veq,V.pick]
  all_goals try (first
   |exact fin _ _ _ ZM (by simp[yP]) (by simp[rO]) ZM ZM
   |(rw[if_pos trivial];exact fin _ _ _ ZM (by simp[yP]) (by simp[rO]) ZM ZM)
   |exact⟨trivial,Zm,by simp[cR],fin 1 28 aS.v ZM (by simp[yP]) (by simp[rO]) ZM ZM⟩
   |exact⟨trivial,Zm,by simp[cR],fin 2 29 bS.v ZM (by simp[yP]) (by simp[rO]) ZM ZM⟩)
  ·rw[if_neg (by rw[hDi];simp)] at r1;rw[r1];refine⟨rfl,Zm,by simp[cR],Sp.aAC aS,r.sl.none 14 (by simp[yP]),?_,?_,fun x q1 q2=>?_,Ks r.nn⟩
   ·simp only[Ka,if_true,Kw,KE];rw[cG (Sp.aAC iq) (Sp.aAC aS)]
   ·simp only[Ka];rw[if_neg or];exact r2
   simp only[Ka];rw[if_neg q1];exact r.ho x q1 q2
  ·rw[if_neg (by rw[hDi];simp)] at r2;rw[r2];refine⟨rfl,Zm,by simp[cR],Sp.aAC bS,r.sl.none 15 (by simp[yP]),?_,?_,fun x q1 q2=>?_,Ks r.nn⟩
   ·simp only[Ka];rw[if_neg or];exact r1
   ·simp only[Ka,if_true,Kw,KE];rw[cG (Sp.aAC iq) (Sp.aAC bS)]
   simp only[Ka];rw[if_neg q2];exact r.ho x q1 q2
  simp[L.aFN] at hi
 rintro D ⟨sl,H,n2⟩ hD r;have d:=fun i (h:i<17)=>hD i h;have x0:=r.sl.dn (13,0, .ptr wb (.agg 4) 0 0) (by simp[yP]) (d 13 or);have x3:=r.sl.dn (16,3, .bool true) (by simp[yP]) (d 16 or);have x1:=r.sl.fx (1, .ptr nx (.agg 3) 0 0) (by simp[rO]);have x2:=r.sl.fx (2, .ptr (nx+1) (.agg 3) 0 0) (by simp[rO]);have r1:=r.h1;have r2:=r.h2;have ho:=r.ho;have hn:=r.nn;rw[if_pos (d 14 or)] at r1;rw[if_pos (d 15 or)] at r2;dsimp only at x0 x1 x2 x3 r1 r2 ho hn;refine eN ?_;refine aM ?_;refine bT ?_;simp only[iU,pD,rS.sem,bL.sem,aO.ev,x0,x1,x2,x3,r1,r2];have hdH:aK H n2:=fun x b hx=>by
  by_cases q1:x=nx
  ·omega
  by_cases q2:x=nx+1
  ·omega
  rw[ho x q1 q2] at hx;have:=hdM x b hx;omega
 refine⟨trivial,Zm,by simp[cR],trivial,Zm,by simp[cR],H,Kd _,or,hdH,fun x hx=>?_,wb,nb,tb,vo,vs,o2,oc,ot,rfl,hvs,or,?_⟩
 ·rw[ho x or or,hM x or];exact hkA x hx
 refine hW.box (fun x b hx hb=>?_) hdH or;refine ho x (fun e=>?_) (fun e=>?_)
 ·rw[e,hM nx or,a1] at hx;injection hx with hx;exact hb _ hx.symm
 rw[e,hM _ or,a2] at hx;injection hx with hx;exact hb _ hx.symm
end Go.Proofs.YtecepaehmojpgaaGreat
namespace Go.Proofs.YtecepaehmojpgaaGreat
open Go.RowKit Go.Sort
attribute [local irreducible] Kp
section
variable{h:Hp}{n0 nx wb nb tb:Nat}{vo:Own}{vs:List Nat}{P:Int}{wv lc:V}{ot:Own}{rows:List V}{S:Nat→CS}{Q:Int→Int→List Nt}
theorem WI.waiting(H:WI n0 h nx wb nb tb vo vs P wv lc ot rows S Q)(i j:Int):aX Tryz.prog 26 [.ptr wb (.agg 4) 0 0, .int .i64 i, .int .i64 j] h (.int .i64 (Q i j).length):=by
 obtain⟨q,c,hw,hq,hl⟩:=H.q;have:=lw hw i j;rwa [show(dH q i j).length=(Q i j).length from by rw[←hl,jK]] at this
theorem WI.settled(H:WI n0 h nx wb nb tb vo vs P wv lc ot rows S Q)(he:∀i j,Q i j=[]):aX Tryz.prog 17 [.ptr wb (.agg 4) 0 0] h (.bool true):=by
 obtain⟨q,c,hw,hq,hl⟩:=H.q;have hq0:=Ei hq fun i j=>by have:=hl i j;rw[he] at this;exact KC.1 this
 have:=l9 hw;rwa [decide_eq_true hq0] at this
theorem WI.members(H:WI n0 h nx wb nb tb vo vs P wv lc ot rows S Q):aX Tryz.prog 18 [.ptr wb (.agg 4) 0 0] h (.int .i64 vs.length):=by
 obtain⟨q,c,hw,hq,hl⟩:=H.q;exact my hw
theorem xa(T:Nat→Nat→List Pa)(xs:List Sp)(k:Nat)(L:Nat→Prop):bP L (sT T xs k):=bE (fun b=>cP (fun L=>bE (Tm.aAM L) _) L) _
theorem WI.aHE{oc:Own}{ws:List Wy}{n:Nat}{l:List We}(H:WI n0 h nx wb nb tb vo vs P wv (.sl .leaf oc (iR n l n)) ot rows S Q)(R:nB P ws n l)(i:Nat)(hi:i<vs.length){K:Nat}(hst:StC P (S (i+1)).1 (S (i+1)).2 K)(hK:K≤900):
 aX Tryz.prog 20 [.ptr wb (.agg 4) 0 0, .int .i64 i] h (lst .leaf (sT (dB l) (nY (S (i+1)).1) n)):=by
 obtain⟨q,c,hw,hq,hl⟩:=H.q;obtain⟨m,hm,hc⟩:=H.v i hi;have hP:=R.pl;have hn:=R.le;refine lu hw i hi (fun h' hh=>?_) (xa _ _ _);exact sk (hc.has hh) hst.ok (by have:=hst.len;omega) (dB l) n hP (pi n l) (fun a b=>by have:=df l a b;omega) (fun y hy=>by have:=hst.right y hy;omega) or
end
theorem DP:StC 2 aC.1 aC.2 10:=⟨Ce,(fun y hy=>by rw[Kg.1 hy];exact(by decide:eB 1=false)),ZM,ZM⟩
theorem DO:StC 2 bC.1 bC.2 10:=⟨Dg,(fun y hy=>by rw[Kg.1 hy];exact(by decide:eB 1=false)),ZM,ZM⟩
theorem D9:∃F0:V,F0.aAD=true∧lst .leaf (sT (dB jZ) (nY aC.1) 2)= .sl .leaf .free [F0, .sl (.agg 2) .free [.agg [.int .i64 1, .int .i64 0]]]:=by
 refine⟨lst (.agg 2) ((ofT (frT (dB jZ) 0 [aS])).map Tm.v),jr ..,?_⟩;rw[Eh];show V.sl .leaf .free [_,lst (.agg 2) ((ofT (frT (dB jZ) 1 [aS])).map Tm.v)]=_;rw[CM];rfl
theorem D8:lst .leaf (sT (dB jZ) (nY bC.1) 2)= .sl .leaf .free [.sl (.agg 2) .nil [], .sl (.agg 2) .free [.agg [.int .i64 1, .int .i64 0]]]:=by
 rw[Eg];show V.sl .leaf .free [lst (.agg 2) ((ofT (frT (dB jZ) 0 [bS])).map Tm.v),lst (.agg 2) ((ofT (frT (dB jZ) 1 [bS])).map Tm.v)]=_;rw[CL,BP];rfl
set_option maxRecDepth 100000 in
set_option maxHeartbeats 8000000 in
theorem oe(h:Hp):aX Tryz.prog 7 [] h (.bool true):=by
 refine aP (fun L=>trivial) fun h' nx hh=>aD L.g1z fun hd=>?_;simp only[jL,jM,jA,jB,jN,jO,jP,jQ,Kb];refine au ?_;refine bX ((B9 h' _).mono ?_);rintro v M nxM aNS ⟨_,hdM,hkM,wb,nb,tb,vo,vs,o2,oc,ot,rfl,hvs,hwb,hW⟩;try dsimp only at aNS hkM hwb
 unfold eI;refine Zn ?_;have haf:=Sp.aAC aS;have hbf:=Sp.aAC bS;refine aue (e2 haf hbf) ?_;generalize hH:Ka _ _ _=A;have a3:A (nxM+1)=some (.arr (.agg 3) [bS.v]):=by rw[←hH];simp only[go_sem,reduceIte,jA,jB,jC,jD,reduceCtorEq,jE,jF]
 have hkA:∀x,x<nxM→A x=M x:=by rw[←hH];exact kep Hp.same.aBI
 have hdA:aK A (nxM+5):=by rw[←hH];exact dmo hdM
 clear hH;have HA:=hW.aBP hkA hdA;have hok:∀k:Nat,fK ((fun _:Nat=>aC) k).1 ((fun _:Nat=>aC) k).2:=fun _=>Ce;have hll:∀a b,(dB jZ a b).length≤1000:=fun a b=>by have:=df jZ a b;omega
 have hE:doE vs.length 2 aC (dB jZ) 2 0 aN=0:=by rw[hvs];exact Cy
 have hap:(bQ 2 aC.1 aC.2 aN.cs).1=0:=by rw[mM]
 refine bX ((Ee HA (dB jZ) 2 (pi 2 jZ) hll 0 aN _ ZM hok or (fun _ _=>Zm) or (fun _ _=>hap)).dom.mono ?_);rintro v D nxD aTx ⟨⟨_,hfr,rfl,(⟨h0,_⟩|⟨_,HD⟩)⟩,hdD,_⟩
 ·exact absurd hE h0
 try dsimp only at aTx
 rw[show(0:Int).toNat+1=1 from rfl] at HD;simp only[mM] at HD;rw[hE];have hb3:nxM+1∉tb::vs:=fun e=>by
  have hc:∀x∈tb::vs,∃c m,A x=some (.arr (.agg 4) [lM 2 c (.sl .leaf oc (iR 2 jZ 2)) m]):=fun x hx=>by
   obtain⟨k,hk,rfl⟩:=Kj.1 hx;obtain⟨m,_,hc⟩:=HA.c k hk;exact⟨_,_,hc.cell⟩
  obtain⟨c,m,hc⟩:=hc _ e;rw[a3] at hc;injection hc with hc;injection hc with hc;cases hc
 have d3:D (nxM+1)=some (.arr (.agg 3) [bS.v]):=by rw[hfr.2 _ _ _ hb3 a3];exact a3
 unfold eI;refine Zn ?_;have q01:kF vs.length (fun _ _=>[]) 0 aN 0 1=[aN]:=by rw[hvs];rfl
 have C5:=HD.waiting 0 1;rw[q01] at C5;have g1:(((1:Nat):Int) != 1)=false:=ZM;have hv0:veq (.iface true) (eF 0) .nilIface=some true:=iE 0;have C6:=HD.aHE xW 1 or (K:=10) DP or;obtain⟨F0,hF0,hfa⟩:=D9;have C6:aX Tryz.prog 20 [.ptr wb (.agg 4) 0 0, .int .i64 1] D (.sl .leaf .free [F0, .sl (.agg 2) .free [.agg [.int .i64 1, .int .i64 0]]]):=by
  have:=C6;rw[show gU (gU (fun _=>aC) 0 bC) 1 bC (1+1)=aC from rfl,hfa] at this;exact this
 refine aue (e2 hv0 g1) ?_;clear C5 C6;have aJP:∀k,fK (gU (gU (fun _=>aC) 0 bC) 1 bC k).1 (gU (gU (fun _=>aC) 0 bC) 1 bC k).2:=fun k=>by
  unfold gU
  (repeat' split)<;>first|exact Ce|exact Dg
 have aTs:∀a b,(kF vs.length (fun _ _=>[]) 0 aN a b).length≤1:=fun a b=>by
  unfold kF;split<;>simp
 refine bX ((xn HD 0 1 aJP (fun n hn=>by rw[q01] at hn;rw[Kg.1 hn];decide) or (by have:=aTs 0 1;omega)).dom.mono ?_);rintro v E nxE aTw ⟨⟨_,aTK,(⟨aBY,_⟩|⟨_,hq0,_⟩|⟨_,n,r,hQe,rfl,HE⟩)⟩,hdE,_⟩
 ·exact absurd ⟨or,or,or,or,or⟩ aBY
 ·rw[q01] at hq0;cases hq0
 rw[q01] at hQe;injection hQe with e1' e2';subst e1';subst e2';try dsimp only at aTw
 rw[show(1:Int).toNat+1=2 from rfl,show gU (gU (fun _=>aC) 0 bC) 1 bC 2=aC from rfl,mM] at HE;rw[show(1:Int).toNat+1=2 from rfl,show gU (gU (fun _=>aC) 0 bC) 1 bC 2=aC from rfl,mM];have hqn:∀a b,l5 (kF vs.length (fun _ _=>[]) 0 aN) 0 1 [] a b=[]:=fun a b=>by
  unfold l5;split
  ·rfl
  unfold kF;rw[if_neg];omega
 have f3:E (nxM+1)=some (.arr (.agg 3) [.agg [.int .i64 1, .int .i64 1, .int .i64 0]]):=by rw[aTK.2 _ _ _ hb3 d3];exact d3
 have C5:=HE.settled hqn;have hC:=HE.aHE xW 1 or (K:=10) DO or;rw[show gU (gU (gU (fun _=>aC) 0 bC) 1 bC) 2 (0,bC).2 (1+1)=bC from rfl,D8] at hC;have C6:aX Tryz.prog 20 [.ptr wb (.agg 4) 0 0, .int .i64 1] E _:=hC;have hle:h'.le E:=fun x b hx=>by
  have hxn:=hd x b hx;rw[aTK.1 x or,hfr.1 x or,hkA x or,hkM x or];exact hx
 have hbn:nxM+1<nxE:=or;unfold eI;refine Zn ?_;have hbf:V.fits (.agg 3) (.agg [.int .i64 1, .int .i64 1, .int .i64 0])=true:=rfl;have q1:(((2:Nat):Int)==2)=true:=ZM;have q2:(((1:Nat):Int)==1)=true:=ZM;have q3:(((0:Nat):Int)==0)=true:=ZM;have q4:((1:Int)==1)=true:=ZM;have q5:((0:Int)==0)=true:=ZM;refine aue (e10 hv0 f3 hbn hF0 hbf q1 q2 q3 q4 q5) ?_;exact aG h' hle ⟨rfl,rfl⟩
end Go.Proofs.YtecepaehmojpgaaGreat
namespace Go.Proofs.YtecepaehmojpgaaGreat
open Go.ChangeShapes Go.WideShapes Go.ChangeAt Go.RowKit Go.Sort
structure Act where
 dl:Bool
 a:Int
 b:Int
 aAz:Sp
 o:Own
 made:List Sp
def Act.v(x:Act):V:= .agg [.bool x.dl, .int .i64 x.a, .int .i64 x.b, .int .i64 x.aAz.p, .int .i64 x.aAz.t.e, .int .i64 x.aAz.t.r, .sl (.agg 3) x.o (x.made.map Sp.v)]
attribute [local irreducible] Kp
end Go.Proofs.YtecepaehmojpgaaGreat
namespace Go.Proofs.YtecepaehmojpgaaGreat
open Go.ChangeShapes Go.WideShapes Go.ChangeAt Go.RowKit Go.Sort
attribute [local irreducible] Kp
section
variable{n0:Nat}{h':Hp}{nx wb nb tb:Nat}{vo:Own}{vs:List Nat}{P:Int}{wv:V}{oc ot:Own}{n:Nat}{l:List We}{ws:List Wy}{S:Nat→CS}{Q:Int→Int→List Nt}{k:Nat}
end
theorem BT(o:Own){P:Int}{ws:List Wy}(hr:eK P ws=false)(hl:ws.length≤1000)(x y:V)(h:Hp):aX Tryz.prog 9 [mps o P ws,x,y] h (.tup [.aAI,eF 2]):=by
 have hmf:(mps o P ws).fits (.agg 2)=true:=by simp[mps,V.fits,V.aAD,wys]
 refine aP (fun L=>by simp[V.names,bP,eF]) fun h' nx hh=>aD L.g2z fun hd=>?_;simp only[jL,jM,jA,jB,jN,jO,jP,jQ,Kb];have C1:=fun h=>CF o hr hl h;have hv:veq (.iface true) (eF 2) .nilIface=some false:=iE 2;refine aue (e2 hmf hv) ?_;exact fS h' (leo hd) ⟨rfl,rfl⟩
end Go.Proofs.YtecepaehmojpgaaGreat
