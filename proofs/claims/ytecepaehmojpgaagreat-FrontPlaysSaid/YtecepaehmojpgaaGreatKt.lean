/-
Texts of this proof,one behind the other. No conditions.
-/
import Derived.Test.YtecepaehmojpgaaGreatKd
import Derived.Test.YtecepaehmojpgaaGreatKs
import Derived.Test.YtecepaehmojpgaaGreatKn
open Go.Proofs.YtecepaehmojpgaaGreat.Hp renaming set→Ka,le_refl→Kd,del→Kf
open Go.Proofs.YtecepaehmojpgaaGreat.V renaming undef→Kb,fits→Ke
open Go.Proofs.YtecepaehmojpgaaGreat.QE renaming me→Kc
open List renaming getD_eq_getElem?_getD→Kg,mem_singleton→Kh,getElem_mem→Ki,length_singleton→Kk,mem_iff_getElem→Km,mem_cons→Ko,length_set→Kq,length_map→Ks,not_mem_nil→Kw,map_append→Kx,getD_cons_zero→Ky,length_append→Kz,getElem?_eq_getElem→KD,mem_cons_of_mem→KJ,map_eq_nil_iff→KK,set_cons_zero→KM,any_eq_false→KP,any_eq_true→KS,mem_append→KT,map_nil→KW
open Bool renaming decide_and→Kj,and_eq_true→KQ
open Nat renaming le_refl→Kp,lt_succ_of_lt→Ku,le_succ_of_le→Kv,reduceAdd→KB,reduceSub→KC,reduceLeDiff→KE,reduceEqDiff→KF,le_trans→KG,zero_le→KI,lt_or_ge→KN,reduceLT→KO
open Go.IntKind renaming wrap→Kt
open Int renaming reduceToNat→KH,natCast_zero→KR,natCast_add→KU,natCast_one→KV
open Prod renaming snd→KL
open Nat renaming reduceAdd→jA,reduceSub→jB,reduceLT→jC,reduceLeDiff→jD,reduceEqDiff→jE
open Int renaming reduceToNat→jF,toNat_natCast→jG,natCast_add→jH,natCast_one→jI,natCast_zero→jJ
open List renaming length_map→jK,length_cons→jL,length_nil→jM,replicate_succ→jN,replicate_zero→jO,cons_append→jP,nil_append→jQ
set_option linter.unusedSimpArgs false
set_option linter.unusedVariables false
set_option linter.unusedSectionVars false
set_option maxHeartbeats 8000000
namespace Go.Proofs.YtecepaehmojpgaaGreat
open Go.RowKit
attribute [local irreducible] Kt
set_option maxRecDepth 100000 in
set_option maxHeartbeats 8000000 in
theorem r0{n0:Nat}{B:Hp}{nxB wb nb tb:Nat}{vo:Own}{vs:List Nat}{P:Int}{wv lc:V}{ot:Own}{rows:List V}{S:Nat→CS}{Q:Int→Int→List Nt}(H:WI n0 B nxB wb nb tb vo vs P wv lc ot rows S Q)
 (j:Nat) (hj:j<vs.length) (y:Own×Nt) (hy:y.2.cs.length≤100000) (hok:∀k,eO (S k).1 (S k).2) (aJP:V→Hp→Nat→Prop)
 (hP:∀h2 nx2,nxB≤nx2→(∀x,x<nxB→x≠vs[j]→h2 x=B x)→WI n0 h2 nx2 wb nb tb vo vs P wv lc ot rows (dS S (j+1) (aV P (S (j+1)).1 (S (j+1)).2 y.2.cs).2) Q→aJP (fC (aV P (S (j+1)).1 (S (j+1)).2 y.2.cs).1) h2 nx2):
 lwp Tryz.prog (.seq (.ops L.aFM) .ret) (iB [.slot 6] aJP) ⟨aB 84 0 [(0, .ptr wb (.agg 4) 0 0),(2, .int .i64 j),(8,bc y)],B,nxB⟩:=by
 simp only[aB,go_sem,reduceIte,jA,jB,jC,jD,reduceCtorEq,jE,jF];obtain⟨q,c,hw,hq,hl⟩:=H.q;have c1:=hw.cell;have n1:wb<nxB:=H.dom _ _ c1;obtain⟨m,hm,hc⟩:=H.v j hj;have hg:(vs.map fun v=>V.ptr v (.agg 4) 0 0).getD j (.tup [])= .ptr vs[j] (.agg 4) 0 0:=bY (fun v=>V.ptr v (.agg 4) 0 0) _ vs j hj;refine aue (ee5 c1 n1 hg hj (@jK Nat V)) ?_;refine bN ((yL y.1 y.2.cs hy _ _ (hok (j+1)) P _ _ vs[j] m _ _ H.dom hc).mono ?_);rintro v h2 nx2 aBs ⟨rfl,⟨m2,hc2,hm2⟩,hk,_,hd2,_⟩;unfold dM;refine Zn ?_;refine au ?_;exact aG h2 (Kd _) (hP h2 nx2 aBs hk (H.apply (j+1) (by simpa using hj) hk hd2 hm2 hm hc2))
set_option maxRecDepth 100000 in
set_option maxHeartbeats 8000000 in
theorem jc{n0:Nat}{h':Hp}{nx wb nb tb:Nat}{vo:Own}{vs:List Nat}{P:Int}{wv lc:V}{ot:Own}{rows:List V}{S:Nat→CS}{Q:Int→Int→List Nt}(H:WI n0 h' nx wb nb tb vo vs P wv lc ot rows S Q)
 (i j:Int) (hok:∀k,eO (S k).1 (S k).2) (hcs:∀n∈Q i j,n.made.length≤1000) (hn0:n0≤nx) (hql:(Q i j).length≤1000):
 bD Tryz.prog 10 [.ptr wb (.agg 4) 0 0, .int .i64 i, .int .i64 j] h' nx fun v h'' nx2=>nx≤nx2∧Fr n0 (tb::vs) h' h''∧
  ((¬(0≤i∧i<vs.length∧0≤j∧j<vs.length∧i≠j)∧v=fC 1∧WI n0 h'' nx2 wb nb tb vo vs P wv lc ot rows S Q)∨
   ((0≤i∧i<vs.length∧0≤j∧j<vs.length∧i≠j)∧Q i j=[]∧v=fC 13∧WI n0 h'' nx2 wb nb tb vo vs P wv lc ot rows S Q)∨
   ((0≤i∧i<vs.length∧0≤j∧j<vs.length∧i≠j)∧∃n r,Q i j=n::r∧v=fC (aV P (S (j.toNat+1)).1 (S (j.toNat+1)).2 n.cs).1∧WI n0 h'' nx2 wb nb tb vo vs P wv lc ot rows (dS S (j.toNat+1) (aV P (S (j.toNat+1)).1 (S (j.toNat+1)).2 n.cs).2) (qA Q i j r))):=by
 refine aF L.g4z fun hd=>?_;simp only[jL,jM,jA,jB,jN,jO,jP,jQ,Kb];have hd:aI h' nx:=hd;obtain⟨q,c,hw,hq,hl⟩:=H.q;have c1:=hw.cell;have c2:=hw.mp;have n1:wb<nx:=hd _ _ c1;have n2:nb<nx:=hd _ _ c2;have C5:=kN hw i;have C6:=kN hw j;have hk:∀nx2,nx≤nx2→WI n0 h' nx2 wb nb tb vo vs P wv lc ot rows S Q:=fun nx2 hx=>H.aBB (fun _ _=>rfl) (hd.up hx);by_cases hi:0≤i∧i<vs.length;case neg=>
  have g1:(decide (0≤i)&&decide (i<vs.length))=false:=by rw[←Kj];exact decide_eq_false hi
  rw[g1] at C5;refine au ?_;exact aG h' (leo hd) ⟨ZN,Fr.refl .., .inl ⟨fun h=>hi ⟨h.1,h.2.1⟩,rfl,hk _ ZN⟩⟩
 have g1:(decide (0≤i)&&decide (i<vs.length))=true:=by rw[←Kj];exact decide_eq_true hi
 rw[g1] at C5;by_cases hj:0≤j∧j<vs.length;case neg=>
  have g2:(decide (0≤j)&&decide (j<vs.length))=false:=by rw[←Kj];exact decide_eq_false hj
  rw[g2] at C6;refine au ?_;exact aG h' (leo hd) ⟨ZN,Fr.refl .., .inl ⟨fun h=>hj ⟨h.2.2.1,h.2.2.2.1⟩,rfl,hk _ ZN⟩⟩
 have g2:(decide (0≤j)&&decide (j<vs.length))=true:=by rw[←Kj];exact decide_eq_true hj
 rw[g2] at C6;by_cases hij:i=j;case pos=>
  have g3:(i==j)=true:=bqt;refine aue g3 ?_;exact aG h' (leo hd) ⟨ZN,Fr.refl .., .inl ⟨fun h=>h.2.2.2.2 hij,rfl,hk _ ZN⟩⟩
 have g3:(i==j)=false:=bqf;have z1:(wb=nx)=False:=fls;have z2:(nb=nx)=False:=fls;have hf:fA (.plain (.agg 2) [.int, .int]) (.agg [.int .i64 i, .int .i64 j]) (q.map Kc)=some (eZ q i j):=tJ i j q;have hg:=rh q i j;have aVV:0≤i∧i<vs.length∧0≤j∧j<vs.length∧i≠j:=⟨hi.1,hi.2,hj.1,hj.2,hij⟩;cases hfi:eZ q i j with
 |none=>
  rw[hfi] at hf hg;rw[wZ hfi] at hg;have hqe:Q i j=[]:=by rw[←hl,ka hfi];rfl
  have g4:(((0:Nat):Int)==0)=true:=rfl;refine aue (ee9 g3 c1 c2 n1 n2 z1 z2 hf (e2 hg g4)) ?_;exact aG h' (leo hd) ⟨ZN,Fr.refl .., .inr (.inl ⟨aVV,hqe,rfl,hk _ ZN⟩)⟩
 |some k=>
  rw[hfi] at hf hg;obtain⟨hkl,hka⟩:=xA hfi;rw[wY hfi] at hg;have hxm:q.getD k default∈q:=by rw[Kg,KD hkl];exact Ki hkl
  obtain⟨b,hb1,hb0,hb2⟩:=hq.tk _ hxm;have hne:=hq.ne _ hxm;rw[←j9 hfi] at hne;obtain⟨y,r,hyr⟩:∃y r,dL q i j=y::r:=by
   cases e:dL q i j with
   |nil=>exact absurd e hne
   |cons y r=>exact⟨y,r,rfl⟩
  have hQ:Q i j=y.2::r.map KL:=by rw[←hl,hyr];rfl
  rw[hb1,hyr] at hg;have hg:rK false (.sl .leaf .nil []) (q.map Kc) (some k)= .sl .leaf (.tok b) (bc y::r.map bc):=hg;obtain⟨es,hes⟩:∃es,es=r.map bc:=⟨_,rfl⟩;rw[←hes] at hg;have hel:es.length≤1000:=by rw[hes,jK];have:=hql;rw[hQ,jL,jK] at this;omega
  have g4:(((es.length+1:Nat):Int)==0)=false:=bqf;have hyl:(bc y).aAD=true:=rfl;refine aue (xp g3 c1 c2 n1 n2 z1 z2 hf hg (e2 g4 hyl)) ?_;refine g7 (c:=c) (es:=q.map Kc) rfl rfl (by simp only[z2,c2,go_sem,reduceIte,jA,jB,jC,jD,reduceCtorEq,jE,jF]) hf (fun k' ek=>?_) (fun ek=>by cases ek);injection ek with ek;subst ek;refine Zn ?_;have aAT:(q.map Kc).set k ⟨.agg [.int .i64 i, .int .i64 j], .sl .leaf (.tok b) es,((q.map Kc).getD k default).b⟩=(iU q i j).map Kc:=by
   have:=zz hfi;rw[hb1,hyr] at this;rw[hes];exact this
  have hgs:rK false (.sl .leaf .nil []) ((q.map Kc).set k ⟨.agg [.int .i64 i, .int .i64 j], .sl .leaf (.tok b) es,((q.map Kc).getD k default).b⟩) (some k)= .sl .leaf (.tok b) es:=by
   unfold rK;simp only[Bool.false_eq_true,if_false];rw[Kg,List.getElem?_set_self (by simpa using hkl)];rfl
  rw[aAT] at hgs;rw[aAT];have hf2:fA (.plain (.agg 2) [.int, .int]) (.agg [.int .i64 i, .int .i64 j]) ((iU q i j).map Kc)=some (some k):=by rw[←hfi,←fp q i j];exact tJ i j _
  obtain⟨A,hA⟩:∃A,A=((h'.set nx (.arr (.agg 2) [.agg [.int .i64 0, .int .i64 0]])).set nx (.arr (.agg 2) [.agg [.int .i64 i, .int .i64 j]])).set nb (.mp ((iU q i j).map Kc) c):=⟨_,rfl⟩;rw[←hA];have hkA:∀x,x<nx→x≠nb→A x=h' x:=fun x hx hne=>by rw[hA];simp only[Ka];rw[if_neg hne,if_neg or,if_neg or]
  have a1:A wb=some (.arr (.agg 4) [.agg [.sl .leaf ot rows, .ptr tb (.agg 4) 0 0, .sl .leaf vo (vs.map fun v=> .ptr v (.agg 4) 0 0), .map nb]]):=by rw[hkA _ n1 (sV c1 c2)];exact c1
  have a2:A nb=some (.mp ((iU q i j).map Kc) c):=by rw[hA];simp only[Ka,if_true]
  have a3:A nx=some (.arr (.agg 2) [.agg [.int .i64 i, .int .i64 j]]):=by rw[hA];simp only[Ka];rw[if_neg or];simp
  have hdA:aI A (nx+1):=by rw[hA];exact dmo hd
  have z3:nx<nx+32:=or;have z4:wb<nx+32:=or;have z5:nb<nx+32:=or;obtain⟨jn,rfl⟩:∃jn:Nat,j=jn:=⟨j.toNat,or⟩;have hjn:jn<vs.length:=or;have aOG:y.2.cs.length≤100000:=by rw[Nt.aCt];have:=hcs y.2 (by rw[hQ];simp);omega
  have aWJ:∀(C:Hp) (nxC:Nat),nx+1≤nxC→aI C nxC→C nb=some (.mp ((vO q i jn).map Kc) c)→(∀x,x<nx→x≠nb→C x=h' x)→WI n0 C nxC wb nb tb vo vs P wv lc ot rows S (qA Q i jn (r.map KL)):=fun C nxC hx hdC hC hkC=>by
   refine H.queue (fun x k es he=>hkC x (hd _ _ he) (sV he c2)) (fun x es k hx he=>hkC x (hd _ _ he) hx) hdC hC ?_ fun a e=>?_
   ·have hq2:=hq.pop i jn;exact⟨fun x hx=>by
     obtain⟨b,h1,h2,h3⟩:=hq2.tk x hx;exact⟨b,h1,h2,by rw[hkC b (hd _ _ h3) (zc c2 h3).symm];exact h3⟩,hq2.td,hq2.key,hq2.ne⟩
   unfold qA;split
   ·rename_i e;obtain⟨rfl,rfl⟩:=e;rw[Ev hq.key,hyr];rfl
   rename_i e;rw[z8 e];exact hl a _
  have hfr:∀(C h2:Hp) (nxC:Nat),aI C nxC→nx≤nxC→C nb=some (.mp ((vO q i jn).map Kc) c)→(∀x,x<nx→x≠nb→C x=h' x)→(∀x,x<nxC→x≠vs[jn]→h2 x=C x)→Fr n0 (tb::vs) h' h2:=fun C h2 nxC hdC hxC hC hkC hk2=>by
   have hvm:vs[jn]∈tb::vs:=KJ _ (Ki hjn);refine⟨fun x hx=>?_,fun x k es hx he=>?_⟩
   ·have l1:=H.lo.1;have l2:=H.lo.2 _ hvm;rw[hk2 x or or,hkC x or or]
   have hxn:=hd _ _ he;rw[hk2 x or (fun e=>hx (e▸hvm)),hkC x hxn (sV he c2)]
  refine aM ?_;refine bI ?_;generalize hC:nW (lwp Tryz.prog (.seq (.ops L.aFM) .ret)) _=QC;have aA9:∀(C:Hp) (nxC:Nat) (sl:List V),nx+1≤nxC→aI C nxC→C nb=some (.mp ((vO q i jn).map Kc) c)→(∀x,x<nx→x≠nb→C x=h' x)→WkL sl (aB 84 0 [(0, .ptr wb (.agg 4) 0 0),(2, .int .i64 jn),(8,bc y)])→QC .normal ⟨sl,C,nxC⟩:=fun C nxC sl hx hdC hC2 hkC hsl=>by
   rw[←hC];refine fT ⟨_,C,nxC⟩ ⟨hsl,Kd _,Kp _⟩ ?_;refine r0 (aWJ C nxC hx hdC hC2 hkC) jn hjn y aOG hok _ fun h2 nx2 aBs hk2 hW=>⟨or,hfr C h2 nxC hdC or hC2 hkC hk2, .inr (.inr ⟨aVV,y.2,r.map KL,hQ,?_,?_⟩)⟩
   ·rw[jG]
   rw[jG];exact hW
  clear hC;by_cases aJv:es=[]
  ·have g5:((es.length:Int)==0)=true:=by rw[aJv];rfl
   have hqp:vO q i jn=cq (iU q i jn) i jn:=by
    unfold vO;rw[if_pos];rw[hyr];rw[hes] at aJv;exact KK.1 aJv
   have hqd:=BL ((fp q i jn).trans hfi);rw[←hqp] at hqd;refine aue (ee9 a1 a2 a3 z3 z4 z5 hf2 hgs g5) ?_;refine wd (c:=c) (es:=(iU q i jn).map Kc) rfl rfl a2 hf2 ?_;rw[hqd];refine Zn ?_;refine au ?_;refine aA9 _ _ _ or (dmo hdA) (by simp only[Ka,if_true]) (fun x hx hne=>by simp only[Ka];rw[if_neg hne];exact hkA x hx hne) (wkl trivial)
  have g5:((es.length:Int)==0)=false:=by
   cases es with
   |nil=>exact absurd rfl aJv
   |cons a l=>exact bqf (by simp only[jL];omega)
  have hqp:vO q i jn=iU q i jn:=by
   unfold vO;rw[if_neg];rw[hyr];intro e;exact aJv (by rw[hes,show r=[] from e];rfl)
  refine aue (ee9 a1 a2 a3 z3 z4 z5 hf2 hgs g5) ?_;exact aA9 _ _ _ or (hdA.up or) (by rw[hqp];exact a2) hkA (wkl trivial)
theorem gsl(l:List V)(i j:Nat)(v d:V):(l.set i v).getD j d=if i=j∧j<l.length then v else l.getD j d:=by
 rw[Kg,Kg,List.getElem?_set];split
 ·rename_i e;subst e;split
  ·rename_i h;rw[if_pos ⟨rfl,h⟩];rfl
  rename_i h;rw[if_neg (fun k=>h k.2),List.getElem?_eq_none or]
 rename_i e;rw[if_neg (fun k=>e k.1)]
theorem Ej:∀(n k:Nat) (ps:List (Nat×V)) (sl:List V),sl.length=n→(∀p∈ps,k≤p.1→p.1<k+n→sl.getD (p.1-k) Kb=p.2)→WkL sl (aB n k ps)
 |0,k,ps,sl,hl,_=>by
  have:sl=[]:=List.length_eq_zero_iff.1 hl;subst this;trivial
 |n+1,k,ps,[],hl,_=>by simp at hl
 |n+1,k,ps,a::sl,hl,h=>by
  have hl:sl.length=n:=by simpa using hl
  cases ps with
  |nil=>exact⟨.inr rfl,Ej n (k+1) [] sl hl Zm⟩
  |cons q r=>
   obtain⟨j,v⟩:=q;have tail:∀p∈(j,v)::r,k+1≤p.1→p.1<k+1+n→sl.getD (p.1-(k+1)) Kb=p.2:=fun p hp h1 h2=>by
    have:=h p hp or or;rw[show p.1-k=(p.1-(k+1))+1 by omega,List.getD_cons_succ] at this;exact this
   unfold aB;split
   ·rename_i e;subst e;have h0:=h (j,v) Zm (Kp _) (Nat.lt_add_of_pos_right (Nat.succ_pos n));rw[Nat.sub_self,Ky] at h0;exact⟨.inl h0.symm,Ej n (j+1) r sl hl fun p hp=>tail p (by simp[hp])⟩
   exact⟨.inr rfl,Ej n (k+1) _ sl hl tail⟩
structure RN(tb wb:Nat)(A B cv:V)(vo:Own)(aB5:List V)(CA:Hp→Nat→Nat→Prop)(n1:Nat)(hp:Hp)(D:Nat→Bool)(c m a b:Nat)(s:St):Prop where
 len:s.sl.length=58
 s1:s.sl.getD 1 Kb=A
 s8:s.sl.getD 8 Kb= .ptr tb (.agg 4) 0 0
 s11:s.sl.getD 11 Kb= .ptr wb (.agg 4) 0 0
 s42:s.sl.getD 42 Kb=A
 s43:s.sl.getD 43 Kb=B
 d0:D 0=true→s.sl.getD 45 Kb= .ptr wb (.agg 4) 0 0
 d1:D 1=true→s.sl.getD 46 Kb= .ptr wb (.agg 4) 0 0
 d2:D 2=true→s.sl.getD 47 Kb= .ptr wb (.agg 4) 0 0
 d3:D 3=true→s.sl.getD 48 Kb= .ptr wb (.agg 4) 0 2
 d4:D 4=true→s.sl.getD 49 Kb= .sl .leaf vo aB5
 d5:D 5=true→s.sl.getD 50 Kb= .ptr tb (.agg 4) 0 0
 d6:D 6=true→s.sl.getD 51 Kb= .ptr c (.agg 4) 0 0
 d7:D 7=true→s.sl.getD 52 Kb= .sl .leaf (.tok a) [.ptr c (.agg 4) 0 0]
 d8:D 8=true→s.sl.getD 53 Kb= .sl .leaf (.tok b) (aB5++[.ptr c (.agg 4) 0 0])
 d9:D 9=true→s.sl.getD 54 Kb= .ptr wb (.agg 4) 0 0
 d10:D 10=true→s.sl.getD 55 Kb= .ptr wb (.agg 4) 0 2
 hw:s.h wb=some (.arr (.agg 4) [cv])
 h6:D 6=true→CA s.h c m∧n1≤c∧n1≤m∧c<s.nx∧m<s.nx
 ho:D 8=false→∀x,x<n1→s.h x=hp x
 h8:D 8=true→s.h b=some .tip∧n1≤b∧∀x,x<n1→vo≠ .tok x→s.h x=hp x
 dm:aI s.h s.nx
 nn:n1≤s.nx
section
variable{tb wb:Nat}{A B cv:V}{vo:Own}{aB5:List V}{CA:Hp→Nat→Nat→Prop}{n1:Nat}{hp:Hp}{D:Nat→Bool}{c m a b:Nat}{sl:List V}{h:Hp}{n2:Nat}
theorem RN.slot(r:RN tb wb A B cv vo aB5 CA n1 hp D c m a b ⟨sl,h,n2⟩)(t i:Nat)(v:V)
 (hi:(i=0∧t=45∧v= .ptr wb (.agg 4) 0 0)∨(i=1∧t=46∧v= .ptr wb (.agg 4) 0 0)∨(i=2∧t=47∧v= .ptr wb (.agg 4) 0 0)∨(i=3∧t=48∧v= .ptr wb (.agg 4) 0 2)∨(i=4∧t=49∧v= .sl .leaf vo aB5)∨(i=5∧t=50∧v= .ptr tb (.agg 4) 0 0)∨(i=9∧t=54∧v= .ptr wb (.agg 4) 0 0)∨(i=10∧t=55∧v= .ptr wb (.agg 4) 0 2)):
 RN tb wb A B cv vo aB5 CA n1 hp (fun j=>if j=i then true else D j) c m a b ⟨sl.set t v,h,n2⟩:=by
 obtain⟨len,s1,s8,s11,s42,s43,d0,d1,d2,d3,d4,d5,d6,d7,d8,d9,d10,hw,h6,ho,h8,dm,nn⟩:=r;dsimp only at*;rcases hi with⟨rfl,rfl,rfl⟩|⟨rfl,rfl,rfl⟩|⟨rfl,rfl,rfl⟩|⟨rfl,rfl,rfl⟩|⟨rfl,rfl,rfl⟩|⟨rfl,rfl,rfl⟩|⟨rfl,rfl,rfl⟩|⟨rfl,rfl,rfl⟩<;>
  (constructor<;>(try simp only[gsl,len,Kq])<;>first|(simp;done)|(simp;assumption)|assumption)
theorem RN.copy(r:RN tb wb A B cv vo aB5 CA n1 hp D c m a b ⟨sl,h,n2⟩)(e7:D 7=false)(e8:D 8=false){c' m' n3:Nat}{h3:Hp}(hc:CA h3 c' m')(q1:n2≤c')(q2:n2≤m')(q5:c'<n3)(q6:m'<n3)(q3:∀x,x<n2→h3 x=h x)(q4:aI h3 n3)(hn:n2≤n3):
 RN tb wb A B cv vo aB5 CA n1 hp (fun j=>if j=6 then true else D j) c' m' a b ⟨sl.set 51 (.ptr c' (.agg 4) 0 0),h3,n3⟩:=by
 obtain⟨len,s1,s8,s11,s42,s43,d0,d1,d2,d3,d4,d5,d6,d7,d8,d9,d10,hw,h6,ho,h8,dm,nn⟩:=r;dsimp only at*;have hwb:wb<n2:=dm _ _ hw;constructor;case hw=>rw[←hw];exact q3 _ hwb
 case h6=>exact fun _=>⟨hc,or,or,q5,q6⟩
 case ho=>intro _ x hx;dsimp only;rw[q3 x or];exact ho e8 x hx
 case h8=>intro e;rw[show(if (8:Nat)=6 then true else D 8)=D 8 from rfl,e8] at e;cases e
 case d7=>intro e;rw[show(if (7:Nat)=6 then true else D 7)=D 7 from rfl,e7] at e;cases e
 case d8=>intro e;rw[show(if (8:Nat)=6 then true else D 8)=D 8 from rfl,e8] at e;cases e
 case dm=>exact q4
 case nn=>exact KG nn hn
 all_goals ((try simp only[gsl,len,Kq])<;>first|(simp;done)|(simp;assumption)|assumption)
theorem RN.lit(r:RN tb wb A B cv vo aB5 CA n1 hp D c m a b ⟨sl,h,n2⟩)(hCA:∀h h2 c m,CA h c m→(∀x,x=c∨x=m→h2 x=h x)→CA h2 c m)(e8:D 8=false):
 RN tb wb A B cv vo aB5 CA n1 hp (fun j=>if j=7 then true else D j) c m n2 b ⟨sl.set 52 (.sl .leaf (.tok n2) [.ptr c (.agg 4) 0 0]),h.set n2 .tip,n2+1⟩:=by
 obtain⟨len,s1,s8,s11,s42,s43,d0,d1,d2,d3,d4,d5,d6,d7,d8,d9,d10,hw,h6,ho,h8,dm,nn⟩:=r;dsimp only at*;have hwb:wb<n2:=dm _ _ hw;constructor;case hw=>simp only[Ka];rw[if_neg or];exact hw
 case h6=>
  intro e;obtain⟨g1,g2,g3,g4,g5⟩:=h6 (by simpa using e);exact⟨hCA _ _ _ _ g1 fun x hx=>by simp only[Ka];rw[if_neg or],g2,g3,Ku g4,Ku g5⟩
 case ho=>intro _ x hx;simp only[Ka];rw[if_neg or];exact ho e8 x hx
 case h8=>intro e;rw[show(if (8:Nat)=7 then true else D 8)=D 8 from rfl,e8] at e;cases e
 case d8=>intro e;rw[show(if (8:Nat)=7 then true else D 8)=D 8 from rfl,e8] at e;cases e
 case dm=>exact aI.set dm (Nat.lt_succ_self _) (Nat.le_succ _) _
 case nn=>exact Kv nn
 all_goals ((try simp only[gsl,len,Kq])<;>first|(simp;done)|(simp;assumption)|assumption)
theorem RN.app(r:RN tb wb A B cv vo aB5 CA n1 hp D c m a b ⟨sl,h,n2⟩)(hCA:∀h h2 c m,CA h c m→(∀x,x=c∨x=m→h2 x=h x)→CA h2 c m)(e8:D 8=false){h3:Hp}(hlo:∀x,vo= .tok x→x<n1∧x≠wb)(q:∀x,x≠n2→vo≠ .tok x→h3 x=h x)(q2:h3 n2=some .tip)(q3:aI h3 (n2+1)):
 RN tb wb A B cv vo aB5 CA n1 hp (fun j=>if j=8 then true else D j) c m a n2 ⟨sl.set 53 (.sl .leaf (.tok n2) (aB5++[.ptr c (.agg 4) 0 0])),h3,n2+1⟩:=by
 obtain⟨len,s1,s8,s11,s42,s43,d0,d1,d2,d3,d4,d5,d6,d7,d8,d9,d10,hw,h6,ho,h8,dm,nn⟩:=r;dsimp only at*;have hwb:wb<n2:=dm _ _ hw;constructor;case hw=>dsimp only;rw[q wb or (fun e=>(hlo _ e).2 rfl)];exact hw
 case h6=>
  intro e;obtain⟨g1,g2,g3,g4,g5⟩:=h6 (by simpa using e);exact⟨hCA _ _ _ _ g1 fun x hx=>q x or (fun e=>by have:=(hlo _ e).1;omega),g2,g3,Ku g4,Ku g5⟩
 case ho=>intro e;cases e
 case h8=>exact fun _=>⟨q2,nn,fun x hx hv=>by dsimp only;rw[q x or hv];exact ho e8 x hx⟩
 case dm=>exact q3
 case nn=>exact Kv nn
 all_goals ((try simp only[gsl,len,Kq])<;>first|(simp;done)|(simp;assumption)|assumption)
end
set_option maxRecDepth 100000 in
set_option maxHeartbeats 8000000 in
theorem Bm(o:Own){P:Int}{ws:List Wy}{n:Nat}{l:List We}(R:lC P ws n l)(hl:ws.length≤1000)(hn:o= .nil→ws=[])(N:Nat)(hN:1≤N∧N≤17)(ob:Own)(bg:List Sp)(hb:bg.length≤1000)(h':Hp)(nx:Nat):
 bD Tryz.prog 9 [mps o P ws, .int .i64 N, .sl (.agg 3) ob (bg.map Sp.v)] h' nx fun v h'' nx2=>nx≤nx2∧aI h'' nx2∧(∀x,x<nx→h'' x=h' x)∧
  (((aV P [] 0 (bX bg 1)).1≠0∧v= .tup [.aAJ,fC (aV P [] 0 (bX bg 1)).1])∨
   ((aV P [] 0 (bX bg 1)).1=0∧∃wb nb tb vo vs o2 oc ot,v= .tup [.ptr wb (.agg 4) 0 0, .nilIface]∧vs.length=N∧nx≤wb∧
     WI nx h'' nx2 wb nb tb vo vs P (wys o2 ws) (.sl .leaf oc (eK n l n)) ot (eK n l n) (fun _=>(aV P [] 0 (bX bg 1)).2) (fun _ _=>[]))):=by
 have hmf:(mps o P ws).fits (.agg 2)=true:=by simp[mps,Ke,V.aAD,wys]
 refine aF L.g3z fun hd=>?_;simp only[jL,jM,jA,jB,jN,jO,jP,jQ,Kb];refine aue hmf ?_;refine bN ((Fo o R or hn _ _).mono ?_);rintro v1 M1 nx1 aIF ⟨tb,m,o2,oc,rfl,htb,hm,aGV,hk1,hd1,_⟩;dsimp only at htb hm aIF hk1;unfold dM;refine Zn ?_;have g1:decide ((N:Int)<1)=false:=dcf;have g2:decide ((N:Int)>17)=false:=dcf;refine aue (e2 g1 g2) ?_;refine bN ((rC ob bg 1 or _ _).dom.mono ?_);rintro v2 M2 nx2 aBs ⟨hf,hd2,_⟩;try dsimp only at aBs
 obtain⟨ox,hk2,rfl⟩:∃ox,(∀x,x<nx1→M2 x=M1 x)∧v2=cgs ox (bX bg 1):=by
  rcases hf with⟨he,rfl,rfl⟩|⟨_,id,hid,rfl,rfl⟩
  ·exact⟨.nil,fun x hx=>rfl,by rw[cgs,he]⟩
  exact⟨.tok id,fun x hx=>by simp only[Ka];rw[if_neg (by dsimp only at hid;omega)],rfl⟩
 have hlen:(bX bg 1).length≤100000:=by simp[bX];omega
 unfold dM;refine Zn ?_;refine au ?_;refine bN ((yL ox (bX bg 1) hlen [] 0 (pa 0) P _ _ tb m _ _ hd2 (aGV.aBB hd1 hk2)).mono ?_);rintro v3 M3 nx3 aDl ⟨rfl,⟨m3,hc3,hm3⟩,hk3,_,hd3,_⟩;try dsimp only at aDl hk3 hm3
 have hv:=iL (aV P [] 0 (bX bg 1)).1;have hkA:∀x,x<nx→M3 x=h' x:=fun x hx=>by
  rw[hk3 x or or,hk2 x or,hk1 x or];simp only[Ka];rw[if_neg or]
 unfold dM;refine Zn ?_;by_cases he:(aV P [] 0 (bX bg 1)).1=0;case neg=>
  rw[decide_eq_false he] at hv;refine aue hv ?_;refine iO M3 (Kd _) ⟨ZN,hd3.up ZN,hkA, .inl ⟨he,?_⟩⟩;simp only[go_sem,reduceIte,jA,jB,jC,jD,reduceCtorEq,jE,jF]
 rw[decide_eq_true he] at hv;have b0:M3 nx=some (.arr (.agg 2) [mps o P ws]):=by
  rw[hk3 nx or or,hk2 nx or,hk1 nx or];simp only[Ka,if_true]
 obtain⟨ot,hot⟩:=nG .leaf (eK n l n);have C1:∀h,aY Tryz.prog 38 [mps o P ws] h (.sl .leaf ot (eK n l n)):=fun h=>by
  have:=yr o R or h;rw[hot] at this;exact this
 refine aue (e3 hv b0 hmf) ?_;refine EC ?_;refine Zn ?_;refine au ?_;have aZB:tb<nx3:=hd3 _ _ hc3.cell;have aZH:m3<nx3:=hd3 _ _ hc3.mp;obtain⟨X,hX⟩:∃X:CS,X=(aV P [] 0 (bX bg 1)).2:=⟨_,rfl⟩;rw[←hX] at hc3⊢;obtain⟨CA,hCA⟩:∃CA:Hp→Nat→Nat→Prop,∀h c m,CA h c m↔(m≠nx3∧dQ h c m P (wys o2 ws) (.sl .leaf oc (eK n l n)) X.1 X.2):=⟨_,fun _ _ _=>Iff.rfl⟩;have aJO:∀h h2 c m,CA h c m→(∀x,x=c∨x=m→h2 x=h x)→CA h2 c m:=fun h h2 c m hc hk=>by
  obtain⟨q1,q2⟩:=(hCA ..).1 hc;exact(hCA ..).2 ⟨q1,by rw[hk _ (.inl rfl)];exact q2.cell,by rw[hk _ (.inr rfl)];exact q2.mp,q2.wf,q2.lf⟩
 refine aO (fun q:List Nat×Own=>aB 58 0 [(1, .int .i64 N),(8, .ptr tb (.agg 4) 0 0),(11, .ptr (nx3+1) (.agg 4) 0 0),(42, .int .i64 N),(43, .int .i64 q.1.length)])
  (fun q hp nx1=>q.1.length≤N∧nx3+2≤nx1∧aI hp nx1∧(∀x,x<nx→hp x=h' x)∧hp nx3=some (.mp [] 0)∧hp (nx3+1)=some (.arr (.agg 4) [.agg [.sl .leaf ot (eK n l n), .ptr tb (.agg 4) 0 0, .sl .leaf q.2 (q.1.map fun v=> .ptr v (.agg 4) 0 0), .map nx3]])∧
    CA hp tb m3∧(∀v∈q.1,∃m,CA hp v m∧nx3+2≤v∧nx3+2≤m)∧q.1.Nodup∧((q.2= .nil∧q.1=[])∨∃b,q.2= .tok b∧hp b=some .tip∧nx3+2≤b))
  (fun q=>N-q.1.length) ([], .nil) ⟨KI _,ZN,dmo hd3,fun x hx=>?_,?_,?_,(hCA ..).2 ⟨or,?_⟩,fun v hv=>(by cases hv), .nil, .inl ⟨rfl,rfl⟩⟩ (by simp only[WkL,aB,jH,jI,jJ,KW,go_sem,reduceIte,jA,jB,jC,jD,reduceCtorEq,jE,jF]) ?_
 ·simp only[go_sem,reduceIte,jA,jB,jC,jD,reduceCtorEq,jE,jF];rw[if_neg or,if_neg or];exact hkA x hx
 ·simp only[go_sem,reduceIte,jA,jB,jC,jD,reduceCtorEq,jE,jF]
 ·simp only[go_sem,reduceIte,jA,jB,jC,jD,reduceCtorEq,jE,jF]
 ·exact hc3.aBB hd3 fun x hx=>by simp only[Ka];rw[if_neg or,if_neg or]
 rintro⟨vs,vo⟩ hp nx1 ⟨aIL,hnx,hdm,hsm,w1,w2,w3,w4,w5,w6⟩;dsimp only at aIL w2 w4 w5 w6;generalize hQ:bH _ _ _ _ _=Q0;simp only[aB,go_sem,reduceIte,jA,jB,jC,jD,reduceCtorEq,jE,jF];rcases KN vs.length N with hlt|hge;case inr=>
  have hc1:decide ((vs.length:Int)<(N:Int))=false:=dcf;refine aue hc1 ?_;rw[←hQ];refine au ?_;have hvN:vs.length=N:=or;refine iO hp (Kd _) ⟨ZN,hdm.up ZN,hsm, .inr ⟨he,nx3+1,nx3,tb,vo,vs,o2,oc,ot,?_,hvN,or,?_⟩⟩
  ·simp only[go_sem,reduceIte,jA,jB,jC,jD,reduceCtorEq,jE,jF]
  obtain⟨q1,q2⟩:=(hCA ..).1 w3;have aWD:tb∉vs:=fun hc=>by
   obtain⟨m,_,h2,_⟩:=w4 tb hc;omega
  refine⟨⟨[],0,⟨w2,w1⟩,QOK.nil _ _,fun i j=>rfl⟩,hdm.up ZN,fun i hi=>?_,List.nodup_cons.2 ⟨aWD,w5⟩,or,fun x hx=>?_⟩
  ·cases i with
   |zero=>exact⟨m3,q1,q2⟩
   |succ i=>
    have hi:i<vs.length:=by simpa using hi
    obtain⟨m,h1,_⟩:=w4 vs[i] (Ki _);obtain⟨h2,h3⟩:=(hCA ..).1 h1;exact⟨m,h2,h3⟩
  rcases Ko.1 hx with rfl|hx
  ·omega
  obtain⟨m,_,h2,_⟩:=w4 x hx;omega
 have hc1:decide ((vs.length:Int)<(N:Int))=true:=dct;unfold L.aLa;generalize hR:aZ.draw 11 L.aDs L.aFY=R;refine aue hc1 ?_;rw[←hR];clear hR;refine pJ ?_;obtain⟨aB5,aH3⟩:∃aB5,aB5=vs.map fun v=>V.ptr v (.agg 4) 0 0:=⟨_,rfl⟩;rw[←aH3] at w2;obtain⟨cv,hcv⟩:∃cv,cv=V.agg [.sl .leaf ot (eK n l n), .ptr tb (.agg 4) 0 0, .sl .leaf vo aB5, .map nx3]:=⟨_,rfl⟩;rw[←hcv] at w2;refine⟨fun D s=>∃c m a b,RN tb (nx3+1) (.int .i64 N) (.int .i64 vs.length) cv vo aB5 CA nx1 hp D c m a b s,⟨0,0,0,0,?_⟩,?_,?_⟩
 ·constructor<;>first|exact hdm|exact w2|exact Kp _|(intro h;cases h;done)|exact fun _ _ _=>rfl|rfl|skip
 ·rintro D i oo aAR ⟨sl,hq,n2⟩ hi hDi aAZ hcl ⟨c,m,a,b,r⟩;have no:∀j (o:aA) dp,L.aDs[j]?=some (o,dp)→i∈dp→D j=false:=fun j o dp hj hin=>by
   cases h:D j with
   |false=>rfl
   |true=>have:=hcl j _ _ hj h i hin;rw[hDi] at this;cases this
  have hrw:=r.hw;dsimp only at hrw;rcases i with _|_|_|_|_|_|_|_|_|_|_|i;all_goals first|(injection hi with hi;injection hi with q1 q2;subst q1;subst q2)|skip
  all_goals try simp only[Ko,Kw,or_false,forall_eq_or_imp,forall_eq,false_implies,implies_true] at aAZ
  all_goals simp only[bF,LOp.run,LOp.sem,bR.sem,aP.ev,r.s8,r.s11,bQ,List.map_cons,KW]
  ·exact⟨c,m,a,b,r.slot 45 0 _ Zm⟩
  ·exact⟨c,m,a,b,r.slot 46 1 _ Zm⟩
  ·simp only[r.d1 aAZ,hrw];exact⟨c,m,a,b,r.slot 47 2 _ Zm⟩
  ·simp only[r.d2 aAZ.2,hrw];exact⟨c,m,a,b,r.slot 48 3 _ Zm⟩
  ·simp only[r.d3 aAZ.2.2,hrw];exact⟨trivial,Zm,by simp[dA],c,m,a,b,r.slot 49 4 _ (by simp[hcv,cK,V.cell,V.cells])⟩
  ·exact⟨c,m,a,b,r.slot 50 5 _ Zm⟩
  ·simp only[r.d5 aAZ];have e7:=no 7 _ _ rfl Zm;have e8:=no 8 _ _ rfl Zm;have ho:=r.ho e8;have hnn:=r.nn;dsimp only at ho hnn;have hct:=aJO hp hq tb m3 w3 (fun x hx=>ho x (by rcases hx with rfl|rfl<;>omega));refine(sd ((hCA ..).1 hct).2).mono ?_;rintro v h3 n3 hn3 ⟨cb2,m2,rfl,q1,q2,q3,q4,q5,q6⟩;exact⟨cb2,m2,a,b,r.copy e7 e8 ((hCA ..).2 ⟨or,q3⟩) q1 q2 (q5 _ _ q3.cell) (q5 _ _ q3.mp) q4 q5 q6⟩
  ·simp only[r.d6 aAZ.2];refine⟨fun e he=>by rw[Kh.1 he];simp only[r.d6 aAZ.2];rfl, .inl ⟨c,m,n2,b,r.lit aJO (no 8 _ _ rfl Zm)⟩⟩
  ·simp only[r.d4 aAZ.2.2.2.1,r.d7 aAZ.2.2.2.2.2.2,eL];have e8:=hDi;have ho:=r.ho e8;have hnn:=r.nn;have hdq:=r.dm;dsimp only at ho hnn hdq;refine⟨trivial,trivial,by rw[aH3,jK,Kk];omega, .inl ⟨?_,c,m,a,n2,?_⟩⟩
   ·rcases w6 with⟨h1,h2⟩|⟨b',h1,h2,h3⟩
    ·rw[h1];trivial
    rw[h1];show hq b'=some .tip;rw[ho b' (hdm _ _ h2)];exact h2
   rcases w6 with⟨h1,h2⟩|⟨b',h1,h2,h3⟩
   ·subst h1;exact r.app aJO e8 (fun x e=>by cases e) (fun x hx _=>by simp[fK,Ka,hx]) (by simp[fK,Ka]) (by simp only[fK];exact dmo hdq)
   subst h1;have hb':=hdm _ _ h2;refine r.app aJO e8 (fun x e=>?_) (fun x hx hne=>?_) (by simp[fK,Ka]) (by simp only[fK];exact dmo hdq)
   ·injection e with e;exact⟨or,or⟩
   have:x≠b':=fun e=>hne (by rw[e]);simp[fK,Ka,Kf,hx,this]
  ·simp only[r.d0 aAZ.1,hrw];exact⟨c,m,a,b,r.slot 54 9 _ Zm⟩
  ·simp only[r.d9 (by simp[aAZ]),hrw];exact⟨c,m,a,b,r.slot 55 10 _ Zm⟩
  simp[L.aDs] at hi
 rintro D ⟨sl,h2,n2⟩ hD ⟨c,m,a,b,r⟩;have dd:=fun i (h:i<11)=>hD i h;have x8:=r.d8 (dd 8 or);have x10:=r.d10 (dd 10 or);obtain⟨y1,y2,y3,y4,y5⟩:=r.h6 (dd 6 or);obtain⟨y6,y7,y8⟩:=r.h8 (dd 8 or);obtain⟨len,s1,s8,s11,s42,s43,d0,d1,d2,d3,d4,d5,d6,d7,d8,d9,d10,hw,h6,ho,h8,dm,nn⟩:=r;dsimp only at len s1 s8 s11 s42 s43 hw dm nn x8 x10 y1 y4 y5 y6 y7 y8;clear d0 d1 d2 d3 d4 d5 d6 d7 d8 d9 d10 h6 ho h8 hD dd;simp only[bF,LOp.run,LOp.sem,aP.ev,x10,x8,hw,bQ];refine⟨trivial,Zm,by simp[dA],rfl,?_⟩;have aAM: [cv].set 0 (bW .leaf 2 ([cv].getD 0 Kb) (.sl .leaf (.tok b) (aB5++[.ptr c (.agg 4) 0 0])))=[.agg [.sl .leaf ot (eK n l n), .ptr tb (.agg 4) 0 0, .sl .leaf (.tok b) ((vs++[c]).map fun v=> .ptr v (.agg 4) 0 0), .map nx3]]:=by
  rw[hcv,aH3,Kx];rfl
 rw[aAM];refine bZ ?_;refine fT ⟨aB 58 0 [(1, .int .i64 N),(8, .ptr tb (.agg 4) 0 0),(11, .ptr (nx3+1) (.agg 4) 0 0),(42, .int .i64 N),(43, .int .i64 vs.length)],_,_⟩ ⟨Ej 58 0 _ sl len ?_,Kd _,Kp _⟩ ?_
 ·simp only[Ko,Kw,or_false,forall_eq_or_imp,forall_eq,Nat.sub_zero];rw[s1,s8,s11,s42,s43];simp
 have hw1:IntKind.i64.wrap ((vs.length:Int)+1)=((vs.length+1:Nat):Int):=wrp;simp only[aB,go_sem,reduceIte,jA,jB,jC,jD,reduceCtorEq,jE,jF];refine aue hw1 ?_;rw[←hQ];clear hQ s1 s8 s11 s42 s43 len x8 x10 aAM;have hkp:∀x,x<nx1→vo≠ .tok x→x≠nx3+1→h2 x=hp x:=fun x hx hne h1=>y8 x hx hne;have hno:∀x,(x<nx3+2∨∃k es,hp x=some (.arr k es))∨(∃es k,hp x=some (.mp es k))→vo≠ .tok x:=fun x hx e=>by
  rcases w6 with⟨h1,_⟩|⟨b',h1,h3,h4⟩
  ·rw[h1] at e;cases e
  rw[h1] at e;injection e with e;subst e;rcases hx with(hx|⟨k,es,hx⟩)|⟨es,k,hx⟩
  ·omega
  ·rw[h3] at hx;cases hx
  rw[h3] at hx;cases hx
 have hCk:∀v m,CA hp v m→CA (h2.set (nx3+1) (.arr (.agg 4) [.agg [.sl .leaf ot (eK n l n), .ptr tb (.agg 4) 0 0, .sl .leaf (.tok b) ((vs++[c]).map fun v=> .ptr v (.agg 4) 0 0), .map nx3]])) v m:=fun v m hv=>by
  obtain⟨q1,q2⟩:=(hCA ..).1 hv;have hv1:=si (hcv▸w2) q2.cell;have hm1:m≠nx3+1:=(sV w2 q2.mp).symm;refine aJO hp _ v m hv fun x hx=>?_;rcases hx with rfl|rfl
  ·simp only[Ka];rw[if_neg hv1.symm,hkp _ (hdm _ _ q2.cell) (hno _ (.inl (.inr ⟨_,_,q2.cell⟩))) hv1.symm]
  simp only[Ka];rw[if_neg hm1,hkp _ (hdm _ _ q2.mp) (hno _ (.inr ⟨_,_,q2.mp⟩)) hm1]
 refine aD (vs++[c], .tok b) (by simp only[Kz,Kk];omega) ⟨by simp only[Kz,Kk];omega,ZN,dmo dm,fun x hx=>?_,?_,?_,hCk _ _ w3,fun v hv=>?_,?_, .inr ⟨b,rfl,?_,or⟩⟩ (by simp only[WkL,aB,jH,jI,jJ,Kz,Kk,go_sem,reduceIte,jA,jB,jC,jD,reduceCtorEq,jE,jF])
 ·simp only[Ka];rw[if_neg or,hkp x or (hno x (.inl (.inl or))) or];exact hsm x hx
 ·simp only[Ka];rw[if_neg or,hkp nx3 or (hno nx3 (.inl (.inl or))) or];exact w1
 ·simp only[Ka,if_true]
 ·rcases KT.1 hv with hv|hv
  ·obtain⟨m',q1,q2,q3⟩:=w4 v hv;exact⟨m',hCk _ _ q1,q2,q3⟩
  rw[Kh.1 hv];exact⟨m,aJO _ _ _ _ y1 (fun x hx=>by simp only[Ka];rw[if_neg or]),or,or⟩
 ·refine List.nodup_append.2 ⟨w5,Zm,fun x hx y hy e=>?_⟩;rw[Kh.1 hy] at e;obtain⟨m',q1,_⟩:=w4 x hx;have:=hdm _ _ ((hCA ..).1 q1).2.cell;omega
 simp only[Ka];rw[if_neg or];exact y6
theorem tW:aH Tryz.prog 44=some (LB.aAl (.agg 3) 73):=Zz
theorem zK:aH Tryz.prog 73=some (LB.aAj (.agg 3)):=Zz
theorem yh(o:Own)(d:Int)(h:Hp):aY Tryz.prog 37 [.sl (.agg 3) o [], .int .i64 d] h (.sl (.agg 4) .nil []):=by
 refine aR (fun L=>by simp[V.names,bU]) fun h' nx hh=>(rC o [] d Zm h' nx).mono ?_;rintro v h2 n2 _ (⟨_,h1,h2⟩|⟨hne,_⟩)
 ·exact⟨h1,h2⟩
 exact absurd rfl hne
def mkB(T:Nat→Nat→List Pa)(n:Nat)(s u:Sp):Bool:=decide (0≤u.p∧u.p<n∧0≤s.p∧s.p<n)&&sS (T s.p.toNat u.p.toNat) s u
theorem j2{h:Hp}{wb tb nb:Nat}{ot:Own}{rows:List V}{vo:Own}{vs:List Nat}{q:List QE}{c:Nat}(w:fZ h wb tb nb (.sl .leaf ot rows) vo vs q c)(T:Nat→Nat→List Pa)(n:Nat)(hT:CJ T n rows)(hlen:∀a b,(T a b).length≤1000)(s u:Sp)
 {a b:Nat} (ha:h a=some (.arr .leaf [.ptr wb (.agg 4) 0 0])) (hb:h b=some (.arr (.agg 3) [s.v])):aY Tryz.prog 41 [u.v, .ptr a .leaf 0 0, .ptr b (.agg 3) 0 0] h (.bool (!mkB T n s u)):=by
 refine aR (fun L=>trivial) fun h' nx hh=>aF L.aYg fun hd=>?_;simp only[jL,jM,jA,jB,jN,jO,jP,jQ,Kb];have c1:=hh _ _ ha rfl;have c2:h' b=some (.arr (.agg 3) [.agg [.int .i64 s.p, .int .i64 s.t.e, .int .i64 s.t.r]]):=hh _ _ hb rfl;have hw:fZ h' wb tb nb (.sl .leaf ot rows) vo vs q c:=⟨hh _ _ w.cell rfl,hh _ _ w.mp rfl⟩;have n1:a<nx:=hd _ _ c1;have n2:b<nx:=hd _ _ c2;have e1:(a=nx)=False:=fls;have e2:(b=nx)=False:=fls;have hw2:fZ (h'.set nx (.arr (.agg 3) [.agg [.int .i64 u.p, .int .i64 u.t.e, .int .i64 u.t.r]])) wb tb nb (.sl .leaf ot rows) vo vs q c:=by
  have q1:=hd _ _ hw.cell;have q2:=hd _ _ hw.mp;exact⟨by simp only[Ka];rw[if_neg or];exact hw.cell,by simp only[Ka];rw[if_neg or];exact hw.mp⟩
 have C5:=Ag hw2 T n hT hlen s u;refine aue (e7 Sp.v.eq_1 c1 c2 n1 n2 e1 e2) ?_;exact aG h' (leo hd) ⟨rfl,rfl⟩
def doE(N:Nat)(P:Int)(T:CS)(T0:Nat→Nat→List Pa)(n:Nat)(i:Int)(nt:Nt):Int:=
 if¬(0≤i∧i<N) then 1 else if cZ T.1 nt.aAS<1 then 13 else if nt.made.any (fun u=> !mkB T0 n nt.aAS u)=true then 2 else (aV P T.1 T.2 nt.cs).1
theorem Fx(nt:Nt):(bX nt.made 1).map Cg.v++[.agg [.int .i64 nt.aAS.p, .int .i64 nt.aAS.t.e, .int .i64 nt.aAS.t.r, .int .i64 (-1)]]=nt.cs.map Cg.v:=by
 unfold Nt.cs bX;rw[Kx];rfl
def tZ(S:Nat→CS)(T' V':CS)(m k:Nat):Nat→CS:=if m<k then dS (dS S 0 T') (m+1) V' else dS S 0 T'
theorem zg(S:Nat→CS)(T' V':CS){m k:Nat}(h:k≠m):tZ S T' V' m (k+1)=tZ S T' V' m k:=by
 unfold tZ;by_cases e:m<k
 ·rw[if_pos e,if_pos or]
 rw[if_neg e,if_neg or]
theorem BE(Q:Int→Int→List Nt)(m:Int)(n:Nt):eS 0 Q m n=Q:=by
 funext a b;unfold eS;rw[if_neg or]
theorem BF(Q:Int→Int→List Nt)(m k:Nat)(n:Nt)(h:k≠m):eS (k+1) Q m n=qA (eS k Q m n) m k (Q m k++[n]):=by
 funext a b;unfold eS qA;by_cases e:a=m∧b=k
 ·obtain⟨rfl,rfl⟩:=e;rw[if_pos or,if_pos ⟨rfl,rfl⟩]
 rw[if_neg e];dsimp only;by_cases e2:a=m∧b≠m∧0≤b∧b<k
 ·rw[if_pos or,if_pos e2]
 rw[if_neg or,if_neg e2]
theorem j5(Q:Int→Int→List Nt)(m:Nat)(n:Nt):eS (m+1) Q m n=eS m Q m n:=by
 funext a b;unfold eS;by_cases e2:a=m∧b≠m∧0≤b∧b<m
 ·rw[if_pos or,if_pos e2]
 rw[if_neg or,if_neg e2]
theorem WI.push{n0:Nat}{h h2:Hp}{nx nx2 wb nb tb:Nat}{vo:Own}{vs:List Nat}{P:Int}{wv lc:V}{ot:Own}{rows:List V}{S:Nat→CS}{Q:Int→Int→List Nt}{q:List QE}{c c2 a:Nat}{i j:Int}{x:Own×Nt}
 (H:WI n0 h nx wb nb tb vo vs P wv lc ot rows S Q) (hw:fZ h wb tb nb (.sl .leaf ot rows) vo vs q c) (hq:QOK n0 h q) (hl:∀i j,(dL q i j).map KL=Q i j)
 (hk:∀y,y<nx→y≠nb→(∀z∈q,z.at' i j=true→z.o≠ .tok y)→h2 y=h y) (ha:nx≤a) (ha2:h2 a=some .tip) (hn0:n0≤nx) (hm:h2 nb=some (.mp ((mE q c i j (.tok a) x).map Kc) c2)) (hd:aI h2 nx2):
 WI n0 h2 nx2 wb nb tb vo vs P wv lc ot rows S (qA Q i j (Q i j++[x.2])):=by
 have tok:∀z∈q,∀y,z.o= .tok y→h y=some .tip:=fun z hz y e=>by
  obtain⟨b,h1,_,h3⟩:=hq.tk z hz;rw[h1] at e;injection e with e;rw[←e];exact h3
 refine H.queue (fun y k es he=>hk y (H.dom _ _ he) (sV he hw.mp) fun z hz _ e=>by rw[tok z hz y e] at he;cases he) (fun y es k hy he=>hk y (H.dom _ _ he) hy fun z hz _ e=>by rw[tok z hz y e] at he;cases he) hd hm ?_ fun a' b'=>?_
 ·refine hq.push or ha2 fun y hy hn=>⟨fun e=>?_,fun b e=>?_⟩
  ·have:=H.dom _ _ (tok y hy a e);omega
  have hb:=tok y hy b e;refine hk b (H.dom _ _ hb) (zc hw.mp hb).symm fun z hz hz2 e2=>?_;have hne:y≠z:=fun e3=>hn (e3▸hz2);obtain⟨i1,hi1,rfl⟩:=Km.1 hy;obtain⟨i2,hi2,rfl⟩:=Km.1 hz;have hii:i1≠i2:=fun e3=>hne (by subst e3;rfl);have hp:=List.pairwise_iff_getElem.1 hq.td;rcases Nat.lt_or_gt_of_ne hii with k1|k1
  ·exact hp i1 i2 hi1 hi2 k1 (e.trans e2.symm)
  exact hp i2 i1 hi2 hi1 k1 (e2.trans e.symm)
 unfold qA;split
 ·rename_i e;obtain⟨rfl,rfl⟩:=e;rw[uw,Kx,hl];rfl
 rename_i e;rw[av e];exact hl a' b'
set_option maxRecDepth 100000 in
set_option maxHeartbeats 8000000 in
theorem EM{n0:Nat}{B:Hp}{nxB wb nb tb:Nat}{vo:Own}{vs:List Nat}{P:Int}{wv lc:V}{ot:Own}{rows:List V}{S:Nat→CS}{Q:Int→Int→List Nt}(H:WI n0 B nxB wb nb tb vo vs P wv lc ot rows S Q)
 (m:Nat) (hm:m<vs.length) (nt:Nt) (ox:Own) (nx0:Nat) (b0:B nx0=some (.arr .leaf [.ptr wb (.agg 4) 0 0])) (hcs:nt.cs.length≤100000) (hok:∀k,eO (S k).1 (S k).2) (hn0:n0≤nxB) (hql:∀a b,(Q a b).length<1000) (hvs:vs.length≤17) (aJP:V→Hp→Nat→Prop)
 (hap:(aV P (S 0).1 (S 0).2 nt.cs).1=0→(aV P (S (m+1)).1 (S (m+1)).2 nt.cs).1=0)
 (hPe:∀h2 nx2,nxB≤nx2→Fr n0 (tb::vs) B h2→(aV P (S 0).1 (S 0).2 nt.cs).1≠0→WI n0 h2 nx2 wb nb tb vo vs P wv lc ot rows S Q→aJP (fC (aV P (S 0).1 (S 0).2 nt.cs).1) h2 nx2)
 (hPo:∀h2 nx2,nxB≤nx2→Fr n0 (tb::vs) B h2→(aV P (S 0).1 (S 0).2 nt.cs).1=0→WI n0 h2 nx2 wb nb tb vo vs P wv lc ot rows (dS (dS S 0 (aV P (S 0).1 (S 0).2 nt.cs).2) (m+1) (aV P (S (m+1)).1 (S (m+1)).2 nt.cs).2) (eS vs.length Q m nt)→aJP (fC 0) h2 nx2):
 lwp Tryz.prog (.seq (.seq (.ops L.aHO) (.seq (.ops L.aHN) (.cond (.slot 57) (.seq (.ops L.aHM) .ret) .skip))) (.seq (.seq (.ops L.aHL) (.block 1 (.loop L.aLM))) (.seq (.ops L.aHK) .ret))) (iB [.slot 8] aJP)
  ⟨aB 97 0 [(1, .int .i64 m),(4, .ptr nx0 .leaf 0 0),(8, .nilIface),(10,cgs ox nt.cs)],B,nxB⟩:=by
 simp only[aB,go_sem,reduceIte,jA,jB,jC,jD,reduceCtorEq,jE,jF];obtain⟨q,c,hw,hq,hl⟩:=H.q;obtain⟨mt,hmt,hct⟩:=H.t;have c1:=hw.cell;have n1:wb<nxB:=H.dom _ _ c1;have n2:nx0<nxB:=H.dom _ _ b0;refine aue (e4 b0 c1 n1 n2) ?_;refine bN ((yL ox nt.cs hcs _ _ (hok 0) P _ _ tb mt _ _ H.dom hct).mono ?_);rintro v h2 nx2 aBs ⟨rfl,⟨m2,hc2,hm2⟩,hk,hke,hd2,_⟩;have hv:=iL (aV P (S 0).1 (S 0).2 nt.cs).1;have hF2:Fr n0 (tb::vs) B h2:=⟨fun x hx=>by have:=H.lo.2 tb Zm;exact hk x or or,fun x k es hx he=>hk x (H.dom _ _ he) (fun e=>hx (by rw[e];simp))⟩;unfold dM;refine Zn ?_;by_cases he:(aV P (S 0).1 (S 0).2 nt.cs).1=0;case neg=>
  rw[decide_eq_false he] at hv;refine aue hv ?_;exact aG h2 (Kd _) (hPe h2 _ ZN hF2 he (H.aBB (fun x _=>by rw[hke he]) (hd2.up ZN)))
 rw[decide_eq_true he] at hv;have hbt:nx0≠tb:=fun e=>by rw[e,hct.cell] at b0;simp[kJ] at b0
 have hbv:∀k (hk:k<vs.length),nx0≠vs[k]:=fun k hk e=>by
  obtain⟨m',_,hc'⟩:=H.v k hk;rw[e,hc'.cell] at b0;simp[kJ] at b0
 have hb0:nx0∉tb::vs:=fun e=>by
  rcases Ko.1 e with e|e
  ·exact hbt e
  obtain⟨k,hk,e2⟩:=Km.1 e;exact hbv k hk e2.symm
 have b2:h2 nx0=some (.arr .leaf [.ptr wb (.agg 4) 0 0]):=by rw[hk _ n2 hbt];exact b0
 have H2:WI n0 h2 nx2 wb nb tb vo vs P wv lc ot rows (dS S 0 (aV P (S 0).1 (S 0).2 nt.cs).2) Q:=H.apply 0 Zm hk hd2 hm2 hmt hc2;have hap:=hap he;obtain⟨T',hT'⟩:∃T',T'=(aV P (S 0).1 (S 0).2 nt.cs).2:=⟨_,rfl⟩;obtain⟨V',hV'⟩:∃V',V'=(aV P (S (m+1)).1 (S (m+1)).2 nt.cs).2:=⟨_,rfl⟩;rw[←hT'] at H2;rw[←hT',←hV'] at hPo;have c2:h2 wb=some (.arr (.agg 4) [.agg [.sl .leaf ot rows, .ptr tb (.agg 4) 0 0, .sl .leaf vo (vs.map fun v=> .ptr v (.agg 4) 0 0), .map nb]]):=by rw[hk _ n1 (si c1 hct.cell)];exact c1
 have n4:wb<nx2:=or;have n5:nx0<nx2:=or;refine aue (e6 hv b2 c2 n4 n5 (@jK Nat V)) ?_;clear hc2 hm2 hke hk hmt hct
 refine aO (fun k:Nat=>aB 97 0 [(1, .int .i64 m),(4, .ptr nx0 .leaf 0 0),(8, .nilIface),(10,cgs ox nt.cs),(62, .sl .leaf vo (vs.map fun v=> .ptr v (.agg 4) 0 0)),(63, .int .i64 vs.length),(64, .int .i64 k)])
  (fun k hp nx1=>k≤vs.length∧nx2≤nx1∧Fr n0 (tb::vs) B hp∧hp nx0=some (.arr .leaf [.ptr wb (.agg 4) 0 0])∧WI n0 hp nx1 wb nb tb vo vs P wv lc ot rows (tZ S T' V' m k) (eS k Q m nt))
  (fun k=>vs.length-k) 0 ⟨KI _,ZN,hF2,b2,?_⟩ (wkl trivial) ?_
 ·rw[BE,show tZ S T' V' m 0=dS S 0 T' from if_neg or];exact H2.aBB (fun _ _=>rfl) (hd2.up ZN)
 rintro k hp nx1 ⟨hk,hnx,hfr,p0,HK⟩;generalize hQ:bH _ _ _ _ _=Q0;simp only[aB,go_sem,reduceIte,jA,jB,jC,jD,reduceCtorEq,jE,jF];rcases KN k vs.length with hlt|hge;case inr=>
  have hc1:decide ((k:Int)<(vs.length:Int))=false:=dcf;refine aue hc1 ?_;rw[←hQ];refine au ?_;have hkv:k=vs.length:=or;subst hkv;rw[show tZ S T' V' m vs.length=dS (dS S 0 T') (m+1) V' from if_pos hm] at HK;exact aG hp (Kd _) (hPo hp _ ZN hfr he (HK.aBB (fun _ _=>rfl) (HK.dom.up ZN)))
 have hc1:decide ((k:Int)<(vs.length:Int))=true:=dct;have hw1:IntKind.i64.wrap ((k:Int)+1)=((k+1:Nat):Int):=wrp;have hg:(vs.map fun v=>V.ptr v (.agg 4) 0 0).getD k (.tup [])= .ptr vs[k] (.agg 4) 0 0:=bY (fun v=>V.ptr v (.agg 4) 0 0) _ vs k hlt;obtain⟨q',c',hw',hq',hl'⟩:=HK.q;have d1:=hw'.cell;have d2:=hw'.mp;have l1:wb<nx1:=HK.dom _ _ d1;have l2:nb<nx1:=HK.dom _ _ d2;have l3:nx0<nx1:=HK.dom _ _ p0;by_cases hkm:k=m;case pos=>
  subst hkm;have g1:((k:Int) != (k:Int))=false:=bnf;obtain⟨mv,hmv,hcv⟩:=HK.v k hlt;rw[show tZ S T' V' k k=dS S 0 T' from if_neg or,show dS S 0 T' (k+1)=S (k+1) from if_neg or] at hcv;refine aue (e6 hc1 hw1 hg hlt g1 (@jK Nat V)) ?_;refine bN ((yL ox nt.cs hcs _ _ (hok (k+1)) P _ _ vs[k] mv _ _ (dmo HK.dom) hcv).mono ?_);rintro v h5 nx5 aVX ⟨rfl,⟨m5,hc5,hm5⟩,hk5,_,hd5,_⟩;have hv5:=iL (aV P (S (k+1)).1 (S (k+1)).2 nt.cs).1;rw[decide_eq_true hap] at hv5;try dsimp only at aVX hk5 hm5
  unfold dM;refine Zn ?_;refine aue (e2 hv5 hw1) ?_;rw[←hQ];have hxv:vs[k]∈tb::vs:=KJ _ (Ki hlt);refine aD (k+1) or ⟨hlt,by first|omega|(dsimp only at aVX⊢;omega),hfr.trans ⟨fun x hx=>?_,fun x kk es hx he=>?_⟩,?_,?_⟩ (wkl trivial)
  ·have:=HK.lo.2 _ hxv;have:=HK.dom _ _ hcv.cell;exact hk5 x or or
  ·exact hk5 x (HK.dom _ _ he) (fun e=>hx (e▸hxv))
  ·rw[hk5 nx0 l3 (hbv k hlt)];exact p0
  rw[j5,show tZ S T' V' k (k+1)=dS (dS S 0 T') (k+1) V' from if_pos or];rw[show tZ S T' V' k k=dS S 0 T' from if_neg or] at HK;rw[hV'];exact(HK.apply (k+1) (by simpa using hlt) hk5 hd5 hm5 hmv hc5).aBB (fun _ _=>rfl) (hd5.up ZN)
 have g1:((k:Int) != (m:Int))=true:=bnt;have hf:fA (.plain (.agg 2) [.int, .int]) (.agg [.int .i64 m, .int .i64 k]) (q'.map Kc)=some (eZ q' m k):=tJ m k q';have hg2:=rh q' m k;have hqe:eS k Q m nt m k=Q m k:=by unfold eS;rw[if_neg or]
 have hxl:(cgs ox nt.cs).aAD=true:=rfl
 have aBh:∀(H2:Hp) (nx3 c3:Nat),nx1+18≤nx3→aI H2 nx3→H2 (nx1+17)=some .tip→H2 nb=some (.mp ((mE q' c' m k (.tok (nx1+17)) (ox,nt)).map Kc) c3)→(∀y,y<nx1→y≠nb→(∀z∈q',z.at' m k=true→z.o≠ .tok y)→H2 y=hp y)→
  k+1≤vs.length∧nx2≤nx3∧Fr n0 (tb::vs) B H2∧H2 nx0=some (.arr .leaf [.ptr wb (.agg 4) 0 0])∧WI n0 H2 nx3 wb nb tb vo vs P wv lc ot rows (tZ S T' V' m (k+1)) (eS (k+1) Q m nt):=fun H2 nx3 c3 h1 h3 h4 h5 h6=>by
  have tok:∀z∈q',∀y,z.o= .tok y→n0≤y∧hp y=some .tip:=fun z hz y e=>by
   obtain⟨b,x1,x2,x3⟩:=hq'.tk z hz;rw[x1] at e;injection e with e;rw[←e];exact⟨x2,x3⟩
  have aJ0:∀y kk es,hp y=some (.arr kk es)→H2 y=hp y:=fun y kk es he=>h6 y (HK.dom _ _ he) (sV he d2) fun z hz _ e=>by rw[(tok z hz y e).2] at he;cases he
  refine⟨hlt,or,hfr.trans ⟨fun x hx=>?_,fun x kk es _ he=>aJ0 x kk es he⟩,by rw[aJ0 _ _ _ p0];exact p0,?_⟩
  ·have:=HK.lo.1;exact h6 x or or fun z hz _ e=>by have:=(tok z hz x e).1;omega
  have:=HK.push hw' hq' hl' h6 or h4 or h5 h3;rw[hqe] at this;rw[BF Q m k nt hkm,zg S T' V' hkm];exact this
 cases hfi:eZ q' m k with
 |none=>
  have aAT:=z7 hfi c' (.tok (nx1+17)) (ox,nt);have hno:∀z∈q',¬z.at' m k=true:=fun z hz=>by
   have:=List.findIdx?_eq_none_iff.1 hfi z hz;unfold QE.at';rw[this];simp
  rw[hfi] at hf hg2;rw[wZ hfi] at hg2;refine aue (DK hc1 hw1 hg hlt g1 (@jK Nat V) p0 d1 d2 l1 l2 l3 hf (e2 hg2 hxl)) ?_;refine g7 (c:=c') (es:=q'.map Kc) rfl rfl (by simp only[Ka];rw[if_neg or,if_neg or];exact d2) hf (fun jj e=>by cases e) (fun _=>?_);refine Zn ?_;refine aue hw1 ?_;rw[←hQ];exact aD (k+1) or (aBh _ _ _ ZN (dmo HK.dom) (by simp only[Ka];rw[if_neg or];simp) (by simp only[Ka,if_true];exact congrArg (fun e=>some (Blk.mp e _)) aAT) (fun y hy hne _=>by simp only[Ka];rw[if_neg hne,if_neg or,if_neg or])) (wkl trivial)
 |some j=>
  have aAT:=z6 hfi c' (.tok (nx1+17)) (ox,nt);rw[qV,Kx] at aAT;rw[hfi] at hf hg2;obtain⟨hkl,hka⟩:=xA hfi;rw[wY hfi] at hg2;have hxm:q'.getD j default∈q':=by rw[Kg,KD hkl];exact Ki hkl
  obtain⟨b,hb1,hb0,hb2⟩:=hq'.tk _ hxm;rw[hb1] at hg2;obtain⟨es,hes⟩:∃es,es=(dL q' m k).map bc:=⟨_,rfl⟩;have hg2:rK false (.sl .leaf .nil []) (q'.map Kc) (some j)= .sl .leaf (.tok b) es:=by rw[hes];exact hg2
  have hel:es.length≤1000:=by rw[hes,jK,←jK (f:=KL),hl',hqe];exact Nat.le_of_lt (hql m k)
  have aWi:(es.length+1)*24≤140737488355328:=or;have hbn:=HK.dom _ _ hb2;have hco:∀aAR aAL,iW hp nx1 aAR aAL [none,none,none,none,none,none,none,none,none,none,none,none,none,none,none,none,none] b .tip:=fun _ _=>lN hbn hb2 (by simp[cS]);refine aue (DK hc1 hw1 hg hlt g1 (@jK Nat V) p0 d1 d2 l1 l2 l3 hf (e4 hg2 hxl aWi hco)) ?_;have aWS:nb≠b:=zc d2 hb2;refine g7 (c:=c') (es:=q'.map Kc) rfl rfl (by simp only[Ka,Kf];rw[if_neg aWS,if_neg or,if_neg or];exact d2) hf (fun jj e=>?_) (fun e=>by cases e);injection e with e;subst e;refine Zn ?_;refine aue hw1 ?_;rw[←hQ];exact aD (k+1) or (aBh _ _ _ ZN (dmo HK.dom) (by simp only[Ka,Kf];rw[if_neg or,if_neg or];simp) (by simp only[Ka,if_true];exact congrArg (fun e=>some (Blk.mp e _)) (by rw[hes];exact aAT)) (fun y hy hne hz=>by
   have hyb:y≠b:=fun e=>hz _ hxm hka (by rw[hb1,e]);simp only[Ka,Kf];rw[if_neg hne,if_neg hyb,if_neg or,if_neg or])) (wkl trivial)
set_option maxRecDepth 100000 in
set_option maxHeartbeats 8000000 in
theorem E8{n0:Nat}{h':Hp}{nx wb nb tb:Nat}{vo:Own}{vs:List Nat}{P:Int}{wv lc:V}{ot:Own}{rows:List V}{S:Nat→CS}{Q:Int→Int→List Nt}(H:WI n0 h' nx wb nb tb vo vs P wv lc ot rows S Q)
 (T:Nat→Nat→List Pa) (n:Nat) (hT:CJ T n rows) (hlen:∀a b,(T a b).length≤1000) (i:Int) (nt:Nt) (o:Own) (aWW:nt.made.length≤1000) (hok:∀k,eO (S k).1 (S k).2) (hn0:n0≤nx) (hql:∀a b,(Q a b).length<1000) (hvs:vs.length≤17)
 (hap:(aV P (S 0).1 (S 0).2 nt.cs).1=0→doE vs.length P (S 0) T n i nt=0→(aV P (S (i.toNat+1)).1 (S (i.toNat+1)).2 nt.cs).1=0):
 bD Tryz.prog 11 [.ptr wb (.agg 4) 0 0, .int .i64 i,nt.aAS.v, .sl (.agg 3) o (nt.made.map Sp.v)] h' nx fun v h'' nx2=>nx≤nx2∧Fr n0 (tb::vs) h' h''∧v=fC (doE vs.length P (S 0) T n i nt)∧
  ((doE vs.length P (S 0) T n i nt≠0∧WI n0 h'' nx2 wb nb tb vo vs P wv lc ot rows S Q)∨
   (doE vs.length P (S 0) T n i nt=0∧WI n0 h'' nx2 wb nb tb vo vs P wv lc ot rows (dS (dS S 0 (aV P (S 0).1 (S 0).2 nt.cs).2) (i.toNat+1) (aV P (S (i.toNat+1)).1 (S (i.toNat+1)).2 nt.cs).2) (eS vs.length Q i nt))):=by
 refine aF L.g5z fun hd=>?_;simp only[jL,jM,jA,jB,jN,jO,jP,jQ,Kb];have hd:aI h' nx:=hd;have htf:=Sp.aAC nt.aAS;have htv:nt.aAS.v= .agg [.int .i64 nt.aAS.p, .int .i64 nt.aAS.t.e, .int .i64 nt.aAS.t.r]:=rfl;rw[htv] at htf⊢;refine aue htf ?_;obtain⟨A,hA⟩:∃A,A=(h'.set nx (.arr .leaf [.ptr wb (.agg 4) 0 0])).set (nx+1) (.arr (.agg 3) [.agg [.int .i64 nt.aAS.p, .int .i64 nt.aAS.t.e, .int .i64 nt.aAS.t.r]]):=⟨_,rfl⟩;rw[←hA];have a0:A nx=some (.arr .leaf [.ptr wb (.agg 4) 0 0]):=by rw[hA];simp only[Ka];rw[if_neg or];simp
 have a1:A (nx+1)=some (.arr (.agg 3) [.agg [.int .i64 nt.aAS.p, .int .i64 nt.aAS.t.e, .int .i64 nt.aAS.t.r]]):=by rw[hA];simp only[Ka,if_true]
 have hkA:∀x,x<nx→A x=h' x:=fun x hx=>by rw[hA];simp only[Ka];rw[if_neg or,if_neg or]
 have hdA:aI A (nx+2):=by rw[hA];exact dmo hd
 have HA:WI n0 A (nx+2) wb nb tb vo vs P wv lc ot rows S Q:=H.aBB hkA hdA;have hfA:Fr n0 (tb::vs) h' A:=Fr.of hd hn0 hkA;clear hA;obtain⟨q,c,hw,hq,hl⟩:=HA.q;obtain⟨mt,hmt,hct⟩:=HA.t;have c1:=hw.cell;have n1:wb<nx+2:=hdA _ _ c1;have C5:=kN hw i
 have aBV:∀(e:Int) (nx2:Nat),nx+2≤nx2→doE vs.length P (S 0) T n i nt=e→e≠0→nx≤nx2∧Fr n0 (tb::vs) h' A∧fC e=fC (doE vs.length P (S 0) T n i nt)∧
  ((doE vs.length P (S 0) T n i nt≠0∧WI n0 A nx2 wb nb tb vo vs P wv lc ot rows S Q)∨
   (doE vs.length P (S 0) T n i nt=0∧WI n0 A nx2 wb nb tb vo vs P wv lc ot rows (dS (dS S 0 (aV P (S 0).1 (S 0).2 nt.cs).2) (i.toNat+1) (aV P (S (i.toNat+1)).1 (S (i.toNat+1)).2 nt.cs).2) (eS vs.length Q i nt))):=fun e nx2 hx he h0=>
  ⟨or,hfA,by rw[he], .inl ⟨by rw[he];exact h0,HA.aBB (fun _ _=>rfl) (hdA.up hx)⟩⟩
 by_cases hi:0≤i∧i<vs.length;case neg=>
  have g1:(decide (0≤i)&&decide (i<vs.length))=false:=by rw[←Kj];exact decide_eq_false hi
  rw[g1] at C5;refine au ?_;exact aG A (Kd _) (aBV 1 _ ZN (by unfold doE;rw[if_pos hi]) ZM)
 have g1:(decide (0≤i)&&decide (i<vs.length))=true:=by rw[←Kj];exact decide_eq_true hi
 rw[g1] at C5;have z1:nx<nx+2:=or;have z2:nx+1<nx+2:=or;refine aue (e6 c1 n1 a0 a1 z1 z2) ?_;refine bK (w7 nt.aAS hct) rfl (aT _) ?_;refine Zn ?_;by_cases hg:cZ (S 0).1 nt.aAS<1;case pos=>
  have g2:decide (cZ (S 0).1 nt.aAS<1)=true:=decide_eq_true hg;refine aue g2 ?_;exact aG A (Kd _) (aBV 13 _ ZN (by unfold doE;rw[if_neg (fun h=>h hi),if_pos hg]) ZM)
 have g2:decide (cZ (S 0).1 nt.aAS<1)=false:=decide_eq_false hg;have C6:aY Tryz.prog 44 [.sl (.agg 3) o (nt.made.map Sp.v), .fn (.func 41) [] [.ptr nx .leaf 0 0, .ptr (nx+1) (.agg 3) 0 0]] A (.bool (nt.made.any (fun u=> !mkB T n nt.aAS u))):=
  eB Sp.v Sp.aAC tW zK (fun u=> !mkB T n nt.aAS u) o nt.made _ [.ptr nx .leaf 0 0, .ptr (nx+1) (.agg 3) 0 0] _ (fun u _=>j2 hw T n hT hlen nt.aAS u a0 a1) or
 cases aBW:nt.made.any (fun u=> !mkB T n nt.aAS u) with
 |true=>
  rw[aBW] at C6;refine aue g2 ?_;exact aG A (Kd _) (aBV 2 _ ZN (by unfold doE;rw[if_neg (fun h=>h hi),if_neg hg,if_pos aBW]) ZM)
 |false=>
 rw[aBW] at C6;have hE:doE vs.length P (S 0) T n i nt=(aV P (S 0).1 (S 0).2 nt.cs).1:=by unfold doE;rw[if_neg (fun h=>h hi),if_neg hg,if_neg (by rw[aBW];simp)]
 have C5:=Cb hw i or (fun j=>by have:=hql i j;rw[←hl,jK] at this;exact this);generalize hD:aZ.draw 7 L.aHP L.aFI=DR;refine aue (e3 g2 a0 z1) ?_;generalize hC:nW (lwp Tryz.prog _) (iB _ _)=QC;obtain⟨m,rfl⟩:∃m:Nat,i=m:=⟨i.toNat,or⟩;have hm:m<vs.length:=or;have hcl:nt.cs.length≤100000:=by rw[Nt.aCt];omega
 have aA9:∀(ox:Own) (C:Hp) (nxC:Nat) (sl:List V),nx+2≤nxC→aI C nxC→(∀x,x<nx+2→C x=A x)→WkL sl (aB 97 0 [(1, .int .i64 m),(4, .ptr nx .leaf 0 0),(8, .nilIface),(10,cgs ox nt.cs)])→QC .normal ⟨sl,C,nxC⟩:=fun ox C nxC sl hx hdC hkC hsl=>by
  have hfC:Fr n0 (tb::vs) A C:=Fr.of hdA or hkC;rw[←hC];refine fT ⟨_,C,nxC⟩ ⟨hsl,Kd _,Kp _⟩ ?_;refine EM (HA.aBB hkC hdC) m hm nt ox nx (by rw[hkC _ or];exact a0) hcl hok or hql hvs _ (fun h0=>hap h0 (by rw[hE];exact h0)) (fun h2 nx2 hx2 hf2 h0 hW=>⟨or,(hfA.trans hfC).trans hf2,by rw[hE], .inl ⟨by rw[hE];exact h0,hW⟩⟩) (fun h2 nx2 hx2 hf2 h0 hW=>⟨or,(hfA.trans hfC).trans hf2,by rw[hE,h0], .inr ⟨by rw[hE];exact h0,?_⟩⟩);rw[jG];exact hW
 clear hC;rw[←hD];clear hD;have hcm:=Fx nt;have hl1:(bX nt.made 1).length=nt.made.length:=by simp[bX]
 have hl2:(nt.made.length+1)*32≤140737488355328:=or;rcases List.eq_nil_or_concat nt.made with hm0|⟨_,_,hm0⟩
 ·have hcm:nt.cs.map Cg.v=[.agg [.int .i64 nt.aAS.p, .int .i64 nt.aAS.t.e, .int .i64 nt.aAS.t.r, .int .i64 (-1)]]:=by rw[←hcm,hm0];rfl
  refine aue trivial ?_;refine bK (yh o 1 _) (by rw[hm0];rfl) (aT _) ?_;refine Zn ?_;refine aue (e4 a1 z2 htf hcm) ?_;exact aA9 (.tok (nx+15)) _ _ _ or (dmo hdA) (fun x hx=>by simp only[Ka];repeat rw[if_neg or]) (by simp only[WkL,aB,jH,jI,jJ,cgs,hcm,go_sem,reduceIte,jA,jB,jC,jD,reduceCtorEq,jE,jF])
 refine aue trivial ?_;refine AE (l5 o nt.made 1 or (by rw[hm0];simp) _) rfl (aT _) ?_;refine Zn ?_;have ca1:iW A (nx+10) [0,1,2,3,4] [none,some .tip,none,none,some .tip] [none,none,none,none,none] (nx+11) .tip:=⟨by simp[cS], .inr ⟨1,Zm,rfl,rfl⟩⟩;refine aue (e7 a1 z2 htf hcm hl1 hl2 ca1) ?_;exact aA9 (.tok (nx+15)) _ _ _ or (dmo hdA) (fun x hx=>by simp only[Ka,Kf];repeat rw[if_neg or]) (by simp only[WkL,aB,jH,jI,jJ,cgs,go_sem,reduceIte,jA,jB,jC,jD,reduceCtorEq,jE,jF])
end Go.Proofs.YtecepaehmojpgaaGreat
namespace Go.Proofs.YtecepaehmojpgaaGreat
open Go.RowKit Go.Sort
def aS:Sp:=⟨0,⟨1,0⟩⟩
def bS:Sp:=⟨1,⟨1,0⟩⟩
def aN:Nt:=⟨aS,[bS]⟩
def aC:CS:=([⟨aS,1,0⟩],1)
def bC:CS:=([⟨bS,1,1⟩],2)
theorem qi:aV 2 [] 0 (bX [aS] 1)=(0,aC):=ZM
theorem nA:aV 2 aC.1 aC.2 aN.cs=(0,bC):=ZM
theorem Ee:eO aC.1 aC.2:=⟨ZM,ZM,ZM,ZM⟩
theorem Fa:eO bC.1 bC.2:=⟨ZM,ZM,ZM,ZM⟩
theorem Fi:mkB (cQ kH) 2 aS bS=true:=by
 unfold mkB sS;rw[show aS.p.toNat=0 from rfl,show bS.p.toNat=1 from rfl,ou];decide
theorem Ex:doE 2 2 aC (cQ kH) 2 0 aN=0:=by
 unfold doE;rw[if_neg ZM,if_neg ZM,if_neg,show aV 2 aC.1 aC.2 aN.cs=(0,bC) from nA];rw[show aN.made.any (fun u=> !mkB (cQ kH) 2 aN.aAS u)=(!mkB (cQ kH) 2 aS bS||false) from rfl,Fi];decide
theorem s9{b:Nat}{w:List We}(h:iS kH 1 w b):w=[]∧b=1:=by
 cases w with
 |nil=>exact⟨rfl,(show 1=b from h).symm⟩
 |cons x w=>
  obtain⟨h1,h2,_⟩:=h;simp[kH] at h1;subst h1;cases h2
theorem Ad:cQ kH 1 1=[Pa.aAQ]:=
 pN ⟨by simp[Can],(fun p hp=>by simp at hp;subst hp;exact⟨[],rfl,rfl⟩),fun p ⟨l,h1,h2⟩=>⟨Pa.aAQ,Zm,by
  have h3:=(s9 h1).1;subst h3;have h2:some Pa.aAQ=some p:=h2;injection h2 with h2;rw[←h2];decide⟩⟩
theorem Ae:cQ kH 1 0=[]:=
 pN ⟨by simp[Can],(fun p hp=>by cases hp),fun p ⟨l,h1,h2⟩=>by have:=(s9 h1).2;omega⟩
theorem AB{T:Nat→Nat→List Pa}{b:Nat}{s:Sp}{l:List Pa}(h:T s.p.toNat b=l):frT T b [s]=jU s.t l:=by
 unfold frT;rw[List.flatMap_cons,List.flatMap_nil,List.append_nil,h]
theorem Ga:oZ aC.1=[aS]:=ZM
theorem F9:oZ bC.1=[bS]:=ZM
theorem EH:ofT (frT (cQ kH) 1 [aS])=[⟨1,0⟩]:=by
 rw[AB ou,show jU aS.t [Pa.aAQ]=[⟨1,0⟩] from by decide,zG];decide
theorem EG:ofT (frT (cQ kH) 1 [bS])=[⟨1,0⟩]:=by
 rw[AB Ad,show jU bS.t [Pa.aAQ]=[⟨1,0⟩] from by decide,zG];decide
theorem DF:ofT (frT (cQ kH) 0 [bS])=[]:=by
 rw[AB Ae,show jU bS.t []=[] from rfl,zG];decide
attribute [local irreducible] Kt
structure RG(F:List (Nat×Nat×V))(fix:List (Nat×V))(n:Nat)(D:Nat→Bool)(sl:List V):Prop where
 len:sl.length=n
 fx:∀p∈fix,sl.getD p.1 Kb=p.2
 dn:∀f∈F,D f.1=true→sl.getD f.2.1 Kb=f.2.2
theorem RG.slot{F:List (Nat×Nat×V)}{fix:List (Nat×V)}{n:Nat}{D:Nat→Bool}{sl:List V}(r:RG F fix n D sl)(i t:Nat)(v:V)(ht:t<n)(hF:∀f∈F,(f.1=i∨f.2.1=t)→f=(i,t,v))(hx:∀p∈fix,p.1≠t):
 RG F fix n (fun j=>if j=i then true else D j) (sl.set t v):=by
 obtain⟨len,fx,dn⟩:=r;refine⟨by rw[Kq];exact len,fun p hp=>?_,fun f hf hd=>?_⟩
 ·rw[gsl,if_neg (fun e=>hx p hp e.1.symm)];exact fx p hp
 rw[gsl];by_cases e:t=f.2.1
 ·have:=hF f hf (.inr e.symm);subst this;rw[if_pos ⟨rfl,by rw[len];exact ht⟩]
 rw[if_neg (fun k=>e k.1)];by_cases e2:f.1=i
 ·have:=hF f hf (.inl e2);subst this;exact absurd rfl e
 rw[if_neg e2] at hd;exact dn f hf hd
theorem RG.none{F:List (Nat×Nat×V)}{fix:List (Nat×V)}{n:Nat}{D:Nat→Bool}{sl:List V}(r:RG F fix n D sl)(i:Nat)(hF:∀f∈F,f.1≠i):RG F fix n (fun j=>if j=i then true else D j) sl:=
 ⟨r.len,r.fx,fun f hf hd=>r.dn f hf (by rwa [if_neg (hF f hf)] at hd)⟩
theorem WI.box{h h2:Hp}{n0 n1 nx nx2 wb nb tb:Nat}{vo:Own}{vs:List Nat}{P:Int}{wv lc:V}{ot:Own}{rows:List V}{S:Nat→CS}{Q:Int→Int→List Nt}(H:WI n0 h nx wb nb tb vo vs P wv lc ot rows S Q)(hk:∀x b,h x=some b→(∀es,b≠ .arr (.agg 3) es)→h2 x=h x)(hd:aI h2 nx2)(hn:n1≤n0):WI n1 h2 nx2 wb nb tb vo vs P wv lc ot rows S Q:=by
 obtain⟨q,c,hw,hq,hl⟩:=H.q;refine⟨⟨q,c,⟨?_,?_⟩,⟨fun x hx=>?_,hq.td,hq.key,hq.ne⟩,hl⟩,hd,fun i hi=>?_,H.d,KG hn H.lo.1,fun x hx=>KG hn (H.lo.2 x hx)⟩
 ·rw[hk _ _ hw.cell (fun _ e=>by injection e with e;cases e)];exact hw.cell
 ·rw[hk _ _ hw.mp (fun _ e=>by cases e)];exact hw.mp
 ·obtain⟨b,h1,h0,h3⟩:=hq.tk x hx;exact⟨b,h1,KG hn h0,by rw[hk _ _ h3 (fun _ e=>by cases e)];exact h3⟩
 obtain⟨m,hm,hc⟩:=H.c i hi;exact⟨m,hm,by rw[hk _ _ hc.cell (fun _ e=>by injection e with e;cases e)];exact hc.cell,by rw[hk _ _ hc.mp (fun _ e=>by cases e)];exact hc.mp,hc.wf,hc.lf⟩
def ae(wb:Nat):List (Nat×Nat×V):=[(0,27, .ptr wb (.agg 4) 0 0),(1,28,aS.v),(2,29,bS.v),(3,30, .nilIface),(4,31, .bool true),(5,32, .bool true),(6,33, .nilIface),(7,34, .bool true),(8,35, .bool true),(9,36, .bool true),(10,37, .ptr wb (.agg 4) 0 0),(11,38, .bool true),(12,39, .bool true),(13,0, .ptr wb (.agg 4) 0 0),(16,3, .bool true)]
def sT(wb c1 c2 c6 c7:Nat):List (Nat×V):=[(1, .ptr c1 (.agg 3) 0 0),(2, .ptr c2 (.agg 3) 0 0),(5, .nilIface),(6, .ptr c6 (.agg 3) 0 0),(7, .ptr c7 (.agg 3) 0 0),(8, .ptr wb (.agg 4) 0 0),(9, .nilIface)]
def mg:Sp:=⟨0,⟨0,0⟩⟩
structure RB(M:Hp)(wb c1 c2 c6 c7 nx:Nat)(D:Nat→Bool)(s:St):Prop where
 sl:RG (ae wb) (sT wb c1 c2 c6 c7) 40 D s.sl
 h1:s.h c1=some (.arr (.agg 3) [if D 14=true then aS.v else mg.v])
 h2:s.h c2=some (.arr (.agg 3) [if D 15=true then bS.v else mg.v])
 ho:∀x,x≠c1→x≠c2→s.h x=M x
 nn:nx≤s.nx
theorem RB.slot{M:Hp}{wb c1 c2 c6 c7 nx:Nat}{D:Nat→Bool}{sl:List V}{h:Hp}{n:Nat}(r:RB M wb c1 c2 c6 c7 nx D ⟨sl,h,n⟩)(i t:Nat)(v:V)(ht:t<40)(hF:∀f∈ae wb,(f.1=i∨f.2.1=t)→f=(i,t,v))(hx:∀p∈sT wb c1 c2 c6 c7,p.1≠t)(h14:i≠14)(h15:i≠15):
 RB M wb c1 c2 c6 c7 nx (fun j=>if j=i then true else D j) ⟨sl.set t v,h,n⟩:=
 ⟨r.sl.slot i t v ht hF hx,by rw[if_neg h14.symm];exact r.h1,by rw[if_neg h15.symm];exact r.h2,r.ho,r.nn⟩
set_option maxRecDepth 100000 in
set_option maxHeartbeats 8000000 in
theorem D9(h':Hp)(nx:Nat):bD Tryz.prog 34 [] h' nx fun v h'' nx2=>nx≤nx2∧aI h'' nx2∧(∀x,x<nx→h'' x=h' x)∧
 ∃wb nb tb vo vs o2 oc ot,v= .tup [.ptr wb (.agg 4) 0 0,aS.v,bS.v, .bool true]∧vs.length=2∧nx≤wb∧WI nx h'' nx2 wb nb tb vo vs 2 (wys o2 sD) (.sl .leaf oc (eK 2 kH 2)) ot (eK 2 kH 2) (fun _=>aC) (fun _ _=>[]):=by
 refine aF L.aYt fun hd=>?_;simp only[jL,jM,jA,jB,jN,jO,jP,jQ,Kb];have hd:aI h' nx:=hd;have aCG:∀o h,aY Tryz.prog 62 [.int .i64 2, .sl (.agg 4) o [.agg [.int .i64 0, .int .i64 1, .bool false, .int .i64 0]]] h (.tup [.agg [.int .i64 2, .sl (.agg 4) .free (sD.map Wy.v)], .nilIface]):=fun o h=>by
  have:=vm o 2 sD ZM h;rw[A9] at this;exact this
 have C1:=fun h=>aCG (.tok (nx+2)) h;refine au ?_;obtain⟨A,hA⟩:∃A,A=St.h ⟨[],h',0⟩:=⟨_,rfl⟩;clear hA A;generalize hH:Ka _ _ _=A;have a1:A nx=some (.arr (.agg 3) [mg.v]):=by rw[←hH];simp only[go_sem,reduceIte,jA,jB,jC,jD,reduceCtorEq,jE,jF];rfl
 have a2:A (nx+1)=some (.arr (.agg 3) [mg.v]):=by rw[←hH];simp only[go_sem,reduceIte,jA,jB,jC,jD,reduceCtorEq,jE,jF];rfl
 have a6:A (nx+5)=some (.arr (.agg 3) [aS.v]):=by rw[←hH];simp only[go_sem,reduceIte,jA,jB,jC,jD,reduceCtorEq,jE,jF];rfl
 have a7:A (nx+7)=some (.arr (.agg 3) [bS.v]):=by rw[←hH];simp only[go_sem,reduceIte,jA,jB,jC,jD,reduceCtorEq,jE,jF];rfl
 have hkA:∀x,x<nx→A x=h' x:=by rw[←hH];exact kep Hp.same.aBG
 clear hH;refine bN ((Bm .free zF ZM Zm 2 or _ [aS] ZM _ _).mono ?_);rintro v M nxM aGC ⟨_,hdM,hkM,(⟨hne,_⟩|⟨_,wb,nb,tb,vo,vs,o2,oc,ot,rfl,hvs,hwb,hW⟩)⟩
 ·rw[qi] at hne;exact absurd rfl hne
 simp only[qi] at hW;try dsimp only at aGC hwb hkM
 unfold dM;refine Zn ?_;generalize hD:aZ.draw 18 L.aFc L.aFb=DR;refine au ?_;rw[←hD];clear hD C1;have hlo:=hW.lo;have hM:∀x,x<nx+10→M x=A x:=hkM;refine pJ ?_;refine⟨fun D s=>RB M wb nx (nx+1) (nx+5) (nx+7) nxM D s,⟨⟨rfl,?_,fun f _ e=>by cases e⟩,?_,?_,fun _ _ _=>rfl,by first|exact Kp _|(dsimp only;omega)⟩,?_,?_⟩
 ·intro p hp;simp only[sT,Ko,Kw,or_false] at hp;rcases hp with rfl|rfl|rfl|rfl|rfl|rfl|rfl<;>rfl
 ·dsimp only;rw[hM nx or];exact a1
 ·dsimp only;rw[hM (nx+1) or];exact a2
 ·rintro D i oo aAR ⟨sl,hq,n2⟩ hi hDi aAZ hcl r;have x1:=r.sl.fx (1, .ptr nx (.agg 3) 0 0) (by simp[sT]);have x2:=r.sl.fx (2, .ptr (nx+1) (.agg 3) 0 0) (by simp[sT]);have x5:=r.sl.fx (5, .nilIface) (by simp[sT]);have x6:=r.sl.fx (6, .ptr (nx+5) (.agg 3) 0 0) (by simp[sT]);have x7:=r.sl.fx (7, .ptr (nx+7) (.agg 3) 0 0) (by simp[sT]);have x8:=r.sl.fx (8, .ptr wb (.agg 4) 0 0) (by simp[sT]);have x9:=r.sl.fx (9, .nilIface) (by simp[sT]);have y:∀f∈ae wb,f.1∈aAR→sl.getD f.2.1 Kb=f.2.2:=fun f hf hd=>r.sl.dn f hf (aAZ _ hd);have h6:hq (nx+5)=some (.arr (.agg 3) [aS.v]):=by
   have:=r.ho (nx+5) or or;dsimp only at this;rw[this,hM _ or];exact a6
  have h7:hq (nx+7)=some (.arr (.agg 3) [bS.v]):=by
   have:=r.ho (nx+7) or or;dsimp only at this;rw[this,hM _ or];exact a7
  have r1:=r.h1;have r2:=r.h2;dsimp only at x1 x2 x5 x6 x7 x8 x9 r1 r2;have fin:=fun(i t:Nat) (v:V) (ht:t<40) (hF:∀f∈ae wb,(f.1=i∨f.2.1=t)→f=(i,t,v)) (hx:∀p∈sT wb nx (nx+1) (nx+5) (nx+7),p.1≠t) (h14:i≠14) (h15:i≠15)=>r.slot i t v ht hF hx h14 h15;rcases i with _|_|_|_|_|_|_|_|_|_|_|_|_|_|_|_|_|i;all_goals first|(injection hi with hi;injection hi with q1 q2;subst q1;subst q2)|skip
  all_goals simp only[ae,Ko,Kw,or_false,forall_eq_or_imp,forall_eq,jE,reduceCtorEq,false_implies,implies_true,true_or,or_true,true_implies,and_true,true_and] at y
  all_goals simp only[bF,LOp.run,LOp.sem,bR.sem,aP.ev,bQ,x1,x2,x5,x6,x7,x8,x9,y,h6,h7,veq,V.pick]
  all_goals try (first
   |exact fin _ _ _ ZM (by simp[ae]) (by simp[sT]) ZM ZM
   |(rw[if_pos trivial];exact fin _ _ _ ZM (by simp[ae]) (by simp[sT]) ZM ZM)
   |exact⟨trivial,Zm,by simp[dA],fin 1 28 aS.v ZM (by simp[ae]) (by simp[sT]) ZM ZM⟩
   |exact⟨trivial,Zm,by simp[dA],fin 2 29 bS.v ZM (by simp[ae]) (by simp[sT]) ZM ZM⟩)
  ·rw[if_neg (by rw[hDi];simp)] at r1;rw[r1];refine⟨rfl,Zm,by simp[dA],Sp.aAC aS,r.sl.none 14 (by simp[ae]),?_,?_,fun x q1 q2=>?_,Kv r.nn⟩
   ·simp only[Ka,if_true,Ky,KM];rw[cD (Sp.aAC mg) (Sp.aAC aS)]
   ·simp only[Ka];rw[if_neg or];exact r2
   simp only[Ka];rw[if_neg q1];exact r.ho x q1 q2
  ·rw[if_neg (by rw[hDi];simp)] at r2;rw[r2];refine⟨rfl,Zm,by simp[dA],Sp.aAC bS,r.sl.none 15 (by simp[ae]),?_,?_,fun x q1 q2=>?_,Kv r.nn⟩
   ·simp only[Ka];rw[if_neg or];exact r1
   ·simp only[Ka,if_true,Ky,KM];rw[cD (Sp.aAC mg) (Sp.aAC bS)]
   simp only[Ka];rw[if_neg q2];exact r.ho x q1 q2
  simp[L.aFc] at hi
 rintro D ⟨sl,H,n2⟩ hD r;have d:=fun i (h:i<17)=>hD i h;have x0:=r.sl.dn (13,0, .ptr wb (.agg 4) 0 0) (by simp[ae]) (d 13 or);have x3:=r.sl.dn (16,3, .bool true) (by simp[ae]) (d 16 or);have x1:=r.sl.fx (1, .ptr nx (.agg 3) 0 0) (by simp[sT]);have x2:=r.sl.fx (2, .ptr (nx+1) (.agg 3) 0 0) (by simp[sT]);have r1:=r.h1;have r2:=r.h2;have ho:=r.ho;have hn:=r.nn;rw[if_pos (d 14 or)] at r1;rw[if_pos (d 15 or)] at r2;dsimp only at x0 x1 x2 x3 r1 r2 ho hn;refine dZ ?_;refine aM ?_;refine bT ?_;simp only[iB,qE,pX.sem,bR.sem,aP.ev,x0,x1,x2,x3,r1,r2];have hdH:aI H n2:=fun x b hx=>by
  by_cases q1:x=nx
  ·omega
  by_cases q2:x=nx+1
  ·omega
  rw[ho x q1 q2] at hx;have:=hdM x b hx;omega
 refine⟨trivial,Zm,by simp[dA],trivial,Zm,by simp[dA],H,Kd _,or,hdH,fun x hx=>?_,wb,nb,tb,vo,vs,o2,oc,ot,rfl,hvs,or,?_⟩
 ·rw[ho x or or,hM x or];exact hkA x hx
 refine hW.box (fun x b hx hb=>?_) hdH or;refine ho x (fun e=>?_) (fun e=>?_)
 ·rw[e,hM nx or,a1] at hx;injection hx with hx;exact hb _ hx.symm
 rw[e,hM _ or,a2] at hx;injection hx with hx;exact hb _ hx.symm
end Go.Proofs.YtecepaehmojpgaaGreat
namespace Go.Proofs.YtecepaehmojpgaaGreat
open Go.RowKit Go.Sort
attribute [local irreducible] Kt
section
variable{h:Hp}{n0 nx wb nb tb:Nat}{vo:Own}{vs:List Nat}{P:Int}{wv lc:V}{ot:Own}{rows:List V}{S:Nat→CS}{Q:Int→Int→List Nt}
theorem WI.waiting(H:WI n0 h nx wb nb tb vo vs P wv lc ot rows S Q)(i j:Int):aY Tryz.prog 26 [.ptr wb (.agg 4) 0 0, .int .i64 i, .int .i64 j] h (.int .i64 (Q i j).length):=by
 obtain⟨q,c,hw,hq,hl⟩:=H.q;have:=qo hw i j;rwa [show(dL q i j).length=(Q i j).length from by rw[←hl,jK]] at this
theorem WI.settled(H:WI n0 h nx wb nb tb vo vs P wv lc ot rows S Q)(he:∀i j,Q i j=[]):aY Tryz.prog 17 [.ptr wb (.agg 4) 0 0] h (.bool true):=by
 obtain⟨q,c,hw,hq,hl⟩:=H.q;have hq0:=FM hq fun i j=>by have:=hl i j;rw[he] at this;exact KK.1 this
 have:=wR hw;rwa [decide_eq_true hq0] at this
theorem WI.members(H:WI n0 h nx wb nb tb vo vs P wv lc ot rows S Q):aY Tryz.prog 18 [.ptr wb (.agg 4) 0 0] h (.int .i64 vs.length):=by
 obtain⟨q,c,hw,hq,hl⟩:=H.q;exact rj hw
theorem Az(T:Nat→Nat→List Pa)(xs:List Sp)(k:Nat)(L:Nat→Prop):bU L (tX T xs k):=bG (fun b=>cP (fun L=>bG (Tm.aAN L) _) L) _
theorem WI.aHj{oc:Own}{ws:List Wy}{n:Nat}{l:List We}(H:WI n0 h nx wb nb tb vo vs P wv (.sl .leaf oc (eK n l n)) ot rows S Q)(R:lC P ws n l)(i:Nat)(hi:i<vs.length){K:Nat}(hst:StC P (S (i+1)).1 (S (i+1)).2 K)(hK:K≤900):
 aY Tryz.prog 20 [.ptr wb (.agg 4) 0 0, .int .i64 i] h (lst .leaf (tX (cQ l) (oZ (S (i+1)).1) n)):=by
 obtain⟨q,c,hw,hq,hl⟩:=H.q;obtain⟨m,hm,hc⟩:=H.v i hi;have hP:=R.pl;have hn:=R.le;refine qn hw i hi (fun h' hh=>?_) (Az _ _ _);exact xb (hc.has hh) hst.ok (by have:=hst.len;omega) (cQ l) n hP (ff n l) (fun a b=>by have:=vX l a b;omega) (fun y hy=>by have:=hst.right y hy;omega) or
end
theorem FJ:StC 2 aC.1 aC.2 10:=⟨Ee,(fun y hy=>by rw[Kh.1 hy];exact(by decide:cV 1=false)),ZM,ZM⟩
theorem FI:StC 2 bC.1 bC.2 10:=⟨Fa,(fun y hy=>by rw[Kh.1 hy];exact(by decide:cV 1=false)),ZM,ZM⟩
theorem FY:∃F0:V,F0.aAD=true∧lst .leaf (tX (cQ kH) (oZ aC.1) 2)= .sl .leaf .free [F0, .sl (.agg 2) .free [.agg [.int .i64 1, .int .i64 0]]]:=by
 refine⟨lst (.agg 2) ((ofT (frT (cQ kH) 0 [aS])).map Tm.v),pK ..,?_⟩;rw[Ga];show V.sl .leaf .free [_,lst (.agg 2) ((ofT (frT (cQ kH) 1 [aS])).map Tm.v)]=_;rw[EH];rfl
theorem FX:lst .leaf (tX (cQ kH) (oZ bC.1) 2)= .sl .leaf .free [.sl (.agg 2) .nil [], .sl (.agg 2) .free [.agg [.int .i64 1, .int .i64 0]]]:=by
 rw[F9];show V.sl .leaf .free [lst (.agg 2) ((ofT (frT (cQ kH) 0 [bS])).map Tm.v),lst (.agg 2) ((ofT (frT (cQ kH) 1 [bS])).map Tm.v)]=_;rw[EG,DF];rfl
set_option maxRecDepth 100000 in
set_option maxHeartbeats 8000000 in
theorem sq(h:Hp):aY Tryz.prog 7 [] h (.bool true):=by
 refine aR (fun L=>trivial) fun h' nx hh=>aF L.g1z fun hd=>?_;simp only[jL,jM,jA,jB,jN,jO,jP,jQ,Kb];refine au ?_;refine bN ((D9 h' _).mono ?_);rintro v M nxM aGC ⟨_,hdM,hkM,wb,nb,tb,vo,vs,o2,oc,ot,rfl,hvs,hwb,hW⟩;try dsimp only at aGC hkM hwb
 unfold dM;refine Zn ?_;have haf:=Sp.aAC aS;have hbf:=Sp.aAC bS;refine aue (e2 haf hbf) ?_;generalize hH:Ka _ _ _=A;have a3:A (nxM+1)=some (.arr (.agg 3) [bS.v]):=by rw[←hH];simp only[go_sem,reduceIte,jA,jB,jC,jD,reduceCtorEq,jE,jF]
 have hkA:∀x,x<nxM→A x=M x:=by rw[←hH];exact kep Hp.same.aBG
 have hdA:aI A (nxM+5):=by rw[←hH];exact dmo hdM
 clear hH;have HA:=hW.aBB hkA hdA;have hok:∀k:Nat,eO ((fun _:Nat=>aC) k).1 ((fun _:Nat=>aC) k).2:=fun _=>Ee;have hll:∀a b,(cQ kH a b).length≤1000:=fun a b=>by have:=vX kH a b;omega
 have hE:doE vs.length 2 aC (cQ kH) 2 0 aN=0:=by rw[hvs];exact Ex
 have hap:(aV 2 aC.1 aC.2 aN.cs).1=0:=by rw[nA]
 refine bN ((E8 HA (cQ kH) 2 (ff 2 kH) hll 0 aN _ ZM hok or (fun _ _=>Zm) or (fun _ _=>hap)).dom.mono ?_);rintro v D nxD aWM ⟨⟨_,hfr,rfl,(⟨h0,_⟩|⟨_,HD⟩)⟩,hdD,_⟩
 ·exact absurd hE h0
 try dsimp only at aWM
 rw[show(0:Int).toNat+1=1 from rfl] at HD;simp only[nA] at HD;rw[hE];have hb3:nxM+1∉tb::vs:=fun e=>by
  have hc:∀x∈tb::vs,∃c m,A x=some (.arr (.agg 4) [kJ 2 c (.sl .leaf oc (eK 2 kH 2)) m]):=fun x hx=>by
   obtain⟨k,hk,rfl⟩:=Km.1 hx;obtain⟨m,_,hc⟩:=HA.c k hk;exact⟨_,_,hc.cell⟩
  obtain⟨c,m,hc⟩:=hc _ e;rw[a3] at hc;injection hc with hc;injection hc with hc;cases hc
 have d3:D (nxM+1)=some (.arr (.agg 3) [bS.v]):=by rw[hfr.2 _ _ _ hb3 a3];exact a3
 unfold dM;refine Zn ?_;have q01:eS vs.length (fun _ _=>[]) 0 aN 0 1=[aN]:=by rw[hvs];rfl
 have C5:=HD.waiting 0 1;rw[q01] at C5;have g1:(((1:Nat):Int) != 1)=false:=ZM;have hv0:veq (.iface true) (fC 0) .nilIface=some true:=iL 0;have C6:=HD.aHj zF 1 or (K:=10) FJ or;obtain⟨F0,hF0,hfa⟩:=FY;have C6:aY Tryz.prog 20 [.ptr wb (.agg 4) 0 0, .int .i64 1] D (.sl .leaf .free [F0, .sl (.agg 2) .free [.agg [.int .i64 1, .int .i64 0]]]):=by
  have:=C6;rw[show dS (dS (fun _=>aC) 0 bC) 1 bC (1+1)=aC from rfl,hfa] at this;exact this
 refine aue (e2 hv0 g1) ?_;clear C5 C6;have aJi:∀k,eO (dS (dS (fun _=>aC) 0 bC) 1 bC k).1 (dS (dS (fun _=>aC) 0 bC) 1 bC k).2:=fun k=>by
  unfold dS
  (repeat' split)<;>first|exact Ee|exact Fa
 have aWH:∀a b,(eS vs.length (fun _ _=>[]) 0 aN a b).length≤1:=fun a b=>by
  unfold eS;split<;>simp
 refine bN ((jc HD 0 1 aJi (fun n hn=>by rw[q01] at hn;rw[Kh.1 hn];decide) or (by have:=aWH 0 1;omega)).dom.mono ?_);rintro v E nxE aWL ⟨⟨_,aVi,(⟨aBV,_⟩|⟨_,hq0,_⟩|⟨_,n,r,hQe,rfl,HE⟩)⟩,hdE,_⟩
 ·exact absurd ⟨or,or,or,or,or⟩ aBV
 ·rw[q01] at hq0;cases hq0
 rw[q01] at hQe;injection hQe with e1' e2';subst e1';subst e2';try dsimp only at aWL
 rw[show(1:Int).toNat+1=2 from rfl,show dS (dS (fun _=>aC) 0 bC) 1 bC 2=aC from rfl,nA] at HE;rw[show(1:Int).toNat+1=2 from rfl,show dS (dS (fun _=>aC) 0 bC) 1 bC 2=aC from rfl,nA];have hqn:∀a b,qA (eS vs.length (fun _ _=>[]) 0 aN) 0 1 [] a b=[]:=fun a b=>by
  unfold qA;split
  ·rfl
  unfold eS;rw[if_neg];omega
 have f3:E (nxM+1)=some (.arr (.agg 3) [.agg [.int .i64 1, .int .i64 1, .int .i64 0]]):=by rw[aVi.2 _ _ _ hb3 d3];exact d3
 have C5:=HE.settled hqn;have hC:=HE.aHj zF 1 or (K:=10) FI or;rw[show dS (dS (dS (fun _=>aC) 0 bC) 1 bC) 2 (0,bC).2 (1+1)=bC from rfl,FX] at hC;have C6:aY Tryz.prog 20 [.ptr wb (.agg 4) 0 0, .int .i64 1] E _:=hC;have hle:h'.le E:=fun x b hx=>by
  have hxn:=hd x b hx;rw[aVi.1 x or,hfr.1 x or,hkA x or,hkM x or];exact hx
 have hbn:nxM+1<nxE:=or;unfold dM;refine Zn ?_;have hbf:Ke (.agg 3) (.agg [.int .i64 1, .int .i64 1, .int .i64 0])=true:=rfl;have q1:(((2:Nat):Int)==2)=true:=ZM;have q2:(((1:Nat):Int)==1)=true:=ZM;have q3:(((0:Nat):Int)==0)=true:=ZM;have q4:((1:Int)==1)=true:=ZM;have q5:((0:Int)==0)=true:=ZM;refine aue (e10 hv0 f3 hbn hF0 hbf q1 q2 q3 q4 q5) ?_;exact aG h' hle ⟨rfl,rfl⟩
end Go.Proofs.YtecepaehmojpgaaGreat
namespace Go.Proofs.YtecepaehmojpgaaGreat
open Go.ChangeShapes Go.WideShapes Go.ChangeAt Go.RowKit Go.Sort
structure Act where
 dl:Bool
 a:Int
 b:Int
 aAS:Sp
 o:Own
 made:List Sp
def Act.v(x:Act):V:= .agg [.bool x.dl, .int .i64 x.a, .int .i64 x.b, .int .i64 x.aAS.p, .int .i64 x.aAS.t.e, .int .i64 x.aAS.t.r, .sl (.agg 3) x.o (x.made.map Sp.v)]
theorem Dl{v:V}(h:(AT.sl (.agg 3) [.int .i64, .int .i64, .int .i64]).ok v):∃q:Own×List Sp,v= .sl (.agg 3) q.1 (q.2.map Sp.v):=by
 cases h with
 |nil=>exact⟨(.nil,[]),rfl⟩
 |sl _ _ vs hl hf hc=>
  obtain⟨l,rfl⟩:=de Sp.v vs (fun v hv=>FK (hf v hv) (hc v hv));exact⟨(.free,l),rfl⟩
theorem EV{P:Program}{t:TypeId}{x:V}(ek:dN P t=some .leaf)(ea:lA P 12 t=some [.sl (.agg 3) [.int .i64, .int .i64, .int .i64]])(h:j0 P t x):∃(o:Own) (l:List Sp),x= .sl (.agg 3) o (l.map Sp.v):=
 have⟨q,e⟩:=Dl (ym ek ea h)
 ⟨q.1,q.2,e⟩
theorem EZ{v:V}(hf:v.fits (.agg 7)=true)(h:∀i,i<7→(([AT.bool,AT.int .i64,AT.int .i64,AT.int .i64,AT.int .i64,AT.int .i64,AT.sl (.agg 3) [.int .i64, .int .i64, .int .i64]]:List AT).getD i .bool).ok (v.cell i)):∃x:Act,v=x.v:=by
 cases v with
 |agg cs=>
  simp only[Ke,KQ,decide_eq_true_eq] at hf;match cs,hf.1 with
  | [a,b,c,d,e,f,g],_=>
   obtain⟨x,hx⟩:=Ba (h 0 or);obtain⟨y,hy⟩:=lZ (h 1 or);obtain⟨z,hz⟩:=lZ (h 2 or);obtain⟨p,hp⟩:=lZ (h 3 or);obtain⟨q,hq⟩:=lZ (h 4 or);obtain⟨r,hr⟩:=lZ (h 5 or);obtain⟨s,hs⟩:=Dl (h 6 or);refine⟨⟨x,y,z,⟨p,⟨q,r⟩⟩,s.1,s.2⟩,?_⟩;have e1:a= .bool x:=hx;have e2:b= .int .i64 y:=hy;have e3:c= .int .i64 z:=hz;have e4:d= .int .i64 p:=hp;have e5:e= .int .i64 q:=hq;have e6:f= .int .i64 r:=hr;have e7:g= .sl (.agg 3) s.1 (s.2.map Sp.v):=hs;rw[e1,e2,e3,e4,e5,e6,e7];rfl
 |_=>simp[Ke] at hf
theorem Eb{P:Program}{t:TypeId}{x:V}(ek:dN P t=some .leaf)(ea:lA P 12 t=some [.sl (.agg 7) [.bool, .int .i64, .int .i64, .int .i64, .int .i64, .int .i64, .sl (.agg 3) [.int .i64, .int .i64, .int .i64]]])(h:j0 P t x):∃(o:Own) (l:List Act),x= .sl (.agg 7) o (l.map Act.v):=by
 cases ym ek ea h with
 |nil=>exact⟨.nil,[],rfl⟩
 |sl _ _ vs hl hf hc=>
  obtain⟨l,rfl⟩:=de Act.v vs (fun v hv=>EZ (hf v hv) (hc v hv));exact⟨.free,l,rfl⟩
attribute [local irreducible] Kt
def mM(P:Int)(ws:List Wy)(bg:List Sp)(sc:List Act):Bool:=zP P ws||decide (bg.length>10)||decide (sc.length>30)||sc.any fun x=>decide (x.made.length>6)
set_option maxRecDepth 100000 in
set_option maxHeartbeats 4000000 in
theorem rp(o ob os:Own)(P:Int)(ws:List Wy)(bg:List Sp)(sc:List Act)(h:Hp):aY Tryz.prog 8 [mps o P ws, .sl (.agg 3) ob (bg.map Sp.v), .sl (.agg 7) os (sc.map Act.v)] h (.bool (mM P ws bg sc)):=by
 have hmf:(mps o P ws).fits (.agg 2)=true:=by simp[mps,Ke,V.aAD,wys]
 refine aR (fun L=>trivial) fun h' nx hh=>aF L.g2z fun hd=>?_;simp only[List.length_cons,List.length_nil,KB,KC,List.replicate_succ,List.replicate_zero,List.cons_append,List.nil_append,Kb];have hd:aI h' nx:=hd;have C1:=fun h=>An o P ws h;cases hL:zP P ws with
 |true=>
  rw[hL] at C1;refine aue hmf ?_;exact aG h' (leo hd) ⟨by unfold mM;rw[hL];rfl,rfl⟩
 |false=>
 rw[hL] at C1;by_cases h1:bg.length>10
 ·have g1:decide ((bg.length:Int)>10)=true:=dct;refine aue (e3 hmf g1 (@Ks Sp V)) ?_;exact aG h' (leo hd) ⟨by unfold mM;rw[hL,decide_eq_true h1];rfl,rfl⟩
 have g1:decide ((bg.length:Int)>10)=false:=dcf;by_cases h2:sc.length>30
 ·have g2:decide ((sc.length:Int)>30)=true:=dct;refine aue (e4 hmf g1 g2 (@Ks Act V)) ?_;exact aG h' (leo hd) ⟨by unfold mM;rw[hL,decide_eq_false h1,decide_eq_true h2];rfl,rfl⟩
 have g2:decide ((sc.length:Int)>30)=false:=dcf;have hL2:mM P ws bg sc=sc.any fun x=>decide (x.made.length>6):=by unfold mM;rw[hL,decide_eq_false h1,decide_eq_false h2];rfl
 rw[hL2];refine aue (e4 hmf g1 g2 (@Ks Act V)) ?_
 refine aO (fun k:Nat=>aB 32 0 [(21, .sl (.agg 7) os (sc.map Act.v)),(22, .int .i64 sc.length),(23, .int .i64 k)])
  (fun k hp nx1=>k≤sc.length∧nx≤nx1∧aI hp nx1∧Hp.same nx h' hp∧∀x∈sc.take k,x.made.length≤6) (fun k=>sc.length-k) 0 ⟨KI _,ZN,dmo hd,kep Hp.same.aBG,Zm⟩ (by simp only[WkL,aB,KU,KV,KR,go_sem,reduceIte,KB,KC,KO,KE,reduceCtorEq,KF,KH]) ?_
 rintro k hp nx1 ⟨hk,hnx,hdm,hsm,aAt⟩;generalize hQ:bH _ _ _ _ _=Q0;simp only[aB,go_sem,reduceIte,KB,KC,KO,KE,reduceCtorEq,KF,KH];rcases KN k sc.length with hlt|hge;case inr=>
  have hc1:decide ((k:Int)<(sc.length:Int))=false:=dcf;refine aue hc1 ?_;rw[←hQ];refine au ?_;have hf:(sc.any fun x=>decide (x.made.length>6))=false:=by
   rw[KP];intro x hx;rw[List.take_of_length_le hge] at aAt;have:=aAt x hx;simp;omega
  exact aG h' (hsm.le hd (Kd _)) ⟨by rw[hf];rfl,rfl⟩
 have hc1:decide ((k:Int)<(sc.length:Int))=true:=dct;have hw1:IntKind.i64.wrap ((k:Int)+1)=((k+1:Nat):Int):=wrp;have hg:(sc.map Act.v).getD k (.tup [])= .agg [.bool sc[k].dl, .int .i64 sc[k].a, .int .i64 sc[k].b, .int .i64 sc[k].aAS.p, .int .i64 sc[k].aAS.t.e, .int .i64 sc[k].aAS.t.r, .sl (.agg 3) sc[k].o (sc[k].made.map Sp.v)]:=bY Act.v _ sc k hlt;by_cases h6:sc[k].made.length>6
 ·have g3:decide ((sc[k].made.length:Int)>6)=true:=dct;refine aue (e6 hc1 hw1 hg hlt g3 (@Ks Act V)) ?_;rw[←hQ];refine au ?_;have ht:(sc.any fun x=>decide (x.made.length>6))=true:=KS.2 ⟨_,Ki hlt,decide_eq_true h6⟩;exact aG h' (lef hd (hsm.le hd (Kd _))) ⟨by rw[ht];rfl,rfl⟩
 have g3:decide ((sc[k].made.length:Int)>6)=false:=dcf;refine aue (e6 hc1 hw1 hg hlt g3 (@Ks Act V)) ?_;rw[←hQ];refine aD (k+1) or ⟨hlt,ZN,dmo hdm,kep hsm,fun x hx=>?_⟩ (by simp only[WkL,aB,KU,KV,KR,go_sem,reduceIte,KB,KC,KO,KE,reduceCtorEq,KF,KH]);rw[List.take_succ_eq_append_getElem hlt] at hx;rcases KT.1 hx with hx|hx
 ·exact aAt x hx
 rw[Kh.1 hx];omega
theorem Ao{P:Int}{ws:List Wy}{bg:List Sp}{sc:List Act}(h:mM P ws bg sc=false):ws.length≤40∧bg.length≤10∧sc.length≤30∧∀x∈sc,x.made.length≤6:=by
 unfold mM at h;simp only[Bool.or_eq_false_iff,decide_eq_false_iff_not,KP,decide_eq_true_eq] at h;obtain⟨⟨⟨h1,h2⟩,h3⟩,h4⟩:=h;exact⟨B2 h1,or,or,fun x hx=>by have:=h4 x hx;omega⟩
theorem od(N j:Nat):lG N (qJ fun _ _=>[]) j=[]:=by
 unfold lG qJ;simp
theorem LI.start(l:List We){P:Int}(N:Nat){bg:List Sp}(hb:bg.length≤10)(h0:(aV P [] 0 (bX bg 1)).1=0):LI l P N 0 (fun _=>(aV P [] 0 (bX bg 1)).2) (fun _ _=>[]):=by
 have hl:(bX bg 1).length=bg.length:=by simp[bX]
 have hst:=(qu P 0).add (bX bg 1);have hg:∀s,cZ (aV P [] 0 (bX bg 1)).2.1 s=(bg.count s:Int):=fun s=>by
  rw[qj (qu P 0) h0 or];show 0+lI (bX bg 1) s=_;rw[Int.zero_add];exact m6 bg s
 refine⟨fun _=>hst.up or,fun j hj=>?_,fun s=>?_,fun j hj=>?_,fun i j n hn=>(by cases hn),fun _ _=>Kp _⟩
 ·rw[od];exact⟨fun s=>by show _=_+(0:Int);omega,fun s=>by rw[hg];omega,fun n hn=>(by cases hn)⟩
 ·have:bg.count s≤bg.length:=List.count_le_length;rw[hg];omega
 rw[od];exact KI _
theorem LI.done{l:List We}{P:Int}{ws:List Wy}{n N k:Nat}{S:Nat→CS}{Q:Int→Int→List Nt}(H:LI l P N k S Q)(R:lC P ws n l)(hk:k≤1000){i:Int}{nt:Nt}(hl:nt.made.length≤6)(h0:doE N P (S 0) (cQ l) n i nt=0):
 (0≤i∧i<N)∧(aV P (S (i.toNat+1)).1 (S (i.toNat+1)).2 nt.cs).1=0∧LI l P N (k+1) (dS (dS S 0 (aV P (S 0).1 (S 0).2 nt.cs).2) (i.toNat+1) (aV P (S (i.toNat+1)).1 (S (i.toNat+1)).2 nt.cs).2) (eS N Q i nt):=by
 unfold doE at h0;split at h0
 ·cases h0
 split at h0
 ·cases h0
 split at h0
 ·cases h0
 rename_i h1 h2 h3;have hi:0≤i∧i<N:=Classical.not_not.1 h1;obtain⟨m,rfl⟩:∃m:Nat,i=m:=⟨i.toNat,or⟩;rw[Int.toNat_natCast];have hP:=R.pl;obtain⟨_,q2,q3⟩:=H.aVJ hk (m:=m) or hl or fun u hu=>by
  have hm:mkB (cQ l) n nt.aAS u=true:=by
   cases e:mkB (cQ l) n nt.aAS u with
   |true=>rfl
   |false=>exact absurd (KS.2 ⟨u,hu,by rw[e];rfl⟩) h3
  unfold mkB at hm;rw[KQ,decide_eq_true_eq] at hm;obtain⟨c1,c2,c3⟩:=Cu hm.2;exact⟨c1,hm.1.1,or,c2,c3⟩
 exact⟨hi,q2,q3⟩
end Go.Proofs.YtecepaehmojpgaaGreat
namespace Go.Proofs.YtecepaehmojpgaaGreat
open Go.ChangeShapes Go.WideShapes Go.ChangeAt Go.RowKit Go.Sort
attribute [local irreducible] Kt
section
variable{n0:Nat}{h':Hp}{nx wb nb tb:Nat}{vo:Own}{vs:List Nat}{P:Int}{wv:V}{oc ot:Own}{n:Nat}{l:List We}{ws:List Wy}{S:Nat→CS}{Q:Int→Int→List Nt}{k:Nat}
end
theorem DI(o:Own){P:Int}{ws:List Wy}(hr:gI P ws=false)(hl:ws.length≤1000)(x y:V)(h:Hp):aY Tryz.prog 9 [mps o P ws,x,y] h (.tup [.aAJ,fC 2]):=by
 have hmf:(mps o P ws).fits (.agg 2)=true:=by simp[mps,Ke,V.aAD,wys]
 refine aR (fun L=>by simp[V.names,bU,fC]) fun h' nx hh=>aF L.g3z fun hd=>?_;simp only[jL,jM,jA,jB,jN,jO,jP,jQ,Kb];have C1:=fun h=>EA o hr hl h;have hv:veq (.iface true) (fC 2) .nilIface=some false:=iL 2;refine aue (e2 hmf hv) ?_;exact iO h' (leo hd) ⟨rfl,rfl⟩
end Go.Proofs.YtecepaehmojpgaaGreat
