/-
Texts of this proof,one behind the other. No conditions.
-/
import Derived.Test.YtecepaehmojpgaaGreatKd
import Derived.Test.YtecepaehmojpgaaGreatKs
import Derived.Test.YtecepaehmojpgaaGreatKn
open Nat renaming reduceAdd→jA,reduceSub→jB,reduceLT→jC,reduceLeDiff→jD,reduceEqDiff→jE
open Int renaming reduceToNat→jF,toNat_natCast→jG,natCast_add→jH,natCast_one→jI,natCast_zero→jJ
open List renaming length_map→jK,length_cons→jL,length_nil→jM,replicate_succ→jN,replicate_zero→jO,cons_append→jP,nil_append→jQ
set_option linter.unusedSimpArgs false
set_option linter.unusedVariables false
set_option linter.unusedSectionVars false
namespace Go.Proofs.YtecepaehmojpgaaGreat
open Go.RowKit
attribute [local irreducible] IntKind.wrap
set_option maxRecDepth 100000 in
set_option maxHeartbeats 8000000 in
theorem aCl{n0:Nat}{B:Hp}{nxB wb nb tb:Nat}{vo:Own}{vs:List Nat}{P:Int}{wv lc:V}{ot:Own}{rows:List V}{S:Nat→CS}{Q:Int→Int→List Nt}(H:WI n0 B nxB wb nb tb vo vs P wv lc ot rows S Q)
 (j:Nat) (hj:j<vs.length) (y:Own×Nt) (hy:y.2.cs.length≤100000) (hok:∀k,dQ (S k).1 (S k).2) (Post:V→Hp→Nat→Prop)
 (hP:∀h2 nx2,nxB≤nx2→(∀x,x<nxB→x≠vs[j]→h2 x=B x)→WI n0 h2 nx2 wb nb tb vo vs P wv lc ot rows (dJ S (j+1) (aT P (S (j+1)).1 (S (j+1)).2 y.2.cs).2) Q→Post (dO (aT P (S (j+1)).1 (S (j+1)).2 y.2.cs).1) h2 nx2):
 lwp Tryz.prog (.seq (.ops L.front_World_Deliver_r12) .ret) (mK [.slot 6] Post) ⟨aB 84 0 [(0, .ptr wb (.agg 4) 0 0),(2, .int .i64 j),(8,wA y)],B,nxB⟩:=by
 simp only[aB,go_sem,reduceIte,jA,jB,jC,jD,reduceCtorEq,jE,jF]
 obtain⟨q,c,hw,hq,hl⟩:=H.q
 have c1:=hw.cell
 have n1:wb<nxB:=H.dom _ _ c1
 obtain⟨m,hm,hc⟩:=H.v j hj
 have hg:(vs.map fun v=>V.ptr v (.agg 4) 0 0).getD j (.tup [])= .ptr vs[j] (.agg 4) 0 0:=dM (fun v=>V.ptr v (.agg 4) 0 0) _ vs j hj
 refine aue (ee5 c1 n1 hg hj (@jK Nat V)) ?_
 refine aX ((tJ y.1 y.2.cs hy _ _ (hok (j+1)) P _ _ vs[j] m _ _ H.dom hc).mono ?_)
 rintro v h2 nx2 hnx2 ⟨rfl,⟨m2,hc2,hm2⟩,hk,_,hd2,_⟩
 unfold cR
 simp only[go_sem,reduceIte,jA,jB,jC,jD,reduceCtorEq,jE,jF]
 refine au ?_
 exact aG h2 (Hp.le_refl _) (hP h2 nx2 hnx2 hk (H.apply (j+1) (by simpa using hj) hk hd2 hm2 hm hc2))
set_option maxRecDepth 100000 in
set_option maxHeartbeats 8000000 in
theorem rJ{n0:Nat}{h':Hp}{nx wb nb tb:Nat}{vo:Own}{vs:List Nat}{P:Int}{wv lc:V}{ot:Own}{rows:List V}{S:Nat→CS}{Q:Int→Int→List Nt}(H:WI n0 h' nx wb nb tb vo vs P wv lc ot rows S Q)
 (i j:Int) (hok:∀k,dQ (S k).1 (S k).2) (hcs:∀n∈Q i j,n.made.length≤1000) (hn0:n0≤nx) (hql:(Q i j).length≤1000):
 aW Tryz.prog 10 [.ptr wb (.agg 4) 0 0, .int .i64 i, .int .i64 j] h' nx fun v h'' nx2=>nx≤nx2∧Fr n0 (tb::vs) h' h''∧
  ((¬(0≤i∧i<vs.length∧0≤j∧j<vs.length∧i≠j)∧v=dO 1∧WI n0 h'' nx2 wb nb tb vo vs P wv lc ot rows S Q)∨
   ((0≤i∧i<vs.length∧0≤j∧j<vs.length∧i≠j)∧Q i j=[]∧v=dO 13∧WI n0 h'' nx2 wb nb tb vo vs P wv lc ot rows S Q)∨
   ((0≤i∧i<vs.length∧0≤j∧j<vs.length∧i≠j)∧∃n r,Q i j=n::r∧v=dO (aT P (S (j.toNat+1)).1 (S (j.toNat+1)).2 n.cs).1∧WI n0 h'' nx2 wb nb tb vo vs P wv lc ot rows (dJ S (j.toNat+1) (aT P (S (j.toNat+1)).1 (S (j.toNat+1)).2 n.cs).2) (jY Q i j r))):=by
 refine aD L.front_World_Deliver_low fun hd=>?_
 simp only[jL,jM,jA,jB,jN,jO,jP,jQ,V.undef]
 have hd:aM h' nx:=hd
 obtain⟨q,c,hw,hq,hl⟩:=H.q
 have c1:=hw.cell
 have c2:=hw.mp
 have n1:wb<nx:=hd _ _ c1
 have n2:nb<nx:=hd _ _ c2
 have C5:=jV hw i
 have C6:=jV hw j
 have hk:∀nx2,nx≤nx2→WI n0 h' nx2 wb nb tb vo vs P wv lc ot rows S Q:=fun nx2 hx=>H.keep (fun _ _=>rfl) (hd.up hx)
 by_cases hi:0≤i∧i<vs.length
 case neg=>
  have g1:(decide (0≤i)&&decide (i<vs.length))=false:=by rw[←Bool.decide_and];exact decide_eq_false hi
  rw[g1] at C5
  refine au ?_
  exact aG h' (leo hd) ⟨by first|omega|(dsimp only;omega),Fr.refl .., .inl ⟨fun h=>hi ⟨h.1,h.2.1⟩,rfl,hk _ (by first|omega|(dsimp only;omega))⟩⟩
 have g1:(decide (0≤i)&&decide (i<vs.length))=true:=by rw[←Bool.decide_and];exact decide_eq_true hi
 rw[g1] at C5
 by_cases hj:0≤j∧j<vs.length
 case neg=>
  have g2:(decide (0≤j)&&decide (j<vs.length))=false:=by rw[←Bool.decide_and];exact decide_eq_false hj
  rw[g2] at C6
  refine au ?_
  exact aG h' (leo hd) ⟨by first|omega|(dsimp only;omega),Fr.refl .., .inl ⟨fun h=>hj ⟨h.2.2.1,h.2.2.2.1⟩,rfl,hk _ (by first|omega|(dsimp only;omega))⟩⟩
 have g2:(decide (0≤j)&&decide (j<vs.length))=true:=by rw[←Bool.decide_and];exact decide_eq_true hj
 rw[g2] at C6
 by_cases hij:i=j
 case pos=>
  have g3:(i==j)=true:=bqt
  refine aue g3 ?_
  exact aG h' (leo hd) ⟨by first|omega|(dsimp only;omega),Fr.refl .., .inl ⟨fun h=>h.2.2.2.2 hij,rfl,hk _ (by first|omega|(dsimp only;omega))⟩⟩
 have g3:(i==j)=false:=bqf
 have z1:(wb=nx)=False:=fls
 have z2:(nb=nx)=False:=fls
 have hf:eJ (.plain (.agg 2) [.int, .int]) (.agg [.int .i64 i, .int .i64 j]) (q.map QE.me)=some (eD q i j):=pR i j q
 have hg:=aBV q i j
 have hrng:0≤i∧i<vs.length∧0≤j∧j<vs.length∧i≠j:=⟨hi.1,hi.2,hj.1,hj.2,hij⟩
 cases hfi:eD q i j with
 |none=>
  rw[hfi] at hf hg
  rw[sD hfi] at hg
  have hqe:Q i j=[]:=by rw[←hl,aAr hfi];rfl
  have g4:(((0:Nat):Int)==0)=true:=rfl
  refine aue (ee9 g3 c1 c2 n1 n2 z1 z2 hf (e2 hg g4)) ?_
  exact aG h' (leo hd) ⟨by first|omega|(dsimp only;omega),Fr.refl .., .inr (.inl ⟨hrng,hqe,rfl,hk _ (by first|omega|(dsimp only;omega))⟩)⟩
 |some k=>
  rw[hfi] at hf hg
  obtain⟨hkl,hka⟩:=sE hfi
  rw[sC hfi] at hg
  have hxm:q.getD k default∈q:=by rw[List.getD_eq_getElem?_getD,List.getElem?_eq_getElem hkl];exact List.getElem_mem hkl
  obtain⟨b,hb1,hb0,hb2⟩:=hq.tk _ hxm
  have hne:=hq.ne _ hxm
  rw[←aAq hfi] at hne
  obtain⟨y,r,hyr⟩:∃y r,cN q i j=y::r:=by
   cases e:cN q i j with
   |nil=>exact absurd e hne
   |cons y r=>exact⟨y,r,rfl⟩
  have hQ:Q i j=y.2::r.map Prod.snd:=by rw[←hl,hyr];rfl
  rw[hb1,hyr] at hg
  have hg:lR false (.sl .leaf .nil []) (q.map QE.me) (some k)= .sl .leaf (.tok b) (wA y::r.map wA):=hg
  obtain⟨es,hes⟩:∃es,es=r.map wA:=⟨_,rfl⟩
  rw[←hes] at hg
  have hel:es.length≤1000:=by rw[hes,jK];have:=hql;rw[hQ,jL,jK] at this;omega
  have g4:(((es.length+1:Nat):Int)==0)=false:=bqf
  have hyl:(wA y).leafy=true:=rfl
  refine aue (aKt g3 c1 c2 n1 n2 z1 z2 hf hg (e2 g4 hyl)) ?_
  refine yP (c:=c) (es:=q.map QE.me) rfl rfl (by simp only[z2,c2,go_sem,reduceIte,jA,jB,jC,jD,reduceCtorEq,jE,jF]) hf (fun k' ek=>?_) (fun ek=>by cases ek)
  injection ek with ek
  subst ek
  simp only[go_sem,reduceIte,jA,jB,jC,jD,reduceCtorEq,jE,jF]
  have hset:(q.map QE.me).set k ⟨.agg [.int .i64 i, .int .i64 j], .sl .leaf (.tok b) es,((q.map QE.me).getD k default).b⟩=(gF q i j).map QE.me:=by
   have:=aEB hfi
   rw[hb1,hyr] at this
   rw[hes];exact this
  have hgs:lR false (.sl .leaf .nil []) ((q.map QE.me).set k ⟨.agg [.int .i64 i, .int .i64 j], .sl .leaf (.tok b) es,((q.map QE.me).getD k default).b⟩) (some k)= .sl .leaf (.tok b) es:=by
   unfold lR
   simp only[Bool.false_eq_true,if_false]
   rw[List.getD_eq_getElem?_getD,List.getElem?_set_self (by simpa using hkl)]
   rfl
  rw[hset] at hgs
  rw[hset]
  have hf2:eJ (.plain (.agg 2) [.int, .int]) (.agg [.int .i64 i, .int .i64 j]) ((gF q i j).map QE.me)=some (some k):=by rw[←hfi,←xQ q i j];exact pR i j _
  obtain⟨A,hA⟩:∃A,A=((h'.set nx (.arr (.agg 2) [.agg [.int .i64 0, .int .i64 0]])).set nx (.arr (.agg 2) [.agg [.int .i64 i, .int .i64 j]])).set nb (.mp ((gF q i j).map QE.me) c):=⟨_,rfl⟩
  rw[←hA]
  have hkA:∀x,x<nx→x≠nb→A x=h' x:=fun x hx hne=>by rw[hA];simp only[Hp.set];rw[if_neg hne,if_neg (by omega),if_neg (by omega)]
  have a1:A wb=some (.arr (.agg 4) [.agg [.sl .leaf ot rows, .ptr tb (.agg 4) 0 0, .sl .leaf vo (vs.map fun v=> .ptr v (.agg 4) 0 0), .map nb]]):=by rw[hkA _ n1 (pF c1 c2)];exact c1
  have a2:A nb=some (.mp ((gF q i j).map QE.me) c):=by rw[hA];simp only[Hp.set,if_true]
  have a3:A nx=some (.arr (.agg 2) [.agg [.int .i64 i, .int .i64 j]]):=by rw[hA];simp only[Hp.set];rw[if_neg (by omega)];simp
  have hdA:aM A (nx+1):=by rw[hA];exact dmo hd
  have z3:nx<nx+32:=by omega
  have z4:wb<nx+32:=by omega
  have z5:nb<nx+32:=by omega
  obtain⟨jn,rfl⟩:∃jn:Nat,j=jn:=⟨j.toNat,by omega⟩
  have hjn:jn<vs.length:=by omega
  have hylen:y.2.cs.length≤100000:=by rw[Nt.cs_len];have:=hcs y.2 (by rw[hQ];simp);omega
  have hpop:∀(C:Hp) (nxC:Nat),nx+1≤nxC→aM C nxC→C nb=some (.mp ((qZ q i jn).map QE.me) c)→(∀x,x<nx→x≠nb→C x=h' x)→WI n0 C nxC wb nb tb vo vs P wv lc ot rows S (jY Q i jn (r.map Prod.snd)):=fun C nxC hx hdC hC hkC=>by
   refine H.queue (fun x k es he=>hkC x (hd _ _ he) (pF he c2)) (fun x es k hx he=>hkC x (hd _ _ he) hx) hdC hC ?_ fun a e=>?_
   ·have hq2:=hq.pop i jn
    exact⟨fun x hx=>by
     obtain⟨b,h1,h2,h3⟩:=hq2.tk x hx
     exact⟨b,h1,h2,by rw[hkC b (hd _ _ h3) (aEr c2 h3).symm];exact h3⟩,hq2.td,hq2.key,hq2.ne⟩
   unfold jY
   split
   ·rename_i e
    obtain⟨rfl,rfl⟩:=e
    rw[aJi hq.key,hyr];rfl
   rename_i e
   rw[aEE e];exact hl a _
  have hfr:∀(C h2:Hp) (nxC:Nat),aM C nxC→nx≤nxC→C nb=some (.mp ((qZ q i jn).map QE.me) c)→(∀x,x<nx→x≠nb→C x=h' x)→(∀x,x<nxC→x≠vs[jn]→h2 x=C x)→Fr n0 (tb::vs) h' h2:=fun C h2 nxC hdC hxC hC hkC hk2=>by
   have hvm:vs[jn]∈tb::vs:=List.mem_cons_of_mem _ (List.getElem_mem hjn)
   refine⟨fun x hx=>?_,fun x k es hx he=>?_⟩
   ·have l1:=H.lo.1
    have l2:=H.lo.2 _ hvm
    rw[hk2 x (by omega) (by omega),hkC x (by omega) (by omega)]
   have hxn:=hd _ _ he
   rw[hk2 x (by omega) (fun e=>hx (e▸hvm)),hkC x hxn (pF he c2)]
  refine aO ?_
  refine bI ?_
  generalize hC:qB (lwp Tryz.prog (.seq (.ops L.front_World_Deliver_r12) .ret)) _=QC
  have hfin:∀(C:Hp) (nxC:Nat) (sl:List V),nx+1≤nxC→aM C nxC→C nb=some (.mp ((qZ q i jn).map QE.me) c)→(∀x,x<nx→x≠nb→C x=h' x)→WkL sl (aB 84 0 [(0, .ptr wb (.agg 4) 0 0),(2, .int .i64 jn),(8,wA y)])→QC .normal ⟨sl,C,nxC⟩:=fun C nxC sl hx hdC hC2 hkC hsl=>by
   rw[←hC]
   refine kI ⟨_,C,nxC⟩ ⟨hsl,Hp.le_refl _,Nat.le_refl _⟩ ?_
   refine aCl (hpop C nxC hx hdC hC2 hkC) jn hjn y hylen hok _ fun h2 nx2 hnx2 hk2 hW=>⟨by omega,hfr C h2 nxC hdC (by omega) hC2 hkC hk2, .inr (.inr ⟨hrng,y.2,r.map Prod.snd,hQ,?_,?_⟩)⟩
   ·rw[jG]
   rw[jG];exact hW
  clear hC
  by_cases hes0:es=[]
  ·have g5:((es.length:Int)==0)=true:=by rw[hes0];rfl
   have hqp:qZ q i jn=wN (gF q i jn) i jn:=by
    unfold qZ
    rw[if_pos]
    rw[hyr]
    rw[hes] at hes0
    exact List.map_eq_nil_iff.1 hes0
   have hqd:=aGq ((xQ q i jn).trans hfi)
   rw[←hqp] at hqd
   refine aue (ee9 a1 a2 a3 z3 z4 z5 hf2 hgs g5) ?_
   refine aDh (c:=c) (es:=(gF q i jn).map QE.me) rfl rfl a2 hf2 ?_
   rw[hqd]
   simp only[go_sem,reduceIte,jA,jB,jC,jD,reduceCtorEq,jE,jF]
   refine au ?_
   refine hfin _ _ _ (by omega) (dmo hdA) (by simp only[Hp.set,if_true]) (fun x hx hne=>by simp only[Hp.set];rw[if_neg hne];exact hkA x hx hne) (by simp only[WkL,aB,jH,jI,jJ,go_sem,reduceIte,jA,jB,jC,jD,reduceCtorEq,jE,jF])
  have g5:((es.length:Int)==0)=false:=by
   cases es with
   |nil=>exact absurd rfl hes0
   |cons a l=>exact bqf (by simp only[jL];omega)
  have hqp:qZ q i jn=gF q i jn:=by
   unfold qZ
   rw[if_neg]
   rw[hyr]
   intro e
   exact hes0 (by rw[hes,show r=[] from e];rfl)
  refine aue (ee9 a1 a2 a3 z3 z4 z5 hf2 hgs g5) ?_
  exact hfin _ _ _ (by omega) (hdA.up (by omega)) (by rw[hqp];exact a2) hkA (by simp only[WkL,aB,jH,jI,jJ,go_sem,reduceIte,jA,jB,jC,jD,reduceCtorEq,jE,jF])
theorem gsl(l:List V)(i j:Nat)(v d:V):(l.set i v).getD j d=if i=j∧j<l.length then v else l.getD j d:=by
 rw[List.getD_eq_getElem?_getD,List.getD_eq_getElem?_getD,List.getElem?_set]
 split
 ·rename_i e;subst e
  split
  ·rename_i h;rw[if_pos ⟨rfl,h⟩];rfl
  rename_i h;rw[if_neg (fun k=>h k.2),List.getElem?_eq_none (by omega)]
 rename_i e;rw[if_neg (fun k=>e k.1)]
theorem aJb:∀(n k:Nat) (ps:List (Nat×V)) (sl:List V),sl.length=n→(∀p∈ps,k≤p.1→p.1<k+n→sl.getD (p.1-k) V.undef=p.2)→WkL sl (aB n k ps)
 |0,k,ps,sl,hl,_=>by
  have:sl=[]:=List.length_eq_zero_iff.1 hl
  subst this;trivial
 |n+1,k,ps,[],hl,_=>by simp at hl
 |n+1,k,ps,a::sl,hl,h=>by
  have hl:sl.length=n:=by simpa using hl
  cases ps with
  |nil=>exact⟨.inr rfl,aJb n (k+1) [] sl hl (by simp)⟩
  |cons q r=>
   obtain⟨j,v⟩:=q
   have tail:∀p∈(j,v)::r,k+1≤p.1→p.1<k+1+n→sl.getD (p.1-(k+1)) V.undef=p.2:=fun p hp h1 h2=>by
    have:=h p hp (by omega) (by omega)
    rw[show p.1-k=(p.1-(k+1))+1 by omega,List.getD_cons_succ] at this
    exact this
   unfold aB
   split
   ·rename_i e
    subst e
    have h0:=h (j,v) (by simp) (Nat.le_refl _) (Nat.lt_add_of_pos_right (Nat.succ_pos n))
    rw[Nat.sub_self,List.getD_cons_zero] at h0
    exact⟨.inl h0.symm,aJb n (j+1) r sl hl fun p hp=>tail p (by simp[hp])⟩
   exact⟨.inr rfl,aJb n (k+1) _ sl hl tail⟩
structure RN(tb wb:Nat)(A B cv:V)(vo:Own)(vals:List V)(CA:Hp→Nat→Nat→Prop)(n1:Nat)(hp:Hp)(D:Nat→Bool)(c m a b:Nat)(s:St):Prop where
 len:s.sl.length=58
 s1:s.sl.getD 1 V.undef=A
 s8:s.sl.getD 8 V.undef= .ptr tb (.agg 4) 0 0
 s11:s.sl.getD 11 V.undef= .ptr wb (.agg 4) 0 0
 s42:s.sl.getD 42 V.undef=A
 s43:s.sl.getD 43 V.undef=B
 d0:D 0=true→s.sl.getD 45 V.undef= .ptr wb (.agg 4) 0 0
 d1:D 1=true→s.sl.getD 46 V.undef= .ptr wb (.agg 4) 0 0
 d2:D 2=true→s.sl.getD 47 V.undef= .ptr wb (.agg 4) 0 0
 d3:D 3=true→s.sl.getD 48 V.undef= .ptr wb (.agg 4) 0 2
 d4:D 4=true→s.sl.getD 49 V.undef= .sl .leaf vo vals
 d5:D 5=true→s.sl.getD 50 V.undef= .ptr tb (.agg 4) 0 0
 d6:D 6=true→s.sl.getD 51 V.undef= .ptr c (.agg 4) 0 0
 d7:D 7=true→s.sl.getD 52 V.undef= .sl .leaf (.tok a) [.ptr c (.agg 4) 0 0]
 d8:D 8=true→s.sl.getD 53 V.undef= .sl .leaf (.tok b) (vals++[.ptr c (.agg 4) 0 0])
 d9:D 9=true→s.sl.getD 54 V.undef= .ptr wb (.agg 4) 0 0
 d10:D 10=true→s.sl.getD 55 V.undef= .ptr wb (.agg 4) 0 2
 hw:s.h wb=some (.arr (.agg 4) [cv])
 h6:D 6=true→CA s.h c m∧n1≤c∧n1≤m∧c<s.nx∧m<s.nx
 ho:D 8=false→∀x,x<n1→s.h x=hp x
 h8:D 8=true→s.h b=some .tip∧n1≤b∧∀x,x<n1→vo≠ .tok x→s.h x=hp x
 dm:aM s.h s.nx
 nn:n1≤s.nx
section
variable{tb wb:Nat}{A B cv:V}{vo:Own}{vals:List V}{CA:Hp→Nat→Nat→Prop}{n1:Nat}{hp:Hp}{D:Nat→Bool}{c m a b:Nat}{sl:List V}{h:Hp}{n2:Nat}
theorem RN.slot(r:RN tb wb A B cv vo vals CA n1 hp D c m a b ⟨sl,h,n2⟩)(t i:Nat)(v:V)
 (hi:(i=0∧t=45∧v= .ptr wb (.agg 4) 0 0)∨(i=1∧t=46∧v= .ptr wb (.agg 4) 0 0)∨(i=2∧t=47∧v= .ptr wb (.agg 4) 0 0)∨(i=3∧t=48∧v= .ptr wb (.agg 4) 0 2)∨(i=4∧t=49∧v= .sl .leaf vo vals)∨(i=5∧t=50∧v= .ptr tb (.agg 4) 0 0)∨(i=9∧t=54∧v= .ptr wb (.agg 4) 0 0)∨(i=10∧t=55∧v= .ptr wb (.agg 4) 0 2)):
 RN tb wb A B cv vo vals CA n1 hp (fun j=>if j=i then true else D j) c m a b ⟨sl.set t v,h,n2⟩:=by
 obtain⟨len,s1,s8,s11,s42,s43,d0,d1,d2,d3,d4,d5,d6,d7,d8,d9,d10,hw,h6,ho,h8,dm,nn⟩:=r
 dsimp only at*
 rcases hi with⟨rfl,rfl,rfl⟩|⟨rfl,rfl,rfl⟩|⟨rfl,rfl,rfl⟩|⟨rfl,rfl,rfl⟩|⟨rfl,rfl,rfl⟩|⟨rfl,rfl,rfl⟩|⟨rfl,rfl,rfl⟩|⟨rfl,rfl,rfl⟩<;>
  (constructor<;>(try simp only[gsl,len,List.length_set])<;>first|(simp;done)|(simp;assumption)|assumption)
theorem RN.copy(r:RN tb wb A B cv vo vals CA n1 hp D c m a b ⟨sl,h,n2⟩)(e7:D 7=false)(e8:D 8=false){c' m' n3:Nat}{h3:Hp}(hc:CA h3 c' m')(q1:n2≤c')(q2:n2≤m')(q5:c'<n3)(q6:m'<n3)(q3:∀x,x<n2→h3 x=h x)(q4:aM h3 n3)(hn:n2≤n3):
 RN tb wb A B cv vo vals CA n1 hp (fun j=>if j=6 then true else D j) c' m' a b ⟨sl.set 51 (.ptr c' (.agg 4) 0 0),h3,n3⟩:=by
 obtain⟨len,s1,s8,s11,s42,s43,d0,d1,d2,d3,d4,d5,d6,d7,d8,d9,d10,hw,h6,ho,h8,dm,nn⟩:=r
 dsimp only at*
 have hwb:wb<n2:=dm _ _ hw
 constructor
 case hw=>rw[←hw];exact q3 _ hwb
 case h6=>exact fun _=>⟨hc,by omega,by omega,q5,q6⟩
 case ho=>intro _ x hx;dsimp only;rw[q3 x (by omega)];exact ho e8 x hx
 case h8=>intro e;rw[show(if (8:Nat)=6 then true else D 8)=D 8 from rfl,e8] at e;cases e
 case d7=>intro e;rw[show(if (7:Nat)=6 then true else D 7)=D 7 from rfl,e7] at e;cases e
 case d8=>intro e;rw[show(if (8:Nat)=6 then true else D 8)=D 8 from rfl,e8] at e;cases e
 case dm=>exact q4
 case nn=>exact Nat.le_trans nn hn
 all_goals ((try simp only[gsl,len,List.length_set])<;>first|(simp;done)|(simp;assumption)|assumption)
theorem RN.lit(r:RN tb wb A B cv vo vals CA n1 hp D c m a b ⟨sl,h,n2⟩)(hCA:∀h h2 c m,CA h c m→(∀x,x=c∨x=m→h2 x=h x)→CA h2 c m)(e8:D 8=false):
 RN tb wb A B cv vo vals CA n1 hp (fun j=>if j=7 then true else D j) c m n2 b ⟨sl.set 52 (.sl .leaf (.tok n2) [.ptr c (.agg 4) 0 0]),h.set n2 .tip,n2+1⟩:=by
 obtain⟨len,s1,s8,s11,s42,s43,d0,d1,d2,d3,d4,d5,d6,d7,d8,d9,d10,hw,h6,ho,h8,dm,nn⟩:=r
 dsimp only at*
 have hwb:wb<n2:=dm _ _ hw
 constructor
 case hw=>simp only[Hp.set];rw[if_neg (by omega)];exact hw
 case h6=>
  intro e
  obtain⟨g1,g2,g3,g4,g5⟩:=h6 (by simpa using e)
  exact⟨hCA _ _ _ _ g1 fun x hx=>by simp only[Hp.set];rw[if_neg (by omega)],g2,g3,Nat.lt_succ_of_lt g4,Nat.lt_succ_of_lt g5⟩
 case ho=>intro _ x hx;simp only[Hp.set];rw[if_neg (by omega)];exact ho e8 x hx
 case h8=>intro e;rw[show(if (8:Nat)=7 then true else D 8)=D 8 from rfl,e8] at e;cases e
 case d8=>intro e;rw[show(if (8:Nat)=7 then true else D 8)=D 8 from rfl,e8] at e;cases e
 case dm=>exact aM.set dm (Nat.lt_succ_self _) (Nat.le_succ _) _
 case nn=>exact Nat.le_succ_of_le nn
 all_goals ((try simp only[gsl,len,List.length_set])<;>first|(simp;done)|(simp;assumption)|assumption)
theorem RN.app(r:RN tb wb A B cv vo vals CA n1 hp D c m a b ⟨sl,h,n2⟩)(hCA:∀h h2 c m,CA h c m→(∀x,x=c∨x=m→h2 x=h x)→CA h2 c m)(e8:D 8=false){h3:Hp}(hlo:∀x,vo= .tok x→x<n1∧x≠wb)(q:∀x,x≠n2→vo≠ .tok x→h3 x=h x)(q2:h3 n2=some .tip)(q3:aM h3 (n2+1)):
 RN tb wb A B cv vo vals CA n1 hp (fun j=>if j=8 then true else D j) c m a n2 ⟨sl.set 53 (.sl .leaf (.tok n2) (vals++[.ptr c (.agg 4) 0 0])),h3,n2+1⟩:=by
 obtain⟨len,s1,s8,s11,s42,s43,d0,d1,d2,d3,d4,d5,d6,d7,d8,d9,d10,hw,h6,ho,h8,dm,nn⟩:=r
 dsimp only at*
 have hwb:wb<n2:=dm _ _ hw
 constructor
 case hw=>dsimp only;rw[q wb (by omega) (fun e=>(hlo _ e).2 rfl)];exact hw
 case h6=>
  intro e
  obtain⟨g1,g2,g3,g4,g5⟩:=h6 (by simpa using e)
  exact⟨hCA _ _ _ _ g1 fun x hx=>q x (by omega) (fun e=>by have:=(hlo _ e).1;omega),g2,g3,Nat.lt_succ_of_lt g4,Nat.lt_succ_of_lt g5⟩
 case ho=>intro e;cases e
 case h8=>exact fun _=>⟨q2,nn,fun x hx hv=>by dsimp only;rw[q x (by omega) hv];exact ho e8 x hx⟩
 case dm=>exact q3
 case nn=>exact Nat.le_succ_of_le nn
 all_goals ((try simp only[gsl,len,List.length_set])<;>first|(simp;done)|(simp;assumption)|assumption)
end
set_option maxRecDepth 100000 in
set_option maxHeartbeats 8000000 in
theorem aCe(o:Own){P:Int}{ws:List Wy}{n:Nat}{l:List We}(R:eX P ws n l)(hl:ws.length≤1000)(hn:o= .nil→ws=[])(N:Nat)(hN:1≤N∧N≤17)(ob:Own)(bg:List Sp)(hb:bg.length≤1000)(h':Hp)(nx:Nat):
 aW Tryz.prog 9 [mps o P ws, .int .i64 N, .sl (.agg 3) ob (bg.map Sp.v)] h' nx fun v h'' nx2=>nx≤nx2∧aM h'' nx2∧(∀x,x<nx→h'' x=h' x)∧
  (((aT P [] 0 (cY bg 1)).1≠0∧v= .tup [.nilPtr,dO (aT P [] 0 (cY bg 1)).1])∨
   ((aT P [] 0 (cY bg 1)).1=0∧∃wb nb tb vo vs o2 oc ot,v= .tup [.ptr wb (.agg 4) 0 0, .nilIface]∧vs.length=N∧nx≤wb∧
     WI nx h'' nx2 wb nb tb vo vs P (wys o2 ws) (.sl .leaf oc (cH n l n)) ot (cH n l n) (fun _=>(aT P [] 0 (cY bg 1)).2) (fun _ _=>[]))):=by
 have hmf:(mps o P ws).fits (.agg 2)=true:=by simp[mps,V.fits,V.leafy,wys]
 refine aD L.front_New_low fun hd=>?_
 simp only[jL,jM,jA,jB,jN,jO,jP,jQ,V.undef]
 refine aue hmf ?_
 refine aX ((aKj o R (by omega) hn _ _).mono ?_)
 rintro v1 M1 nx1 hnx1 ⟨tb,m,o2,oc,rfl,htb,hm,hcnt,hk1,hd1,_⟩
 dsimp only at htb hm hnx1 hk1
 unfold cR
 simp only[go_sem,reduceIte,jA,jB,jC,jD,reduceCtorEq,jE,jF]
 have g1:decide ((N:Int)<1)=false:=dcf
 have g2:decide ((N:Int)>17)=false:=dcf
 refine aue (e2 g1 g2) ?_
 refine aX ((nR ob bg 1 (by omega) _ _).dom.mono ?_)
 rintro v2 M2 nx2 hnx2 ⟨hf,hd2,_⟩
 try dsimp only at hnx2
 obtain⟨ox,hk2,rfl⟩:∃ox,(∀x,x<nx1→M2 x=M1 x)∧v2=cgs ox (cY bg 1):=by
  rcases hf with⟨he,rfl,rfl⟩|⟨_,id,hid,rfl,rfl⟩
  ·exact⟨.nil,fun x hx=>rfl,by rw[cgs,he]⟩
  exact⟨.tok id,fun x hx=>by simp only[Hp.set];rw[if_neg (by dsimp only at hid;omega)],rfl⟩
 have hlen:(cY bg 1).length≤100000:=by simp[cY];omega
 unfold cR
 simp only[go_sem,reduceIte,jA,jB,jC,jD,reduceCtorEq,jE,jF]
 refine au ?_
 refine aX ((tJ ox (cY bg 1) hlen [] 0 (aBg 0) P _ _ tb m _ _ hd2 (hcnt.keep hd1 hk2)).mono ?_)
 rintro v3 M3 nx3 hnx3 ⟨rfl,⟨m3,hc3,hm3⟩,hk3,_,hd3,_⟩
 try dsimp only at hnx3 hk3 hm3
 have hv:=dP (aT P [] 0 (cY bg 1)).1
 have hkA:∀x,x<nx→M3 x=h' x:=fun x hx=>by
  rw[hk3 x (by omega) (by omega),hk2 x (by omega),hk1 x (by omega)]
  simp only[Hp.set];rw[if_neg (by omega)]
 unfold cR
 simp only[go_sem,reduceIte,jA,jB,jC,jD,reduceCtorEq,jE,jF]
 by_cases he:(aT P [] 0 (cY bg 1)).1=0
 case neg=>
  rw[decide_eq_false he] at hv
  refine aue hv ?_
  refine iF M3 (Hp.le_refl _) ⟨by first|omega|(dsimp only;omega),hd3.up (by first|omega|(dsimp only;omega)),hkA, .inl ⟨he,?_⟩⟩
  simp only[go_sem,reduceIte,jA,jB,jC,jD,reduceCtorEq,jE,jF]
 rw[decide_eq_true he] at hv
 have b0:M3 nx=some (.arr (.agg 2) [mps o P ws]):=by
  rw[hk3 nx (by omega) (by omega),hk2 nx (by omega),hk1 nx (by omega)]
  simp only[Hp.set,if_true]
 obtain⟨ot,hot⟩:=mC .leaf (cH n l n)
 have C1:∀h,aZ Tryz.prog 38 [mps o P ws] h (.sl .leaf ot (cH n l n)):=fun h=>by
  have:=aEc o R (by omega) h
  rw[hot] at this;exact this
 refine aue (e3 hv b0 hmf) ?_
 refine aJs ?_
 simp only[go_sem,reduceIte,jA,jB,jC,jD,reduceCtorEq,jE,jF]
 refine au ?_
 have htb3:tb<nx3:=hd3 _ _ hc3.cell
 have hm33:m3<nx3:=hd3 _ _ hc3.mp
 obtain⟨X,hX⟩:∃X:CS,X=(aT P [] 0 (cY bg 1)).2:=⟨_,rfl⟩
 rw[←hX] at hc3⊢
 obtain⟨CA,hCA⟩:∃CA:Hp→Nat→Nat→Prop,∀h c m,CA h c m↔(m≠nx3∧dC h c m P (wys o2 ws) (.sl .leaf oc (cH n l n)) X.1 X.2):=⟨_,fun _ _ _=>Iff.rfl⟩
 have hCAk:∀h h2 c m,CA h c m→(∀x,x=c∨x=m→h2 x=h x)→CA h2 c m:=fun h h2 c m hc hk=>by
  obtain⟨q1,q2⟩:=(hCA ..).1 hc
  exact(hCA ..).2 ⟨q1,by rw[hk _ (.inl rfl)];exact q2.cell,by rw[hk _ (.inr rfl)];exact q2.mp,q2.wf,q2.lf⟩
 refine aY (fun q:List Nat×Own=>aB 58 0 [(1, .int .i64 N),(8, .ptr tb (.agg 4) 0 0),(11, .ptr (nx3+1) (.agg 4) 0 0),(42, .int .i64 N),(43, .int .i64 q.1.length)])
  (fun q hp nx1=>q.1.length≤N∧nx3+2≤nx1∧aM hp nx1∧(∀x,x<nx→hp x=h' x)∧hp nx3=some (.mp [] 0)∧hp (nx3+1)=some (.arr (.agg 4) [.agg [.sl .leaf ot (cH n l n), .ptr tb (.agg 4) 0 0, .sl .leaf q.2 (q.1.map fun v=> .ptr v (.agg 4) 0 0), .map nx3]])∧
    CA hp tb m3∧(∀v∈q.1,∃m,CA hp v m∧nx3+2≤v∧nx3+2≤m)∧q.1.Nodup∧((q.2= .nil∧q.1=[])∨∃b,q.2= .tok b∧hp b=some .tip∧nx3+2≤b))
  (fun q=>N-q.1.length) ([], .nil) ⟨Nat.zero_le _,by first|omega|(dsimp only;omega),dmo hd3,fun x hx=>?_,?_,?_,(hCA ..).2 ⟨by omega,?_⟩,fun v hv=>(by cases hv), .nil, .inl ⟨rfl,rfl⟩⟩ (by simp only[WkL,aB,jH,jI,jJ,List.map_nil,go_sem,reduceIte,jA,jB,jC,jD,reduceCtorEq,jE,jF]) ?_
 ·simp only[go_sem,reduceIte,jA,jB,jC,jD,reduceCtorEq,jE,jF];rw[if_neg (by omega),if_neg (by omega)];exact hkA x hx
 ·simp only[go_sem,reduceIte,jA,jB,jC,jD,reduceCtorEq,jE,jF]
 ·simp only[go_sem,reduceIte,jA,jB,jC,jD,reduceCtorEq,jE,jF]
 ·exact hc3.keep hd3 fun x hx=>by simp only[Hp.set];rw[if_neg (by omega),if_neg (by omega)]
 rintro⟨vs,vo⟩ hp nx1 ⟨hlen1,hnx,hdm,hsm,w1,w2,w3,w4,w5,w6⟩
 dsimp only at hlen1 w2 w4 w5 w6
 generalize hQ:bZ _ _ _ _ _=Q0
 simp only[aB,go_sem,reduceIte,jA,jB,jC,jD,reduceCtorEq,jE,jF]
 rcases Nat.lt_or_ge vs.length N with hlt|hge
 case inr=>
  have hc1:decide ((vs.length:Int)<(N:Int))=false:=dcf
  refine aue hc1 ?_
  rw[←hQ]
  refine au ?_
  have hvN:vs.length=N:=by omega
  refine iF hp (Hp.le_refl _) ⟨by first|omega|(dsimp only;omega),hdm.up (by first|omega|(dsimp only;omega)),hsm, .inr ⟨he,nx3+1,nx3,tb,vo,vs,o2,oc,ot,?_,hvN,by omega,?_⟩⟩
  ·simp only[go_sem,reduceIte,jA,jB,jC,jD,reduceCtorEq,jE,jF]
  obtain⟨q1,q2⟩:=(hCA ..).1 w3
  have htbv:tb∉vs:=fun hc=>by
   obtain⟨m,_,h2,_⟩:=w4 tb hc
   omega
  refine⟨⟨[],0,⟨w2,w1⟩,QOK.nil _ _,fun i j=>rfl⟩,hdm.up (by first|omega|(dsimp only;omega)),fun i hi=>?_,List.nodup_cons.2 ⟨htbv,w5⟩,by omega,fun x hx=>?_⟩
  ·cases i with
   |zero=>exact⟨m3,q1,q2⟩
   |succ i=>
    have hi:i<vs.length:=by simpa using hi
    obtain⟨m,h1,_⟩:=w4 vs[i] (List.getElem_mem _)
    obtain⟨h2,h3⟩:=(hCA ..).1 h1
    exact⟨m,h2,h3⟩
  rcases List.mem_cons.1 hx with rfl|hx
  ·omega
  obtain⟨m,_,h2,_⟩:=w4 x hx
  omega
 have hc1:decide ((vs.length:Int)<(N:Int))=true:=dct
 unfold L.front_New_l0
 generalize hR:bE.draw 11 L.front_New_r12 L.front_New_r12t=R
 refine aue hc1 ?_
 rw[←hR]
 clear hR
 refine pS ?_
 obtain⟨vals,hvals⟩:∃vals,vals=vs.map fun v=>V.ptr v (.agg 4) 0 0:=⟨_,rfl⟩
 rw[←hvals] at w2
 obtain⟨cv,hcv⟩:∃cv,cv=V.agg [.sl .leaf ot (cH n l n), .ptr tb (.agg 4) 0 0, .sl .leaf vo vals, .map nx3]:=⟨_,rfl⟩
 rw[←hcv] at w2
 refine⟨fun D s=>∃c m a b,RN tb (nx3+1) (.int .i64 N) (.int .i64 vs.length) cv vo vals CA nx1 hp D c m a b s,⟨0,0,0,0,?_⟩,?_,?_⟩
 ·constructor<;>first|exact hdm|exact w2|exact Nat.le_refl _|(intro h;cases h;done)|exact fun _ _ _=>rfl|rfl|skip
 ·rintro D i oo deps ⟨sl,hq,n2⟩ hi hDi hdeps hcl ⟨c,m,a,b,r⟩
  have no:∀j (o:aA) dp,L.front_New_r12[j]?=some (o,dp)→i∈dp→D j=false:=fun j o dp hj hin=>by
   cases h:D j with
   |false=>rfl
   |true=>have:=hcl j _ _ hj h i hin;rw[hDi] at this;cases this
  have hrw:=r.hw
  dsimp only at hrw
  rcases i with _|_|_|_|_|_|_|_|_|_|_|i
  all_goals first|(injection hi with hi;injection hi with q1 q2;subst q1;subst q2)|skip
  all_goals try simp only[List.mem_cons,List.not_mem_nil,or_false,forall_eq_or_imp,forall_eq,false_implies,implies_true] at hdeps
  all_goals simp only[aV,LOp.run,LOp.sem,bD.sem,aL.ev,r.s8,r.s11,bF,List.map_cons,List.map_nil]
  ·exact⟨c,m,a,b,r.slot 45 0 _ (by simp)⟩
  ·exact⟨c,m,a,b,r.slot 46 1 _ (by simp)⟩
  ·simp only[r.d1 hdeps,hrw]
   exact⟨c,m,a,b,r.slot 47 2 _ (by simp)⟩
  ·simp only[r.d2 hdeps.2,hrw]
   exact⟨c,m,a,b,r.slot 48 3 _ (by simp)⟩
  ·simp only[r.d3 hdeps.2.2,hrw]
   exact⟨trivial,by simp,by simp[cJ],c,m,a,b,r.slot 49 4 _ (by simp[hcv,bY,V.cell,V.cells])⟩
  ·exact⟨c,m,a,b,r.slot 50 5 _ (by simp)⟩
  ·simp only[r.d5 hdeps]
   have e7:=no 7 _ _ rfl (by simp)
   have e8:=no 8 _ _ rfl (by simp)
   have ho:=r.ho e8
   have hnn:=r.nn
   dsimp only at ho hnn
   have hct:=hCAk hp hq tb m3 w3 (fun x hx=>ho x (by rcases hx with rfl|rfl<;>omega))
   refine(aCn ((hCA ..).1 hct).2).mono ?_
   rintro v h3 n3 hn3 ⟨cb2,m2,rfl,q1,q2,q3,q4,q5,q6⟩
   exact⟨cb2,m2,a,b,r.copy e7 e8 ((hCA ..).2 ⟨by omega,q3⟩) q1 q2 (q5 _ _ q3.cell) (q5 _ _ q3.mp) q4 q5 q6⟩
  ·simp only[r.d6 hdeps.2]
   refine⟨fun e he=>by rw[List.mem_singleton.1 he];simp only[r.d6 hdeps.2];rfl, .inl ⟨c,m,n2,b,r.lit hCAk (no 8 _ _ rfl (by simp))⟩⟩
  ·simp only[r.d4 hdeps.2.2.2.1,r.d7 hdeps.2.2.2.2.2.2,dX]
   have e8:=hDi
   have ho:=r.ho e8
   have hnn:=r.nn
   have hdq:=r.dm
   dsimp only at ho hnn hdq
   refine⟨trivial,trivial,by rw[hvals,jK,List.length_singleton];omega, .inl ⟨?_,c,m,a,n2,?_⟩⟩
   ·rcases w6 with⟨h1,h2⟩|⟨b',h1,h2,h3⟩
    ·rw[h1];trivial
    rw[h1]
    show hq b'=some .tip
    rw[ho b' (hdm _ _ h2)];exact h2
   rcases w6 with⟨h1,h2⟩|⟨b',h1,h2,h3⟩
   ·subst h1
    exact r.app hCAk e8 (fun x e=>by cases e) (fun x hx _=>by simp[eQ,Hp.set,hx]) (by simp[eQ,Hp.set]) (by simp only[eQ];exact dmo hdq)
   subst h1
   have hb':=hdm _ _ h2
   refine r.app hCAk e8 (fun x e=>?_) (fun x hx hne=>?_) (by simp[eQ,Hp.set]) (by simp only[eQ];exact dmo hdq)
   ·injection e with e
    exact⟨by omega,by omega⟩
   have:x≠b':=fun e=>hne (by rw[e])
   simp[eQ,Hp.set,Hp.del,hx,this]
  ·simp only[r.d0 hdeps.1,hrw]
   exact⟨c,m,a,b,r.slot 54 9 _ (by simp)⟩
  ·simp only[r.d9 (by simp[hdeps]),hrw]
   exact⟨c,m,a,b,r.slot 55 10 _ (by simp)⟩
  simp[L.front_New_r12] at hi
 rintro D ⟨sl,h2,n2⟩ hD ⟨c,m,a,b,r⟩
 have dd:=fun i (h:i<11)=>hD i h
 have x8:=r.d8 (dd 8 (by omega))
 have x10:=r.d10 (dd 10 (by omega))
 obtain⟨y1,y2,y3,y4,y5⟩:=r.h6 (dd 6 (by omega))
 obtain⟨y6,y7,y8⟩:=r.h8 (dd 8 (by omega))
 obtain⟨len,s1,s8,s11,s42,s43,d0,d1,d2,d3,d4,d5,d6,d7,d8,d9,d10,hw,h6,ho,h8,dm,nn⟩:=r
 dsimp only at len s1 s8 s11 s42 s43 hw dm nn x8 x10 y1 y4 y5 y6 y7 y8
 clear d0 d1 d2 d3 d4 d5 d6 d7 d8 d9 d10 h6 ho h8 hD dd
 simp only[aV,LOp.run,LOp.sem,aL.ev,x10,x8,hw,bF]
 refine⟨trivial,by simp,by simp[cJ],rfl,?_⟩
 have hcell: [cv].set 0 (bR .leaf 2 ([cv].getD 0 V.undef) (.sl .leaf (.tok b) (vals++[.ptr c (.agg 4) 0 0])))=[.agg [.sl .leaf ot (cH n l n), .ptr tb (.agg 4) 0 0, .sl .leaf (.tok b) ((vs++[c]).map fun v=> .ptr v (.agg 4) 0 0), .map nx3]]:=by
  rw[hcv,hvals,List.map_append];rfl
 rw[hcell]
 refine bT ?_
 refine kI ⟨aB 58 0 [(1, .int .i64 N),(8, .ptr tb (.agg 4) 0 0),(11, .ptr (nx3+1) (.agg 4) 0 0),(42, .int .i64 N),(43, .int .i64 vs.length)],_,_⟩ ⟨aJb 58 0 _ sl len ?_,Hp.le_refl _,Nat.le_refl _⟩ ?_
 ·simp only[List.mem_cons,List.not_mem_nil,or_false,forall_eq_or_imp,forall_eq,Nat.sub_zero]
  rw[s1,s8,s11,s42,s43];simp
 have hw1:IntKind.i64.wrap ((vs.length:Int)+1)=((vs.length+1:Nat):Int):=wrp
 simp only[aB,go_sem,reduceIte,jA,jB,jC,jD,reduceCtorEq,jE,jF]
 refine aue hw1 ?_
 rw[←hQ]
 clear hQ s1 s8 s11 s42 s43 len x8 x10 hcell
 have hkp:∀x,x<nx1→vo≠ .tok x→x≠nx3+1→h2 x=hp x:=fun x hx hne h1=>y8 x hx hne
 have hno:∀x,(x<nx3+2∨∃k es,hp x=some (.arr k es))∨(∃es k,hp x=some (.mp es k))→vo≠ .tok x:=fun x hx e=>by
  rcases w6 with⟨h1,_⟩|⟨b',h1,h3,h4⟩
  ·rw[h1] at e;cases e
  rw[h1] at e
  injection e with e
  subst e
  rcases hx with(hx|⟨k,es,hx⟩)|⟨es,k,hx⟩
  ·omega
  ·rw[h3] at hx;cases hx
  rw[h3] at hx;cases hx
 have hCk:∀v m,CA hp v m→CA (h2.set (nx3+1) (.arr (.agg 4) [.agg [.sl .leaf ot (cH n l n), .ptr tb (.agg 4) 0 0, .sl .leaf (.tok b) ((vs++[c]).map fun v=> .ptr v (.agg 4) 0 0), .map nx3]])) v m:=fun v m hv=>by
  obtain⟨q1,q2⟩:=(hCA ..).1 hv
  have hv1:=aCr (hcv▸w2) q2.cell
  have hm1:m≠nx3+1:=(pF w2 q2.mp).symm
  refine hCAk hp _ v m hv fun x hx=>?_
  rcases hx with rfl|rfl
  ·simp only[Hp.set];rw[if_neg hv1.symm,hkp _ (hdm _ _ q2.cell) (hno _ (.inl (.inr ⟨_,_,q2.cell⟩))) hv1.symm]
  simp only[Hp.set];rw[if_neg hm1,hkp _ (hdm _ _ q2.mp) (hno _ (.inr ⟨_,_,q2.mp⟩)) hm1]
 refine aI (vs++[c], .tok b) (by simp only[List.length_append,List.length_singleton];omega) ⟨by simp only[List.length_append,List.length_singleton];omega,by first|omega|(dsimp only;omega),dmo dm,fun x hx=>?_,?_,?_,hCk _ _ w3,fun v hv=>?_,?_, .inr ⟨b,rfl,?_,by omega⟩⟩ (by simp only[WkL,aB,jH,jI,jJ,List.length_append,List.length_singleton,go_sem,reduceIte,jA,jB,jC,jD,reduceCtorEq,jE,jF])
 ·simp only[Hp.set];rw[if_neg (by omega),hkp x (by omega) (hno x (.inl (.inl (by omega)))) (by omega)];exact hsm x hx
 ·simp only[Hp.set];rw[if_neg (by omega),hkp nx3 (by omega) (hno nx3 (.inl (.inl (by omega)))) (by omega)];exact w1
 ·simp only[Hp.set,if_true]
 ·rcases List.mem_append.1 hv with hv|hv
  ·obtain⟨m',q1,q2,q3⟩:=w4 v hv
   exact⟨m',hCk _ _ q1,q2,q3⟩
  rw[List.mem_singleton.1 hv]
  exact⟨m,hCAk _ _ _ _ y1 (fun x hx=>by simp only[Hp.set];rw[if_neg (by omega)]),by omega,by omega⟩
 ·refine List.nodup_append.2 ⟨w5,by simp,fun x hx y hy e=>?_⟩
  rw[List.mem_singleton.1 hy] at e
  obtain⟨m',q1,_⟩:=w4 x hx
  have:=hdm _ _ ((hCA ..).1 q1).2.cell
  omega
 simp only[Hp.set];rw[if_neg (by omega)];exact y6
theorem qD:aH Tryz.prog 44=some (LB.ContainsFunc (.agg 3) 73):=by kernel_rfl
theorem tZ:aH Tryz.prog 73=some (LB.IndexFunc (.agg 3)):=by kernel_rfl
theorem aDQ(o:Own)(d:Int)(h:Hp):aZ Tryz.prog 37 [.sl (.agg 3) o [], .int .i64 d] h (.sl (.agg 4) .nil []):=by
 refine aU (fun L=>by simp[V.names,bP]) fun h' nx hh=>(nR o [] d (by simp) h' nx).mono ?_
 rintro v h2 n2 _ (⟨_,h1,h2⟩|⟨hne,_⟩)
 ·exact⟨h1,h2⟩
 exact absurd rfl hne
def mkB(T:Nat→Nat→List Pa)(n:Nat)(s u:Sp):Bool:=decide (0≤u.p∧u.p<n∧0≤s.p∧s.p<n)&&rL (T s.p.toNat u.p.toNat) s u
theorem aAj{h:Hp}{wb tb nb:Nat}{ot:Own}{rows:List V}{vo:Own}{vs:List Nat}{q:List QE}{c:Nat}(w:fG h wb tb nb (.sl .leaf ot rows) vo vs q c)(T:Nat→Nat→List Pa)(n:Nat)(hT:aHq T n rows)(hlen:∀a b,(T a b).length≤1000)(s u:Sp)
 {a b:Nat} (ha:h a=some (.arr .leaf [.ptr wb (.agg 4) 0 0])) (hb:h b=some (.arr (.agg 3) [s.v])):aZ Tryz.prog 41 [u.v, .ptr a .leaf 0 0, .ptr b (.agg 3) 0 0] h (.bool (!mkB T n s u)):=by
 refine aU (fun L=>trivial) fun h' nx hh=>aD L.front_World_Do_1_low fun hd=>?_
 simp only[jL,jM,jA,jB,jN,jO,jP,jQ,V.undef]
 have c1:=hh _ _ ha rfl
 have c2:h' b=some (.arr (.agg 3) [.agg [.int .i64 s.p, .int .i64 s.t.e, .int .i64 s.t.r]]):=hh _ _ hb rfl
 have hw:fG h' wb tb nb (.sl .leaf ot rows) vo vs q c:=⟨hh _ _ w.cell rfl,hh _ _ w.mp rfl⟩
 have n1:a<nx:=hd _ _ c1
 have n2:b<nx:=hd _ _ c2
 have e1:(a=nx)=False:=fls
 have e2:(b=nx)=False:=fls
 have hw2:fG (h'.set nx (.arr (.agg 3) [.agg [.int .i64 u.p, .int .i64 u.t.e, .int .i64 u.t.r]])) wb tb nb (.sl .leaf ot rows) vo vs q c:=by
  have q1:=hd _ _ hw.cell
  have q2:=hd _ _ hw.mp
  exact⟨by simp only[Hp.set];rw[if_neg (by omega)];exact hw.cell,by simp only[Hp.set];rw[if_neg (by omega)];exact hw.mp⟩
 have C5:=aEO hw2 T n hT hlen s u
 refine aue (e7 Sp.v.eq_1 c1 c2 n1 n2 e1 e2) ?_
 exact aG h' (leo hd) ⟨rfl,rfl⟩
def doE(N:Nat)(P:Int)(T:CS)(T0:Nat→Nat→List Pa)(n:Nat)(i:Int)(nt:Nt):Int:=
 if¬(0≤i∧i<N) then 1 else if cC T.1 nt.took<1 then 13 else if nt.made.any (fun u=> !mkB T0 n nt.took u)=true then 2 else (aT P T.1 T.2 nt.cs).1
theorem aKu(nt:Nt):(cY nt.made 1).map Cg.v++[.agg [.int .i64 nt.took.p, .int .i64 nt.took.t.e, .int .i64 nt.took.t.r, .int .i64 (-1)]]=nt.cs.map Cg.v:=by
 unfold Nt.cs cY
 rw[List.map_append];rfl
def qG(S:Nat→CS)(T' V':CS)(m k:Nat):Nat→CS:=if m<k then dJ (dJ S 0 T') (m+1) V' else dJ S 0 T'
theorem aEs(S:Nat→CS)(T' V':CS){m k:Nat}(h:k≠m):qG S T' V' m (k+1)=qG S T' V' m k:=by
 unfold qG
 by_cases e:m<k
 ·rw[if_pos e,if_pos (by omega)]
 rw[if_neg e,if_neg (by omega)]
theorem aGl(Q:Int→Int→List Nt)(m:Int)(n:Nt):dW 0 Q m n=Q:=by
 funext a b
 unfold dW
 rw[if_neg (by omega)]
theorem aGm(Q:Int→Int→List Nt)(m k:Nat)(n:Nt)(h:k≠m):dW (k+1) Q m n=jY (dW k Q m n) m k (Q m k++[n]):=by
 funext a b
 unfold dW jY
 by_cases e:a=m∧b=k
 ·obtain⟨rfl,rfl⟩:=e
  rw[if_pos (by omega),if_pos ⟨rfl,rfl⟩]
 rw[if_neg e]
 dsimp only
 by_cases e2:a=m∧b≠m∧0≤b∧b<k
 ·rw[if_pos (by omega),if_pos e2]
 rw[if_neg (by omega),if_neg e2]
theorem aAn(Q:Int→Int→List Nt)(m:Nat)(n:Nt):dW (m+1) Q m n=dW m Q m n:=by
 funext a b
 unfold dW
 by_cases e2:a=m∧b≠m∧0≤b∧b<m
 ·rw[if_pos (by omega),if_pos e2]
 rw[if_neg (by omega),if_neg e2]
theorem WI.push{n0:Nat}{h h2:Hp}{nx nx2 wb nb tb:Nat}{vo:Own}{vs:List Nat}{P:Int}{wv lc:V}{ot:Own}{rows:List V}{S:Nat→CS}{Q:Int→Int→List Nt}{q:List QE}{c c2 a:Nat}{i j:Int}{x:Own×Nt}
 (H:WI n0 h nx wb nb tb vo vs P wv lc ot rows S Q) (hw:fG h wb tb nb (.sl .leaf ot rows) vo vs q c) (hq:QOK n0 h q) (hl:∀i j,(cN q i j).map Prod.snd=Q i j)
 (hk:∀y,y<nx→y≠nb→(∀z∈q,z.at' i j=true→z.o≠ .tok y)→h2 y=h y) (ha:nx≤a) (ha2:h2 a=some .tip) (hn0:n0≤nx) (hm:h2 nb=some (.mp ((kF q c i j (.tok a) x).map QE.me) c2)) (hd:aM h2 nx2):
 WI n0 h2 nx2 wb nb tb vo vs P wv lc ot rows S (jY Q i j (Q i j++[x.2])):=by
 have tok:∀z∈q,∀y,z.o= .tok y→h y=some .tip:=fun z hz y e=>by
  obtain⟨b,h1,_,h3⟩:=hq.tk z hz
  rw[h1] at e
  injection e with e
  rw[←e];exact h3
 refine H.queue (fun y k es he=>hk y (H.dom _ _ he) (pF he hw.mp) fun z hz _ e=>by rw[tok z hz y e] at he;cases he) (fun y es k hy he=>hk y (H.dom _ _ he) hy fun z hz _ e=>by rw[tok z hz y e] at he;cases he) hd hm ?_ fun a' b'=>?_
 ·refine hq.push (by omega) ha2 fun y hy hn=>⟨fun e=>?_,fun b e=>?_⟩
  ·have:=H.dom _ _ (tok y hy a e)
   omega
  have hb:=tok y hy b e
  refine hk b (H.dom _ _ hb) (aEr hw.mp hb).symm fun z hz hz2 e2=>?_
  have hne:y≠z:=fun e3=>hn (e3▸hz2)
  obtain⟨i1,hi1,rfl⟩:=List.mem_iff_getElem.1 hy
  obtain⟨i2,hi2,rfl⟩:=List.mem_iff_getElem.1 hz
  have hii:i1≠i2:=fun e3=>hne (by subst e3;rfl)
  have hp:=List.pairwise_iff_getElem.1 hq.td
  rcases Nat.lt_or_gt_of_ne hii with k1|k1
  ·exact hp i1 i2 hi1 hi2 k1 (e.trans e2.symm)
  exact hp i2 i1 hi2 hi1 k1 (e2.trans e.symm)
 unfold jY
 split
 ·rename_i e
  obtain⟨rfl,rfl⟩:=e
  rw[aCP,List.map_append,hl];rfl
 rename_i e
 rw[vW e];exact hl a' b'
set_option maxRecDepth 100000 in
set_option maxHeartbeats 8000000 in
theorem aJA{n0:Nat}{B:Hp}{nxB wb nb tb:Nat}{vo:Own}{vs:List Nat}{P:Int}{wv lc:V}{ot:Own}{rows:List V}{S:Nat→CS}{Q:Int→Int→List Nt}(H:WI n0 B nxB wb nb tb vo vs P wv lc ot rows S Q)
 (m:Nat) (hm:m<vs.length) (nt:Nt) (ox:Own) (nx0:Nat) (b0:B nx0=some (.arr .leaf [.ptr wb (.agg 4) 0 0])) (hcs:nt.cs.length≤100000) (hok:∀k,dQ (S k).1 (S k).2) (hn0:n0≤nxB) (hql:∀a b,(Q a b).length<1000) (hvs:vs.length≤17) (Post:V→Hp→Nat→Prop)
 (hap:(aT P (S 0).1 (S 0).2 nt.cs).1=0→(aT P (S (m+1)).1 (S (m+1)).2 nt.cs).1=0)
 (hPe:∀h2 nx2,nxB≤nx2→Fr n0 (tb::vs) B h2→(aT P (S 0).1 (S 0).2 nt.cs).1≠0→WI n0 h2 nx2 wb nb tb vo vs P wv lc ot rows S Q→Post (dO (aT P (S 0).1 (S 0).2 nt.cs).1) h2 nx2)
 (hPo:∀h2 nx2,nxB≤nx2→Fr n0 (tb::vs) B h2→(aT P (S 0).1 (S 0).2 nt.cs).1=0→WI n0 h2 nx2 wb nb tb vo vs P wv lc ot rows (dJ (dJ S 0 (aT P (S 0).1 (S 0).2 nt.cs).2) (m+1) (aT P (S (m+1)).1 (S (m+1)).2 nt.cs).2) (dW vs.length Q m nt)→Post (dO 0) h2 nx2):
 lwp Tryz.prog (.seq (.seq (.ops L.front_World_Do_r13) (.seq (.ops L.front_World_Do_r14) (.cond (.slot 57) (.seq (.ops L.front_World_Do_r15) .ret) .skip))) (.seq (.seq (.ops L.front_World_Do_r16) (.block 1 (.loop L.front_World_Do_l0))) (.seq (.ops L.front_World_Do_r25) .ret))) (mK [.slot 8] Post)
  ⟨aB 97 0 [(1, .int .i64 m),(4, .ptr nx0 .leaf 0 0),(8, .nilIface),(10,cgs ox nt.cs)],B,nxB⟩:=by
 simp only[aB,go_sem,reduceIte,jA,jB,jC,jD,reduceCtorEq,jE,jF]
 obtain⟨q,c,hw,hq,hl⟩:=H.q
 obtain⟨mt,hmt,hct⟩:=H.t
 have c1:=hw.cell
 have n1:wb<nxB:=H.dom _ _ c1
 have n2:nx0<nxB:=H.dom _ _ b0
 refine aue (e4 b0 c1 n1 n2) ?_
 refine aX ((tJ ox nt.cs hcs _ _ (hok 0) P _ _ tb mt _ _ H.dom hct).mono ?_)
 rintro v h2 nx2 hnx2 ⟨rfl,⟨m2,hc2,hm2⟩,hk,hke,hd2,_⟩
 have hv:=dP (aT P (S 0).1 (S 0).2 nt.cs).1
 have hF2:Fr n0 (tb::vs) B h2:=⟨fun x hx=>by have:=H.lo.2 tb (by simp);exact hk x (by omega) (by omega),fun x k es hx he=>hk x (H.dom _ _ he) (fun e=>hx (by rw[e];simp))⟩
 unfold cR
 simp only[go_sem,reduceIte,jA,jB,jC,jD,reduceCtorEq,jE,jF]
 by_cases he:(aT P (S 0).1 (S 0).2 nt.cs).1=0
 case neg=>
  rw[decide_eq_false he] at hv
  refine aue hv ?_
  exact aG h2 (Hp.le_refl _) (hPe h2 _ (by first|omega|(dsimp only;omega)) hF2 he (H.keep (fun x _=>by rw[hke he]) (hd2.up (by first|omega|(dsimp only;omega)))))
 rw[decide_eq_true he] at hv
 have hbt:nx0≠tb:=fun e=>by rw[e,hct.cell] at b0;simp[iX] at b0
 have hbv:∀k (hk:k<vs.length),nx0≠vs[k]:=fun k hk e=>by
  obtain⟨m',_,hc'⟩:=H.v k hk
  rw[e,hc'.cell] at b0;simp[iX] at b0
 have hb0:nx0∉tb::vs:=fun e=>by
  rcases List.mem_cons.1 e with e|e
  ·exact hbt e
  obtain⟨k,hk,e2⟩:=List.mem_iff_getElem.1 e
  exact hbv k hk e2.symm
 have b2:h2 nx0=some (.arr .leaf [.ptr wb (.agg 4) 0 0]):=by rw[hk _ n2 hbt];exact b0
 have H2:WI n0 h2 nx2 wb nb tb vo vs P wv lc ot rows (dJ S 0 (aT P (S 0).1 (S 0).2 nt.cs).2) Q:=H.apply 0 (by simp) hk hd2 hm2 hmt hc2
 have hap:=hap he
 obtain⟨T',hT'⟩:∃T',T'=(aT P (S 0).1 (S 0).2 nt.cs).2:=⟨_,rfl⟩
 obtain⟨V',hV'⟩:∃V',V'=(aT P (S (m+1)).1 (S (m+1)).2 nt.cs).2:=⟨_,rfl⟩
 rw[←hT'] at H2
 rw[←hT',←hV'] at hPo
 have c2:h2 wb=some (.arr (.agg 4) [.agg [.sl .leaf ot rows, .ptr tb (.agg 4) 0 0, .sl .leaf vo (vs.map fun v=> .ptr v (.agg 4) 0 0), .map nb]]):=by rw[hk _ n1 (aCr c1 hct.cell)];exact c1
 have n4:wb<nx2:=by omega
 have n5:nx0<nx2:=by omega
 refine aue (e6 hv b2 c2 n4 n5 (@jK Nat V)) ?_
 clear hc2 hm2 hke hk hmt hct
 refine aY (fun k:Nat=>aB 97 0 [(1, .int .i64 m),(4, .ptr nx0 .leaf 0 0),(8, .nilIface),(10,cgs ox nt.cs),(62, .sl .leaf vo (vs.map fun v=> .ptr v (.agg 4) 0 0)),(63, .int .i64 vs.length),(64, .int .i64 k)])
  (fun k hp nx1=>k≤vs.length∧nx2≤nx1∧Fr n0 (tb::vs) B hp∧hp nx0=some (.arr .leaf [.ptr wb (.agg 4) 0 0])∧WI n0 hp nx1 wb nb tb vo vs P wv lc ot rows (qG S T' V' m k) (dW k Q m nt))
  (fun k=>vs.length-k) 0 ⟨Nat.zero_le _,by first|omega|(dsimp only;omega),hF2,b2,?_⟩ (by simp only[WkL,aB,jH,jI,jJ,go_sem,reduceIte,jA,jB,jC,jD,reduceCtorEq,jE,jF]) ?_
 ·rw[aGl,show qG S T' V' m 0=dJ S 0 T' from if_neg (by omega)]
  exact H2.keep (fun _ _=>rfl) (hd2.up (by first|omega|(dsimp only;omega)))
 rintro k hp nx1 ⟨hk,hnx,hfr,p0,HK⟩
 generalize hQ:bZ _ _ _ _ _=Q0
 simp only[aB,go_sem,reduceIte,jA,jB,jC,jD,reduceCtorEq,jE,jF]
 rcases Nat.lt_or_ge k vs.length with hlt|hge
 case inr=>
  have hc1:decide ((k:Int)<(vs.length:Int))=false:=dcf
  refine aue hc1 ?_
  rw[←hQ]
  refine au ?_
  have hkv:k=vs.length:=by omega
  subst hkv
  rw[show qG S T' V' m vs.length=dJ (dJ S 0 T') (m+1) V' from if_pos hm] at HK
  exact aG hp (Hp.le_refl _) (hPo hp _ (by first|omega|(dsimp only;omega)) hfr he (HK.keep (fun _ _=>rfl) (HK.dom.up (by first|omega|(dsimp only;omega)))))
 have hc1:decide ((k:Int)<(vs.length:Int))=true:=dct
 have hw1:IntKind.i64.wrap ((k:Int)+1)=((k+1:Nat):Int):=wrp
 have hg:(vs.map fun v=>V.ptr v (.agg 4) 0 0).getD k (.tup [])= .ptr vs[k] (.agg 4) 0 0:=dM (fun v=>V.ptr v (.agg 4) 0 0) _ vs k hlt
 obtain⟨q',c',hw',hq',hl'⟩:=HK.q
 have d1:=hw'.cell
 have d2:=hw'.mp
 have l1:wb<nx1:=HK.dom _ _ d1
 have l2:nb<nx1:=HK.dom _ _ d2
 have l3:nx0<nx1:=HK.dom _ _ p0
 by_cases hkm:k=m
 case pos=>
  subst hkm
  have g1:((k:Int) != (k:Int))=false:=bnf
  obtain⟨mv,hmv,hcv⟩:=HK.v k hlt
  rw[show qG S T' V' k k=dJ S 0 T' from if_neg (by omega),show dJ S 0 T' (k+1)=S (k+1) from if_neg (by omega)] at hcv
  refine aue (e6 hc1 hw1 hg hlt g1 (@jK Nat V)) ?_
  refine aX ((tJ ox nt.cs hcs _ _ (hok (k+1)) P _ _ vs[k] mv _ _ (dmo HK.dom) hcv).mono ?_)
  rintro v h5 nx5 hnx5 ⟨rfl,⟨m5,hc5,hm5⟩,hk5,_,hd5,_⟩
  have hv5:=dP (aT P (S (k+1)).1 (S (k+1)).2 nt.cs).1
  rw[decide_eq_true hap] at hv5
  try dsimp only at hnx5 hk5 hm5
  unfold cR
  simp only[go_sem,reduceIte,jA,jB,jC,jD,reduceCtorEq,jE,jF]
  refine aue (e2 hv5 hw1) ?_
  rw[←hQ]
  have hxv:vs[k]∈tb::vs:=List.mem_cons_of_mem _ (List.getElem_mem hlt)
  refine aI (k+1) (by omega) ⟨hlt,by first|omega|(dsimp only at hnx5⊢;omega),hfr.trans ⟨fun x hx=>?_,fun x kk es hx he=>?_⟩,?_,?_⟩ (by simp only[WkL,aB,jH,jI,jJ,go_sem,reduceIte,jA,jB,jC,jD,reduceCtorEq,jE,jF])
  ·have:=HK.lo.2 _ hxv
   have:=HK.dom _ _ hcv.cell
   exact hk5 x (by omega) (by omega)
  ·exact hk5 x (HK.dom _ _ he) (fun e=>hx (e▸hxv))
  ·rw[hk5 nx0 l3 (hbv k hlt)];exact p0
  rw[aAn,show qG S T' V' k (k+1)=dJ (dJ S 0 T') (k+1) V' from if_pos (by omega)]
  rw[show qG S T' V' k k=dJ S 0 T' from if_neg (by omega)] at HK
  rw[hV']
  exact(HK.apply (k+1) (by simpa using hlt) hk5 hd5 hm5 hmv hc5).keep (fun _ _=>rfl) (hd5.up (by first|omega|(dsimp only;omega)))
 have g1:((k:Int) != (m:Int))=true:=bnt
 have hf:eJ (.plain (.agg 2) [.int, .int]) (.agg [.int .i64 m, .int .i64 k]) (q'.map QE.me)=some (eD q' m k):=pR m k q'
 have hg2:=aBV q' m k
 have hqe:dW k Q m nt m k=Q m k:=by unfold dW;rw[if_neg (by omega)]
 have hxl:(cgs ox nt.cs).leafy=true:=rfl
 have hnext:∀(H2:Hp) (nx3 c3:Nat),nx1+18≤nx3→aM H2 nx3→H2 (nx1+17)=some .tip→H2 nb=some (.mp ((kF q' c' m k (.tok (nx1+17)) (ox,nt)).map QE.me) c3)→(∀y,y<nx1→y≠nb→(∀z∈q',z.at' m k=true→z.o≠ .tok y)→H2 y=hp y)→
  k+1≤vs.length∧nx2≤nx3∧Fr n0 (tb::vs) B H2∧H2 nx0=some (.arr .leaf [.ptr wb (.agg 4) 0 0])∧WI n0 H2 nx3 wb nb tb vo vs P wv lc ot rows (qG S T' V' m (k+1)) (dW (k+1) Q m nt):=fun H2 nx3 c3 h1 h3 h4 h5 h6=>by
  have tok:∀z∈q',∀y,z.o= .tok y→n0≤y∧hp y=some .tip:=fun z hz y e=>by
   obtain⟨b,x1,x2,x3⟩:=hq'.tk z hz
   rw[x1] at e
   injection e with e
   rw[←e];exact⟨x2,x3⟩
  have harr:∀y kk es,hp y=some (.arr kk es)→H2 y=hp y:=fun y kk es he=>h6 y (HK.dom _ _ he) (pF he d2) fun z hz _ e=>by rw[(tok z hz y e).2] at he;cases he
  refine⟨hlt,by omega,hfr.trans ⟨fun x hx=>?_,fun x kk es _ he=>harr x kk es he⟩,by rw[harr _ _ _ p0];exact p0,?_⟩
  ·have:=HK.lo.1
   exact h6 x (by omega) (by omega) fun z hz _ e=>by have:=(tok z hz x e).1;omega
  have:=HK.push hw' hq' hl' h6 (by omega) h4 (by omega) h5 h3
  rw[hqe] at this
  rw[aGm Q m k nt hkm,aEs S T' V' hkm]
  exact this
 cases hfi:eD q' m k with
 |none=>
  have hset:=aED hfi c' (.tok (nx1+17)) (ox,nt)
  have hno:∀z∈q',¬z.at' m k=true:=fun z hz=>by
   have:=List.findIdx?_eq_none_iff.1 hfi z hz
   unfold QE.at'
   rw[this];simp
  rw[hfi] at hf hg2
  rw[sD hfi] at hg2
  refine aue (aKs hc1 hw1 hg hlt g1 (@jK Nat V) p0 d1 d2 l1 l2 l3 hf (e2 hg2 hxl)) ?_
  refine yP (c:=c') (es:=q'.map QE.me) rfl rfl (by simp only[Hp.set];rw[if_neg (by omega),if_neg (by omega)];exact d2) hf (fun jj e=>by cases e) (fun _=>?_)
  simp only[go_sem,reduceIte,jA,jB,jC,jD,reduceCtorEq,jE,jF]
  refine aue hw1 ?_
  rw[←hQ]
  exact aI (k+1) (by omega) (hnext _ _ _ (by first|omega|(dsimp only;omega)) (dmo HK.dom) (by simp only[Hp.set];rw[if_neg (by omega)];simp) (by simp only[Hp.set,if_true];exact congrArg (fun e=>some (Blk.mp e _)) hset) (fun y hy hne _=>by simp only[Hp.set];rw[if_neg hne,if_neg (by omega),if_neg (by omega)])) (by simp only[WkL,aB,jH,jI,jJ,go_sem,reduceIte,jA,jB,jC,jD,reduceCtorEq,jE,jF])
 |some j=>
  have hset:=aEC hfi c' (.tok (nx1+17)) (ox,nt)
  rw[qV,List.map_append] at hset
  rw[hfi] at hf hg2
  obtain⟨hkl,hka⟩:=sE hfi
  rw[sC hfi] at hg2
  have hxm:q'.getD j default∈q':=by rw[List.getD_eq_getElem?_getD,List.getElem?_eq_getElem hkl];exact List.getElem_mem hkl
  obtain⟨b,hb1,hb0,hb2⟩:=hq'.tk _ hxm
  rw[hb1] at hg2
  obtain⟨es,hes⟩:∃es,es=(cN q' m k).map wA:=⟨_,rfl⟩
  have hg2:lR false (.sl .leaf .nil []) (q'.map QE.me) (some j)= .sl .leaf (.tok b) es:=by rw[hes];exact hg2
  have hel:es.length≤1000:=by rw[hes,jK,←jK (f:=Prod.snd),hl',hqe];exact Nat.le_of_lt (hql m k)
  have hel2:(es.length+1)*24≤140737488355328:=by omega
  have hbn:=HK.dom _ _ hb2
  have hco:∀deps adds,mU hp nx1 deps adds [none,none,none,none,none,none,none,none,none,none,none,none,none,none,none,none,none] b .tip:=fun _ _=>mS hbn hb2 (by simp[cZ])
  refine aue (aKs hc1 hw1 hg hlt g1 (@jK Nat V) p0 d1 d2 l1 l2 l3 hf (e4 hg2 hxl hel2 hco)) ?_
  have hnbb:nb≠b:=aEr d2 hb2
  refine yP (c:=c') (es:=q'.map QE.me) rfl rfl (by simp only[Hp.set,Hp.del];rw[if_neg hnbb,if_neg (by omega),if_neg (by omega)];exact d2) hf (fun jj e=>?_) (fun e=>by cases e)
  injection e with e
  subst e
  simp only[go_sem,reduceIte,jA,jB,jC,jD,reduceCtorEq,jE,jF]
  refine aue hw1 ?_
  rw[←hQ]
  exact aI (k+1) (by omega) (hnext _ _ _ (by first|omega|(dsimp only;omega)) (dmo HK.dom) (by simp only[Hp.set,Hp.del];rw[if_neg (by omega),if_neg (by omega)];simp) (by simp only[Hp.set,if_true];exact congrArg (fun e=>some (Blk.mp e _)) (by rw[hes];exact hset)) (fun y hy hne hz=>by
   have hyb:y≠b:=fun e=>hz _ hxm hka (by rw[hb1,e])
   simp only[Hp.set,Hp.del];rw[if_neg hne,if_neg hyb,if_neg (by omega),if_neg (by omega)])) (by simp only[WkL,aB,jH,jI,jJ,go_sem,reduceIte,jA,jB,jC,jD,reduceCtorEq,jE,jF])
set_option maxRecDepth 100000 in
set_option maxHeartbeats 8000000 in
theorem aIG{n0:Nat}{h':Hp}{nx wb nb tb:Nat}{vo:Own}{vs:List Nat}{P:Int}{wv lc:V}{ot:Own}{rows:List V}{S:Nat→CS}{Q:Int→Int→List Nt}(H:WI n0 h' nx wb nb tb vo vs P wv lc ot rows S Q)
 (T:Nat→Nat→List Pa) (n:Nat) (hT:aHq T n rows) (hlen:∀a b,(T a b).length≤1000) (i:Int) (nt:Nt) (o:Own) (hmade:nt.made.length≤1000) (hok:∀k,dQ (S k).1 (S k).2) (hn0:n0≤nx) (hql:∀a b,(Q a b).length<1000) (hvs:vs.length≤17)
 (hap:(aT P (S 0).1 (S 0).2 nt.cs).1=0→doE vs.length P (S 0) T n i nt=0→(aT P (S (i.toNat+1)).1 (S (i.toNat+1)).2 nt.cs).1=0):
 aW Tryz.prog 11 [.ptr wb (.agg 4) 0 0, .int .i64 i,nt.took.v, .sl (.agg 3) o (nt.made.map Sp.v)] h' nx fun v h'' nx2=>nx≤nx2∧Fr n0 (tb::vs) h' h''∧v=dO (doE vs.length P (S 0) T n i nt)∧
  ((doE vs.length P (S 0) T n i nt≠0∧WI n0 h'' nx2 wb nb tb vo vs P wv lc ot rows S Q)∨
   (doE vs.length P (S 0) T n i nt=0∧WI n0 h'' nx2 wb nb tb vo vs P wv lc ot rows (dJ (dJ S 0 (aT P (S 0).1 (S 0).2 nt.cs).2) (i.toNat+1) (aT P (S (i.toNat+1)).1 (S (i.toNat+1)).2 nt.cs).2) (dW vs.length Q i nt))):=by
 refine aD L.front_World_Do_low fun hd=>?_
 simp only[jL,jM,jA,jB,jN,jO,jP,jQ,V.undef]
 have hd:aM h' nx:=hd
 have htf:=Sp.fits_v nt.took
 have htv:nt.took.v= .agg [.int .i64 nt.took.p, .int .i64 nt.took.t.e, .int .i64 nt.took.t.r]:=rfl
 rw[htv] at htf⊢
 refine aue htf ?_
 obtain⟨A,hA⟩:∃A,A=(h'.set nx (.arr .leaf [.ptr wb (.agg 4) 0 0])).set (nx+1) (.arr (.agg 3) [.agg [.int .i64 nt.took.p, .int .i64 nt.took.t.e, .int .i64 nt.took.t.r]]):=⟨_,rfl⟩
 rw[←hA]
 have a0:A nx=some (.arr .leaf [.ptr wb (.agg 4) 0 0]):=by rw[hA];simp only[Hp.set];rw[if_neg (by omega)];simp
 have a1:A (nx+1)=some (.arr (.agg 3) [.agg [.int .i64 nt.took.p, .int .i64 nt.took.t.e, .int .i64 nt.took.t.r]]):=by rw[hA];simp only[Hp.set,if_true]
 have hkA:∀x,x<nx→A x=h' x:=fun x hx=>by rw[hA];simp only[Hp.set];rw[if_neg (by omega),if_neg (by omega)]
 have hdA:aM A (nx+2):=by rw[hA];exact dmo hd
 have HA:WI n0 A (nx+2) wb nb tb vo vs P wv lc ot rows S Q:=H.keep hkA hdA
 have hfA:Fr n0 (tb::vs) h' A:=Fr.of hd hn0 hkA
 clear hA
 obtain⟨q,c,hw,hq,hl⟩:=HA.q
 obtain⟨mt,hmt,hct⟩:=HA.t
 have c1:=hw.cell
 have n1:wb<nx+2:=hdA _ _ c1
 have C5:=jV hw i
 have hbad:∀(e:Int) (nx2:Nat),nx+2≤nx2→doE vs.length P (S 0) T n i nt=e→e≠0→nx≤nx2∧Fr n0 (tb::vs) h' A∧dO e=dO (doE vs.length P (S 0) T n i nt)∧
  ((doE vs.length P (S 0) T n i nt≠0∧WI n0 A nx2 wb nb tb vo vs P wv lc ot rows S Q)∨
   (doE vs.length P (S 0) T n i nt=0∧WI n0 A nx2 wb nb tb vo vs P wv lc ot rows (dJ (dJ S 0 (aT P (S 0).1 (S 0).2 nt.cs).2) (i.toNat+1) (aT P (S (i.toNat+1)).1 (S (i.toNat+1)).2 nt.cs).2) (dW vs.length Q i nt))):=fun e nx2 hx he h0=>
  ⟨by omega,hfA,by rw[he], .inl ⟨by rw[he];exact h0,HA.keep (fun _ _=>rfl) (hdA.up hx)⟩⟩
 by_cases hi:0≤i∧i<vs.length
 case neg=>
  have g1:(decide (0≤i)&&decide (i<vs.length))=false:=by rw[←Bool.decide_and];exact decide_eq_false hi
  rw[g1] at C5
  refine au ?_
  exact aG A (Hp.le_refl _) (hbad 1 _ (by first|omega|(dsimp only;omega)) (by unfold doE;rw[if_pos hi]) (by decide))
 have g1:(decide (0≤i)&&decide (i<vs.length))=true:=by rw[←Bool.decide_and];exact decide_eq_true hi
 rw[g1] at C5
 have z1:nx<nx+2:=by omega
 have z2:nx+1<nx+2:=by omega
 refine aue (e6 c1 n1 a0 a1 z1 z2) ?_
 refine bL (aIt nt.took hct) rfl (aR _) ?_
 simp only[go_sem,reduceIte,jA,jB,jC,jD,reduceCtorEq,jE,jF]
 by_cases hg:cC (S 0).1 nt.took<1
 case pos=>
  have g2:decide (cC (S 0).1 nt.took<1)=true:=decide_eq_true hg
  refine aue g2 ?_
  exact aG A (Hp.le_refl _) (hbad 13 _ (by first|omega|(dsimp only;omega)) (by unfold doE;rw[if_neg (fun h=>h hi),if_pos hg]) (by decide))
 have g2:decide (cC (S 0).1 nt.took<1)=false:=decide_eq_false hg
 have C6:aZ Tryz.prog 44 [.sl (.agg 3) o (nt.made.map Sp.v), .fn (.func 41) [] [.ptr nx .leaf 0 0, .ptr (nx+1) (.agg 3) 0 0]] A (.bool (nt.made.any (fun u=> !mkB T n nt.took u))):=
  dB Sp.v Sp.fits_v qD tZ (fun u=> !mkB T n nt.took u) o nt.made _ [.ptr nx .leaf 0 0, .ptr (nx+1) (.agg 3) 0 0] _ (fun u _=>aAj hw T n hT hlen nt.took u a0 a1) (by omega)
 cases hany:nt.made.any (fun u=> !mkB T n nt.took u) with
 |true=>
  rw[hany] at C6
  refine aue g2 ?_
  exact aG A (Hp.le_refl _) (hbad 2 _ (by first|omega|(dsimp only;omega)) (by unfold doE;rw[if_neg (fun h=>h hi),if_neg hg,if_pos hany]) (by decide))
 |false=>
 rw[hany] at C6
 have hE:doE vs.length P (S 0) T n i nt=(aT P (S 0).1 (S 0).2 nt.cs).1:=by unfold doE;rw[if_neg (fun h=>h hi),if_neg hg,if_neg (by rw[hany];simp)]
 have C5:=aGS hw i (by omega) (fun j=>by have:=hql i j;rw[←hl,jK] at this;exact this)
 generalize hD:bE.draw 7 L.front_World_Do_r12 L.front_World_Do_r12t=DR
 refine aue (e3 g2 a0 z1) ?_
 generalize hC:qB (lwp Tryz.prog _) (mK _ _)=QC
 obtain⟨m,rfl⟩:∃m:Nat,i=m:=⟨i.toNat,by omega⟩
 have hm:m<vs.length:=by omega
 have hcl:nt.cs.length≤100000:=by rw[Nt.cs_len];omega
 have hfin:∀(ox:Own) (C:Hp) (nxC:Nat) (sl:List V),nx+2≤nxC→aM C nxC→(∀x,x<nx+2→C x=A x)→WkL sl (aB 97 0 [(1, .int .i64 m),(4, .ptr nx .leaf 0 0),(8, .nilIface),(10,cgs ox nt.cs)])→QC .normal ⟨sl,C,nxC⟩:=fun ox C nxC sl hx hdC hkC hsl=>by
  have hfC:Fr n0 (tb::vs) A C:=Fr.of hdA (by omega) hkC
  rw[←hC]
  refine kI ⟨_,C,nxC⟩ ⟨hsl,Hp.le_refl _,Nat.le_refl _⟩ ?_
  refine aJA (HA.keep hkC hdC) m hm nt ox nx (by rw[hkC _ (by omega)];exact a0) hcl hok (by omega) hql hvs _ (fun h0=>hap h0 (by rw[hE];exact h0)) (fun h2 nx2 hx2 hf2 h0 hW=>⟨by omega,(hfA.trans hfC).trans hf2,by rw[hE], .inl ⟨by rw[hE];exact h0,hW⟩⟩) (fun h2 nx2 hx2 hf2 h0 hW=>⟨by omega,(hfA.trans hfC).trans hf2,by rw[hE,h0], .inr ⟨by rw[hE];exact h0,?_⟩⟩)
  rw[jG];exact hW
 clear hC
 rw[←hD]
 clear hD
 have hcm:=aKu nt
 have hl1:(cY nt.made 1).length=nt.made.length:=by simp[cY]
 have hl2:(nt.made.length+1)*32≤140737488355328:=by omega
 rcases List.eq_nil_or_concat nt.made with hm0|⟨_,_,hm0⟩
 ·have hcm:nt.cs.map Cg.v=[.agg [.int .i64 nt.took.p, .int .i64 nt.took.t.e, .int .i64 nt.took.t.r, .int .i64 (-1)]]:=by rw[←hcm,hm0];rfl
  refine aue trivial ?_
  refine bL (aDQ o 1 _) (by rw[hm0];rfl) (aR _) ?_
  simp only[go_sem,reduceIte,jA,jB,jC,jD,reduceCtorEq,jE,jF]
  refine aue (e4 a1 z2 htf hcm) ?_
  exact hfin (.tok (nx+15)) _ _ _ (by omega) (dmo hdA) (fun x hx=>by simp only[Hp.set];repeat rw[if_neg (by omega)]) (by simp only[WkL,aB,jH,jI,jJ,cgs,hcm,go_sem,reduceIte,jA,jB,jC,jD,reduceCtorEq,jE,jF])
 refine aue trivial ?_
 refine aFm (aAC o nt.made 1 (by omega) (by rw[hm0];simp) _) rfl (aR _) ?_
 simp only[go_sem,reduceIte,jA,jB,jC,jD,reduceCtorEq,jE,jF]
 have ca1:mU A (nx+10) [0,1,2,3,4] [none,some .tip,none,none,some .tip] [none,none,none,none,none] (nx+11) .tip:=⟨by simp[cZ], .inr ⟨1,by simp,rfl,rfl⟩⟩
 refine aue (e7 a1 z2 htf hcm hl1 hl2 ca1) ?_
 exact hfin (.tok (nx+15)) _ _ _ (by omega) (dmo hdA) (fun x hx=>by simp only[Hp.set,Hp.del];repeat rw[if_neg (by omega)]) (by simp only[WkL,aB,jH,jI,jJ,cgs,go_sem,reduceIte,jA,jB,jC,jD,reduceCtorEq,jE,jF])
end Go.Proofs.YtecepaehmojpgaaGreat
namespace Go.Proofs.YtecepaehmojpgaaGreat
open Go.RowKit Go.Sort
def aS:Sp:=⟨0,⟨1,0⟩⟩
def bS:Sp:=⟨1,⟨1,0⟩⟩
def aN:Nt:=⟨aS,[bS]⟩
def aC:CS:=([⟨aS,1,0⟩],1)
def bC:CS:=([⟨bS,1,1⟩],2)
theorem aBy:aT 2 [] 0 (cY [aS] 1)=(0,aC):=by decide
theorem lB:aT 2 aC.1 aC.2 aN.cs=(0,bC):=by decide
theorem aIU:dQ aC.1 aC.2:=⟨by decide,by decide,by decide,by decide⟩
theorem aJT:dQ bC.1 bC.2:=⟨by decide,by decide,by decide,by decide⟩
theorem aKf:mkB (bG iC) 2 aS bS=true:=by
 unfold mkB rL
 rw[show aS.p.toNat=0 from rfl,show bS.p.toNat=1 from rfl,aBa]
 decide
theorem aJm:doE 2 2 aC (bG iC) 2 0 aN=0:=by
 unfold doE
 rw[if_neg (by decide),if_neg (by decide),if_neg,show aT 2 aC.1 aC.2 aN.cs=(0,bC) from lB]
 rw[show aN.made.any (fun u=> !mkB (bG iC) 2 aN.took u)=(!mkB (bG iC) 2 aS bS||false) from rfl,aKf]
 decide
theorem aCB{b:Nat}{w:List We}(h:fM iC 1 w b):w=[]∧b=1:=by
 cases w with
 |nil=>exact⟨rfl,(show 1=b from h).symm⟩
 |cons x w=>
  obtain⟨h1,h2,_⟩:=h
  simp[iC] at h1
  subst h1
  cases h2
theorem aEI:bG iC 1 1=[Pa.nought]:=
 mR ⟨by simp[Can],(fun p hp=>by simp at hp;subst hp;exact⟨[],rfl,rfl⟩),fun p ⟨l,h1,h2⟩=>⟨Pa.nought,by simp,by
  have h3:=(aCB h1).1
  subst h3
  have h2:some Pa.nought=some p:=h2
  injection h2 with h2
  rw[←h2]
  decide⟩⟩
theorem aEJ:bG iC 1 0=[]:=
 mR ⟨by simp[Can],(fun p hp=>by cases hp),fun p ⟨l,h1,h2⟩=>by have:=(aCB h1).2;omega⟩
theorem aFg{T:Nat→Nat→List Pa}{b:Nat}{s:Sp}{l:List Pa}(h:T s.p.toNat b=l):frT T b [s]=iI s.t l:=by
 unfold frT
 rw[List.flatMap_cons,List.flatMap_nil,List.append_nil,h]
theorem aKY:eC aC.1=[aS]:=by decide
theorem aKX:eC bC.1=[bS]:=by decide
theorem aJv:ofT (frT (bG iC) 1 [aS])=[⟨1,0⟩]:=by
 rw[aFg aBa,show iI aS.t [Pa.nought]=[⟨1,0⟩] from by decide,xX];decide
theorem aJu:ofT (frT (bG iC) 1 [bS])=[⟨1,0⟩]:=by
 rw[aFg aEI,show iI bS.t [Pa.nought]=[⟨1,0⟩] from by decide,xX];decide
theorem aIw:ofT (frT (bG iC) 0 [bS])=[]:=by
 rw[aFg aEJ,show iI bS.t []=[] from rfl,xX];decide
attribute [local irreducible] IntKind.wrap
structure RG(F:List (Nat×Nat×V))(fix:List (Nat×V))(n:Nat)(D:Nat→Bool)(sl:List V):Prop where
 len:sl.length=n
 fx:∀p∈fix,sl.getD p.1 V.undef=p.2
 dn:∀f∈F,D f.1=true→sl.getD f.2.1 V.undef=f.2.2
theorem RG.slot{F:List (Nat×Nat×V)}{fix:List (Nat×V)}{n:Nat}{D:Nat→Bool}{sl:List V}(r:RG F fix n D sl)(i t:Nat)(v:V)(ht:t<n)(hF:∀f∈F,(f.1=i∨f.2.1=t)→f=(i,t,v))(hx:∀p∈fix,p.1≠t):
 RG F fix n (fun j=>if j=i then true else D j) (sl.set t v):=by
 obtain⟨len,fx,dn⟩:=r
 refine⟨by rw[List.length_set];exact len,fun p hp=>?_,fun f hf hd=>?_⟩
 ·rw[gsl,if_neg (fun e=>hx p hp e.1.symm)];exact fx p hp
 rw[gsl]
 by_cases e:t=f.2.1
 ·have:=hF f hf (.inr e.symm)
  subst this
  rw[if_pos ⟨rfl,by rw[len];exact ht⟩]
 rw[if_neg (fun k=>e k.1)]
 by_cases e2:f.1=i
 ·have:=hF f hf (.inl e2)
  subst this
  exact absurd rfl e
 rw[if_neg e2] at hd
 exact dn f hf hd
theorem RG.none{F:List (Nat×Nat×V)}{fix:List (Nat×V)}{n:Nat}{D:Nat→Bool}{sl:List V}(r:RG F fix n D sl)(i:Nat)(hF:∀f∈F,f.1≠i):RG F fix n (fun j=>if j=i then true else D j) sl:=
 ⟨r.len,r.fx,fun f hf hd=>r.dn f hf (by rwa [if_neg (hF f hf)] at hd)⟩
theorem WI.box{h h2:Hp}{n0 n1 nx nx2 wb nb tb:Nat}{vo:Own}{vs:List Nat}{P:Int}{wv lc:V}{ot:Own}{rows:List V}{S:Nat→CS}{Q:Int→Int→List Nt}(H:WI n0 h nx wb nb tb vo vs P wv lc ot rows S Q)(hk:∀x b,h x=some b→(∀es,b≠ .arr (.agg 3) es)→h2 x=h x)(hd:aM h2 nx2)(hn:n1≤n0):WI n1 h2 nx2 wb nb tb vo vs P wv lc ot rows S Q:=by
 obtain⟨q,c,hw,hq,hl⟩:=H.q
 refine⟨⟨q,c,⟨?_,?_⟩,⟨fun x hx=>?_,hq.td,hq.key,hq.ne⟩,hl⟩,hd,fun i hi=>?_,H.d,Nat.le_trans hn H.lo.1,fun x hx=>Nat.le_trans hn (H.lo.2 x hx)⟩
 ·rw[hk _ _ hw.cell (fun _ e=>by injection e with e;cases e)];exact hw.cell
 ·rw[hk _ _ hw.mp (fun _ e=>by cases e)];exact hw.mp
 ·obtain⟨b,h1,h0,h3⟩:=hq.tk x hx
  exact⟨b,h1,Nat.le_trans hn h0,by rw[hk _ _ h3 (fun _ e=>by cases e)];exact h3⟩
 obtain⟨m,hm,hc⟩:=H.c i hi
 exact⟨m,hm,by rw[hk _ _ hc.cell (fun _ e=>by injection e with e;cases e)];exact hc.cell,by rw[hk _ _ hc.mp (fun _ e=>by cases e)];exact hc.mp,hc.wf,hc.lf⟩
def vP(wb:Nat):List (Nat×Nat×V):=[(0,27, .ptr wb (.agg 4) 0 0),(1,28,aS.v),(2,29,bS.v),(3,30, .nilIface),(4,31, .bool true),(5,32, .bool true),(6,33, .nilIface),(7,34, .bool true),(8,35, .bool true),(9,36, .bool true),(10,37, .ptr wb (.agg 4) 0 0),(11,38, .bool true),(12,39, .bool true),(13,0, .ptr wb (.agg 4) 0 0),(16,3, .bool true)]
def pE(wb c1 c2 c6 c7:Nat):List (Nat×V):=[(1, .ptr c1 (.agg 3) 0 0),(2, .ptr c2 (.agg 3) 0 0),(5, .nilIface),(6, .ptr c6 (.agg 3) 0 0),(7, .ptr c7 (.agg 3) 0 0),(8, .ptr wb (.agg 4) 0 0),(9, .nilIface)]
def aAK:Sp:=⟨0,⟨0,0⟩⟩
structure RB(M:Hp)(wb c1 c2 c6 c7 nx:Nat)(D:Nat→Bool)(s:St):Prop where
 sl:RG (vP wb) (pE wb c1 c2 c6 c7) 40 D s.sl
 h1:s.h c1=some (.arr (.agg 3) [if D 14=true then aS.v else aAK.v])
 h2:s.h c2=some (.arr (.agg 3) [if D 15=true then bS.v else aAK.v])
 ho:∀x,x≠c1→x≠c2→s.h x=M x
 nn:nx≤s.nx
theorem RB.slot{M:Hp}{wb c1 c2 c6 c7 nx:Nat}{D:Nat→Bool}{sl:List V}{h:Hp}{n:Nat}(r:RB M wb c1 c2 c6 c7 nx D ⟨sl,h,n⟩)(i t:Nat)(v:V)(ht:t<40)(hF:∀f∈vP wb,(f.1=i∨f.2.1=t)→f=(i,t,v))(hx:∀p∈pE wb c1 c2 c6 c7,p.1≠t)(h14:i≠14)(h15:i≠15):
 RB M wb c1 c2 c6 c7 nx (fun j=>if j=i then true else D j) ⟨sl.set t v,h,n⟩:=
 ⟨r.sl.slot i t v ht hF hx,by rw[if_neg h14.symm];exact r.h1,by rw[if_neg h15.symm];exact r.h2,r.ho,r.nn⟩
set_option maxRecDepth 100000 in
set_option maxHeartbeats 8000000 in
theorem aIP(h':Hp)(nx:Nat):aW Tryz.prog 34 [] h' nx fun v h'' nx2=>nx≤nx2∧aM h'' nx2∧(∀x,x<nx→h'' x=h' x)∧
 ∃wb nb tb vo vs o2 oc ot,v= .tup [.ptr wb (.agg 4) 0 0,aS.v,bS.v, .bool true]∧vs.length=2∧nx≤wb∧WI nx h'' nx2 wb nb tb vo vs 2 (wys o2 oR) (.sl .leaf oc (cH 2 iC 2)) ot (cH 2 iC 2) (fun _=>aC) (fun _ _=>[]):=by
 refine aD L.corollarylaw24_begun_low fun hd=>?_
 simp only[jL,jM,jA,jB,jN,jO,jP,jQ,V.undef]
 have hd:aM h' nx:=hd
 have hnew:∀o h,aZ Tryz.prog 62 [.int .i64 2, .sl (.agg 4) o [.agg [.int .i64 0, .int .i64 1, .bool false, .int .i64 0]]] h (.tup [.agg [.int .i64 2, .sl (.agg 4) .free (oR.map Wy.v)], .nilIface]):=fun o h=>by
  have:=aCZ o 2 oR (by decide) h
  rw[aFI] at this
  exact this
 have C1:=fun h=>hnew (.tok (nx+2)) h
 refine au ?_
 obtain⟨A,hA⟩:∃A,A=St.h ⟨[],h',0⟩:=⟨_,rfl⟩
 clear hA A
 generalize hH:Hp.set _ _ _=A
 have a1:A nx=some (.arr (.agg 3) [aAK.v]):=by rw[←hH];simp only[go_sem,reduceIte,jA,jB,jC,jD,reduceCtorEq,jE,jF];rfl
 have a2:A (nx+1)=some (.arr (.agg 3) [aAK.v]):=by rw[←hH];simp only[go_sem,reduceIte,jA,jB,jC,jD,reduceCtorEq,jE,jF];rfl
 have a6:A (nx+5)=some (.arr (.agg 3) [aS.v]):=by rw[←hH];simp only[go_sem,reduceIte,jA,jB,jC,jD,reduceCtorEq,jE,jF];rfl
 have a7:A (nx+7)=some (.arr (.agg 3) [bS.v]):=by rw[←hH];simp only[go_sem,reduceIte,jA,jB,jC,jD,reduceCtorEq,jE,jF];rfl
 have hkA:∀x,x<nx→A x=h' x:=by rw[←hH];exact kep Hp.same.rfl'
 clear hH
 refine aX ((aCe .free tW (by decide) (by simp) 2 (by omega) _ [aS] (by decide) _ _).mono ?_)
 rintro v M nxM hnxM ⟨_,hdM,hkM,(⟨hne,_⟩|⟨_,wb,nb,tb,vo,vs,o2,oc,ot,rfl,hvs,hwb,hW⟩)⟩
 ·rw[aBy] at hne;exact absurd rfl hne
 simp only[aBy] at hW
 try dsimp only at hnxM hwb hkM
 unfold cR
 simp only[go_sem,reduceIte,jA,jB,jC,jD,reduceCtorEq,jE,jF]
 generalize hD:bE.draw 18 L.corollarylaw24_begun_r5 L.corollarylaw24_begun_r5t=DR
 refine au ?_
 rw[←hD]
 clear hD C1
 have hlo:=hW.lo
 have hM:∀x,x<nx+10→M x=A x:=hkM
 refine pS ?_
 refine⟨fun D s=>RB M wb nx (nx+1) (nx+5) (nx+7) nxM D s,⟨⟨rfl,?_,fun f _ e=>by cases e⟩,?_,?_,fun _ _ _=>rfl,by first|exact Nat.le_refl _|(dsimp only;omega)⟩,?_,?_⟩
 ·intro p hp
  simp only[pE,List.mem_cons,List.not_mem_nil,or_false] at hp
  rcases hp with rfl|rfl|rfl|rfl|rfl|rfl|rfl<;>rfl
 ·dsimp only;rw[hM nx (by omega)];exact a1
 ·dsimp only;rw[hM (nx+1) (by omega)];exact a2
 ·rintro D i oo deps ⟨sl,hq,n2⟩ hi hDi hdeps hcl r
  have x1:=r.sl.fx (1, .ptr nx (.agg 3) 0 0) (by simp[pE])
  have x2:=r.sl.fx (2, .ptr (nx+1) (.agg 3) 0 0) (by simp[pE])
  have x5:=r.sl.fx (5, .nilIface) (by simp[pE])
  have x6:=r.sl.fx (6, .ptr (nx+5) (.agg 3) 0 0) (by simp[pE])
  have x7:=r.sl.fx (7, .ptr (nx+7) (.agg 3) 0 0) (by simp[pE])
  have x8:=r.sl.fx (8, .ptr wb (.agg 4) 0 0) (by simp[pE])
  have x9:=r.sl.fx (9, .nilIface) (by simp[pE])
  have y:∀f∈vP wb,f.1∈deps→sl.getD f.2.1 V.undef=f.2.2:=fun f hf hd=>r.sl.dn f hf (hdeps _ hd)
  have h6:hq (nx+5)=some (.arr (.agg 3) [aS.v]):=by
   have:=r.ho (nx+5) (by omega) (by omega)
   dsimp only at this
   rw[this,hM _ (by omega)];exact a6
  have h7:hq (nx+7)=some (.arr (.agg 3) [bS.v]):=by
   have:=r.ho (nx+7) (by omega) (by omega)
   dsimp only at this
   rw[this,hM _ (by omega)];exact a7
  have r1:=r.h1
  have r2:=r.h2
  dsimp only at x1 x2 x5 x6 x7 x8 x9 r1 r2
  have fin:=fun(i t:Nat) (v:V) (ht:t<40) (hF:∀f∈vP wb,(f.1=i∨f.2.1=t)→f=(i,t,v)) (hx:∀p∈pE wb nx (nx+1) (nx+5) (nx+7),p.1≠t) (h14:i≠14) (h15:i≠15)=>r.slot i t v ht hF hx h14 h15
  rcases i with _|_|_|_|_|_|_|_|_|_|_|_|_|_|_|_|_|i
  all_goals first|(injection hi with hi;injection hi with q1 q2;subst q1;subst q2)|skip
  all_goals simp only[vP,List.mem_cons,List.not_mem_nil,or_false,forall_eq_or_imp,forall_eq,jE,reduceCtorEq,false_implies,implies_true,true_or,or_true,true_implies,and_true,true_and] at y
  all_goals simp only[aV,LOp.run,LOp.sem,bD.sem,aL.ev,bF,x1,x2,x5,x6,x7,x8,x9,y,h6,h7,veq,V.pick]
  all_goals try (first
   |exact fin _ _ _ (by decide) (by simp[vP]) (by simp[pE]) (by decide) (by decide)
   |(rw[if_pos trivial];exact fin _ _ _ (by decide) (by simp[vP]) (by simp[pE]) (by decide) (by decide))
   |exact⟨trivial,by simp,by simp[cJ],fin 1 28 aS.v (by decide) (by simp[vP]) (by simp[pE]) (by decide) (by decide)⟩
   |exact⟨trivial,by simp,by simp[cJ],fin 2 29 bS.v (by decide) (by simp[vP]) (by simp[pE]) (by decide) (by decide)⟩)
  ·rw[if_neg (by rw[hDi];simp)] at r1
   rw[r1]
   refine⟨rfl,by simp,by simp[cJ],Sp.fits_v aS,r.sl.none 14 (by simp[vP]),?_,?_,fun x q1 q2=>?_,Nat.le_succ_of_le r.nn⟩
   ·simp only[Hp.set,if_true,List.getD_cons_zero,List.set_cons_zero]
    rw[cG (Sp.fits_v aAK) (Sp.fits_v aS)]
   ·simp only[Hp.set];rw[if_neg (by omega)];exact r2
   simp only[Hp.set];rw[if_neg q1];exact r.ho x q1 q2
  ·rw[if_neg (by rw[hDi];simp)] at r2
   rw[r2]
   refine⟨rfl,by simp,by simp[cJ],Sp.fits_v bS,r.sl.none 15 (by simp[vP]),?_,?_,fun x q1 q2=>?_,Nat.le_succ_of_le r.nn⟩
   ·simp only[Hp.set];rw[if_neg (by omega)];exact r1
   ·simp only[Hp.set,if_true,List.getD_cons_zero,List.set_cons_zero]
    rw[cG (Sp.fits_v aAK) (Sp.fits_v bS)]
   simp only[Hp.set];rw[if_neg q2];exact r.ho x q1 q2
  simp[L.corollarylaw24_begun_r5] at hi
 rintro D ⟨sl,H,n2⟩ hD r
 have d:=fun i (h:i<17)=>hD i h
 have x0:=r.sl.dn (13,0, .ptr wb (.agg 4) 0 0) (by simp[vP]) (d 13 (by omega))
 have x3:=r.sl.dn (16,3, .bool true) (by simp[vP]) (d 16 (by omega))
 have x1:=r.sl.fx (1, .ptr nx (.agg 3) 0 0) (by simp[pE])
 have x2:=r.sl.fx (2, .ptr (nx+1) (.agg 3) 0 0) (by simp[pE])
 have r1:=r.h1
 have r2:=r.h2
 have ho:=r.ho
 have hn:=r.nn
 rw[if_pos (d 14 (by omega))] at r1
 rw[if_pos (d 15 (by omega))] at r2
 dsimp only at x0 x1 x2 x3 r1 r2 ho hn
 refine dL ?_
 refine aO ?_
 refine bU ?_
 simp only[mK,oN,aAg.sem,bD.sem,aL.ev,x0,x1,x2,x3,r1,r2]
 have hdH:aM H n2:=fun x b hx=>by
  by_cases q1:x=nx
  ·omega
  by_cases q2:x=nx+1
  ·omega
  rw[ho x q1 q2] at hx
  have:=hdM x b hx
  omega
 refine⟨trivial,by simp,by simp[cJ],trivial,by simp,by simp[cJ],H,Hp.le_refl _,by omega,hdH,fun x hx=>?_,wb,nb,tb,vo,vs,o2,oc,ot,rfl,hvs,by omega,?_⟩
 ·rw[ho x (by omega) (by omega),hM x (by omega)];exact hkA x hx
 refine hW.box (fun x b hx hb=>?_) hdH (by omega)
 refine ho x (fun e=>?_) (fun e=>?_)
 ·rw[e,hM nx (by omega),a1] at hx
  injection hx with hx
  exact hb _ hx.symm
 rw[e,hM _ (by omega),a2] at hx
 injection hx with hx
 exact hb _ hx.symm
end Go.Proofs.YtecepaehmojpgaaGreat
namespace Go.Proofs.YtecepaehmojpgaaGreat
open Go.RowKit Go.Sort
attribute [local irreducible] IntKind.wrap
section
variable{h:Hp}{n0 nx wb nb tb:Nat}{vo:Own}{vs:List Nat}{P:Int}{wv lc:V}{ot:Own}{rows:List V}{S:Nat→CS}{Q:Int→Int→List Nt}
theorem WI.waiting(H:WI n0 h nx wb nb tb vo vs P wv lc ot rows S Q)(i j:Int):aZ Tryz.prog 26 [.ptr wb (.agg 4) 0 0, .int .i64 i, .int .i64 j] h (.int .i64 (Q i j).length):=by
 obtain⟨q,c,hw,hq,hl⟩:=H.q
 have:=aBE hw i j
 rwa [show(cN q i j).length=(Q i j).length from by rw[←hl,jK]] at this
theorem WI.settled(H:WI n0 h nx wb nb tb vo vs P wv lc ot rows S Q)(he:∀i j,Q i j=[]):aZ Tryz.prog 17 [.ptr wb (.agg 4) 0 0] h (.bool true):=by
 obtain⟨q,c,hw,hq,hl⟩:=H.q
 have hq0:=aLa hq fun i j=>by have:=hl i j;rw[he] at this;exact List.map_eq_nil_iff.1 this
 have:=aBK hw
 rwa [decide_eq_true hq0] at this
theorem WI.members(H:WI n0 h nx wb nb tb vo vs P wv lc ot rows S Q):aZ Tryz.prog 18 [.ptr wb (.agg 4) 0 0] h (.int .i64 vs.length):=by
 obtain⟨q,c,hw,hq,hl⟩:=H.q
 exact aBX hw
theorem aFd(T:Nat→Nat→List Pa)(xs:List Sp)(k:Nat)(L:Nat→Prop):bP L (kC T xs k):=cF (fun b=>eV (fun L=>cF (Tm.names_v L) _) L) _
theorem WI.fronts{oc:Own}{ws:List Wy}{n:Nat}{l:List We}(H:WI n0 h nx wb nb tb vo vs P wv (.sl .leaf oc (cH n l n)) ot rows S Q)(R:eX P ws n l)(i:Nat)(hi:i<vs.length){K:Nat}(hst:StC P (S (i+1)).1 (S (i+1)).2 K)(hK:K≤900):
 aZ Tryz.prog 20 [.ptr wb (.agg 4) 0 0, .int .i64 i] h (lst .leaf (kC (bG l) (eC (S (i+1)).1) n)):=by
 obtain⟨q,c,hw,hq,hl⟩:=H.q
 obtain⟨m,hm,hc⟩:=H.v i hi
 have hP:=R.pl
 have hn:=R.le
 refine aBD hw i hi (fun h' hh=>?_) (aFd _ _ _)
 exact wF (hc.has hh) hst.ok (by have:=hst.len;omega) (bG l) n hP (oG n l) (fun a b=>by have:=iW l a b;omega) (fun y hy=>by have:=hst.right y hy;omega) (by omega)
end
theorem aKE:StC 2 aC.1 aC.2 10:=⟨aIU,(fun y hy=>by rw[List.mem_singleton.1 hy];exact(by decide:dV 1=false)),by decide,by decide⟩
theorem aKD:StC 2 bC.1 bC.2 10:=⟨aJT,(fun y hy=>by rw[List.mem_singleton.1 hy];exact(by decide:dV 1=false)),by decide,by decide⟩
theorem aKQ:∃F0:V,F0.leafy=true∧lst .leaf (kC (bG iC) (eC aC.1) 2)= .sl .leaf .free [F0, .sl (.agg 2) .free [.agg [.int .i64 1, .int .i64 0]]]:=by
 refine⟨lst (.agg 2) ((ofT (frT (bG iC) 0 [aS])).map Tm.v),aBi ..,?_⟩
 rw[aKY]
 show V.sl .leaf .free [_,lst (.agg 2) ((ofT (frT (bG iC) 1 [aS])).map Tm.v)]=_
 rw[aJv];rfl
theorem aKP:lst .leaf (kC (bG iC) (eC bC.1) 2)= .sl .leaf .free [.sl (.agg 2) .nil [], .sl (.agg 2) .free [.agg [.int .i64 1, .int .i64 0]]]:=by
 rw[aKX]
 show V.sl .leaf .free [lst (.agg 2) ((ofT (frT (bG iC) 0 [bS])).map Tm.v),lst (.agg 2) ((ofT (frT (bG iC) 1 [bS])).map Tm.v)]=_
 rw[aJu,aIw];rfl
set_option maxRecDepth 100000 in
set_option maxHeartbeats 8000000 in
theorem tL(h:Hp):aZ Tryz.prog 7 [] h (.bool true):=by
 refine aU (fun L=>trivial) fun h' nx hh=>aD L.corollarylaw24_alive_low fun hd=>?_
 simp only[jL,jM,jA,jB,jN,jO,jP,jQ,V.undef]
 refine au ?_
 refine aX ((aIP h' _).mono ?_)
 rintro v M nxM hnxM ⟨_,hdM,hkM,wb,nb,tb,vo,vs,o2,oc,ot,rfl,hvs,hwb,hW⟩
 try dsimp only at hnxM hkM hwb
 unfold cR
 simp only[go_sem,reduceIte,jA,jB,jC,jD,reduceCtorEq,jE,jF]
 have haf:=Sp.fits_v aS
 have hbf:=Sp.fits_v bS
 refine aue (e2 haf hbf) ?_
 generalize hH:Hp.set _ _ _=A
 have a3:A (nxM+1)=some (.arr (.agg 3) [bS.v]):=by rw[←hH];simp only[go_sem,reduceIte,jA,jB,jC,jD,reduceCtorEq,jE,jF]
 have hkA:∀x,x<nxM→A x=M x:=by rw[←hH];exact kep Hp.same.rfl'
 have hdA:aM A (nxM+5):=by rw[←hH];exact dmo hdM
 clear hH
 have HA:=hW.keep hkA hdA
 have hok:∀k:Nat,dQ ((fun _:Nat=>aC) k).1 ((fun _:Nat=>aC) k).2:=fun _=>aIU
 have hll:∀a b,(bG iC a b).length≤1000:=fun a b=>by have:=iW iC a b;omega
 have hE:doE vs.length 2 aC (bG iC) 2 0 aN=0:=by rw[hvs];exact aJm
 have hap:(aT 2 aC.1 aC.2 aN.cs).1=0:=by rw[lB]
 refine aX ((aIG HA (bG iC) 2 (oG 2 iC) hll 0 aN _ (by decide) hok (by omega) (fun _ _=>by simp) (by omega) (fun _ _=>hap)).dom.mono ?_)
 rintro v D nxD hnxD ⟨⟨_,hfr,rfl,(⟨h0,_⟩|⟨_,HD⟩)⟩,hdD,_⟩
 ·exact absurd hE h0
 try dsimp only at hnxD
 rw[show(0:Int).toNat+1=1 from rfl] at HD
 simp only[lB] at HD
 rw[hE]
 have hb3:nxM+1∉tb::vs:=fun e=>by
  have hc:∀x∈tb::vs,∃c m,A x=some (.arr (.agg 4) [iX 2 c (.sl .leaf oc (cH 2 iC 2)) m]):=fun x hx=>by
   obtain⟨k,hk,rfl⟩:=List.mem_iff_getElem.1 hx
   obtain⟨m,_,hc⟩:=HA.c k hk
   exact⟨_,_,hc.cell⟩
  obtain⟨c,m,hc⟩:=hc _ e
  rw[a3] at hc
  injection hc with hc
  injection hc with hc
  cases hc
 have d3:D (nxM+1)=some (.arr (.agg 3) [bS.v]):=by rw[hfr.2 _ _ _ hb3 a3];exact a3
 unfold cR
 simp only[go_sem,reduceIte,jA,jB,jC,jD,reduceCtorEq,jE,jF]
 have q01:dW vs.length (fun _ _=>[]) 0 aN 0 1=[aN]:=by rw[hvs];rfl
 have C5:=HD.waiting 0 1
 rw[q01] at C5
 have g1:(((1:Nat):Int) != 1)=false:=by decide
 have hv0:veq (.iface true) (dO 0) .nilIface=some true:=dP 0
 have C6:=HD.fronts tW 1 (by omega) (K:=10) aKE (by omega)
 obtain⟨F0,hF0,hfa⟩:=aKQ
 have C6:aZ Tryz.prog 20 [.ptr wb (.agg 4) 0 0, .int .i64 1] D (.sl .leaf .free [F0, .sl (.agg 2) .free [.agg [.int .i64 1, .int .i64 0]]]):=by
  have:=C6
  rw[show dJ (dJ (fun _=>aC) 0 bC) 1 bC (1+1)=aC from rfl,hfa] at this
  exact this
 refine aue (e2 hv0 g1) ?_
 clear C5 C6
 have hok2:∀k,dQ (dJ (dJ (fun _=>aC) 0 bC) 1 bC k).1 (dJ (dJ (fun _=>aC) 0 bC) 1 bC k).2:=fun k=>by
  unfold dJ
  (repeat' split)<;>first|exact aIU|exact aJT
 have hql2:∀a b,(dW vs.length (fun _ _=>[]) 0 aN a b).length≤1:=fun a b=>by
  unfold dW
  split<;>simp
 refine aX ((rJ HD 0 1 hok2 (fun n hn=>by rw[q01] at hn;rw[List.mem_singleton.1 hn];decide) (by omega) (by have:=hql2 0 1;omega)).dom.mono ?_)
 rintro v E nxE hnxE ⟨⟨_,hfr2,(⟨hbad,_⟩|⟨_,hq0,_⟩|⟨_,n,r,hQe,rfl,HE⟩)⟩,hdE,_⟩
 ·exact absurd ⟨by omega,by omega,by omega,by omega,by omega⟩ hbad
 ·rw[q01] at hq0;cases hq0
 rw[q01] at hQe
 injection hQe with e1' e2'
 subst e1'
 subst e2'
 try dsimp only at hnxE
 rw[show(1:Int).toNat+1=2 from rfl,show dJ (dJ (fun _=>aC) 0 bC) 1 bC 2=aC from rfl,lB] at HE
 rw[show(1:Int).toNat+1=2 from rfl,show dJ (dJ (fun _=>aC) 0 bC) 1 bC 2=aC from rfl,lB]
 have hqn:∀a b,jY (dW vs.length (fun _ _=>[]) 0 aN) 0 1 [] a b=[]:=fun a b=>by
  unfold jY
  split
  ·rfl
  unfold dW
  rw[if_neg]
  omega
 have f3:E (nxM+1)=some (.arr (.agg 3) [.agg [.int .i64 1, .int .i64 1, .int .i64 0]]):=by rw[hfr2.2 _ _ _ hb3 d3];exact d3
 have C5:=HE.settled hqn
 have hC:=HE.fronts tW 1 (by omega) (K:=10) aKD (by omega)
 rw[show dJ (dJ (dJ (fun _=>aC) 0 bC) 1 bC) 2 (0,bC).2 (1+1)=bC from rfl,aKP] at hC
 have C6:aZ Tryz.prog 20 [.ptr wb (.agg 4) 0 0, .int .i64 1] E _:=hC
 have hle:h'.le E:=fun x b hx=>by
  have hxn:=hd x b hx
  rw[hfr2.1 x (by omega),hfr.1 x (by omega),hkA x (by omega),hkM x (by omega)];exact hx
 have hbn:nxM+1<nxE:=by omega
 unfold cR
 simp only[go_sem,reduceIte,jA,jB,jC,jD,reduceCtorEq,jE,jF]
 have hbf:V.fits (.agg 3) (.agg [.int .i64 1, .int .i64 1, .int .i64 0])=true:=rfl
 have q1:(((2:Nat):Int)==2)=true:=by decide
 have q2:(((1:Nat):Int)==1)=true:=by decide
 have q3:(((0:Nat):Int)==0)=true:=by decide
 have q4:((1:Int)==1)=true:=by decide
 have q5:((0:Int)==0)=true:=by decide
 refine aue (e10 hv0 f3 hbn hF0 hbf q1 q2 q3 q4 q5) ?_
 exact aG h' hle ⟨rfl,rfl⟩
set_option maxRecDepth 100000 in
set_option maxHeartbeats 8000000 in
theorem aFD{h':Hp}{n0 nx wb nb tb:Nat}{vo:Own}{vs:List Nat}{P:Int}{wv:V}{ot:Own}{S:Nat→CS}{Q:Int→Int→List Nt}{oc:Own}{ws:List Wy}{n:Nat}{l:List We}
 (H:WI n0 h' nx wb nb tb vo vs P wv (.sl .leaf oc (cH n l n)) ot (cH n l n) S Q) (R:eX P ws n l) {K:Nat} (hst:∀i,StC P (S i).1 (S i).2 K) (hK:K≤900) (hvs:vs.length≤17) (pend:Nat→List Nt) (hrel:∀j,j<vs.length→tQ l (cC (S 0).1) (cC (S (j+1)).1) (pend j)):
 aW Tryz.prog 12 [.ptr wb (.agg 4) 0 0] h' nx fun v h'' nx2=>v= .bool true∧nx≤nx2∧aM h'' nx2∧∀x,x<nx→h'' x=h' x:=by
 refine aD L.corollarylaw24_safe_low fun hd=>?_
 simp only[jL,jM,jA,jB,jN,jO,jP,jQ,V.undef]
 have hP:=R.pl
 have hn:=R.le
 obtain⟨q,c,hw,hq,hl⟩:=H.q
 obtain⟨mt,hmt,hct⟩:=H.t
 refine au ?_
 refine aX ((aCD hw hct).mono ?_)
 rintro v M nxM hnxM ⟨cb,m2,rfl,q1,q2,hc2,hkM,hdM,_⟩
 try dsimp only at hnxM q1 q2 hkM
 unfold cR
 simp only[go_sem,reduceIte,jA,jB,jC,jD,reduceCtorEq,jE,jF]
 obtain⟨of,hof⟩:=mC .leaf (kC (bG l) (eC (S 0).1) n)
 have C5:=wF hc2 (hst 0).ok (by have:=(hst 0).len;omega) (bG l) n hP (oG n l) (fun a b=>by have:=iW l a b;omega) (fun y hy=>by have:=(hst 0).right y hy;omega) (by omega)
 rw[hof] at C5
 have HM:=H.keep hkM hdM
 have C6:=HM.members
 refine au ?_
 clear C5 C6
 have hfl:∀xs,(kC (bG l) xs n).length=n:=fun xs=>by simp[kC]
 have hat:∀xs k,k<n→(kC (bG l) xs n).getD k (.tup [])=lst (.agg 2) ((ofT (frT (bG l) k xs)).map Tm.v):=fun xs k hk=>by
  unfold kC
  rw[dM _ _ _ k (by simpa using hk)]
  simp
 have hfrl:∀i k,(ofT (frT (bG l) k (eC (S i).1))).length≤1000000:=fun i k=>by
  have h1:=aJp (frT (bG l) k (eC (S i).1))
  have h2:=wZ (bG l) k 2 (fun a=>iW l a k) (eC (S i).1)
  have h3:=aAd (S i).1
  have h4:=(hst i).len
  omega
 refine aY (fun i:Nat=>aB 40 0 [(0, .ptr wb (.agg 4) 0 0),(3, .sl .leaf of (kC (bG l) (eC (S 0).1) n)),(11, .int .i64 vs.length),(12, .int .i64 i)])
  (fun i hp nx1=>i≤vs.length∧nxM≤nx1∧hp=M) (fun i=>vs.length-i) 0 ⟨Nat.zero_le _,by first|omega|(dsimp only;omega),rfl⟩ (by simp only[WkL,aB,jH,jI,jJ,go_sem,reduceIte,jA,jB,jC,jD,reduceCtorEq,jE,jF]) ?_
 rintro i hp nx1 ⟨hi,hnx,rfl⟩
 generalize hQ:bZ _ _ _ _ _=Q0
 simp only[aB,go_sem,reduceIte,jA,jB,jC,jD,reduceCtorEq,jE,jF]
 rcases Nat.lt_or_ge i vs.length with hlt|hge
 case inr=>
  have hc1:decide ((i:Int)<(vs.length:Int))=false:=dcf
  refine aue hc1 ?_
  rw[←hQ]
  refine au ?_
  exact aG hp (Hp.le_refl _) ⟨rfl,by first|omega|(dsimp only;omega),hdM.up (by first|omega|(dsimp only;omega)),hkM⟩
 have hc1:decide ((i:Int)<(vs.length:Int))=true:=dct
 have hw1:IntKind.i64.wrap ((i:Int)+1)=((i+1:Nat):Int):=wrp
 obtain⟨og,hog⟩:=mC .leaf (kC (bG l) (eC (S (i+1)).1) n)
 have C5:=HM.fronts R i hlt (hst (i+1)) hK
 rw[hog] at C5
 have g1:((n:Int) != (n:Int))=false:=bnf
 refine aue (e4 hc1 (hfl (eC (S 0).1)) (hfl (eC (S (i+1)).1)) g1) ?_
 clear C5
 refine aY (fun k:Nat=>aB 40 0 [(0, .ptr wb (.agg 4) 0 0),(3, .sl .leaf of (kC (bG l) (eC (S 0).1) n)),(5, .sl .leaf og (kC (bG l) (eC (S (i+1)).1) n)),(11, .int .i64 vs.length),(12, .int .i64 i),(24, .int .i64 n),(25, .int .i64 k)])
  (fun k hp2 nx2=>k≤n∧nx1≤nx2∧hp2=hp) (fun k=>n-k) 0 ⟨Nat.zero_le _,by first|omega|(dsimp only;omega),rfl⟩ (by simp only[WkL,aB,jH,jI,jJ,go_sem,reduceIte,jA,jB,jC,jD,reduceCtorEq,jE,jF]) ?_
 rintro k hp2 nx2 ⟨hk,hnx2,rfl⟩
 generalize hQ2:bZ _ _ _ _ _=Q2
 simp only[aB,go_sem,reduceIte,jA,jB,jC,jD,reduceCtorEq,jE,jF]
 rcases Nat.lt_or_ge k n with hkn|hkn
 case inr=>
  have hc2:decide ((k:Int)<(n:Int))=false:=dcf
  refine aue hc2 ?_
  rw[←hQ2]
  refine aue hw1 ?_
  rw[←hQ]
  exact aI (i+1) (by omega) ⟨hlt,by first|omega|(dsimp only;omega),rfl⟩ (by simp only[WkL,aB,jH,jI,jJ,go_sem,reduceIte,jA,jB,jC,jD,reduceCtorEq,jE,jF])
 have hc2:decide ((k:Int)<(n:Int))=true:=dct
 have hw2:IntKind.i64.wrap ((k:Int)+1)=((k+1:Nat):Int):=wrp
 obtain⟨ox1,ho1⟩:=mC (.agg 2) ((ofT (frT (bG l) k (eC (S 0).1))).map Tm.v)
 obtain⟨ox2,ho2⟩:=mC (.agg 2) ((ofT (frT (bG l) k (eC (S (i+1)).1))).map Tm.v)
 have hs:atM (ofT (frT (bG l) k (eC (S (i+1)).1))) (ofT (frT (bG l) k (eC (S 0).1)))=true:=aFe R (hst 0) (hst (i+1)) (hrel i hlt) k
 have D1:∀h,aZ Tryz.prog 47 [.sl (.agg 2) ox2 ((ofT (frT (bG l) k (eC (S (i+1)).1))).map Tm.v), .sl (.agg 2) ox1 ((ofT (frT (bG l) k (eC (S 0).1))).map Tm.v)] h (.bool true):=fun h=>by
  have:=vL ox2 ox1 _ _ h (hfrl (i+1) k) (hfrl 0 k)
  unfold atM at hs
  rw[hs] at this
  exact this
 have k1:=hat (eC (S 0).1) k hkn
 have k2:=hat (eC (S (i+1)).1) k hkn
 rw[ho1] at k1
 rw[ho2] at k2
 refine aue (e8 hc2 hw2 k1 k2 hkn (hfl (eC (S 0).1)) (hfl (eC (S (i+1)).1)) jG) ?_
 rw[←hQ2]
 exact aI (k+1) (by omega) ⟨hkn,by first|omega|(dsimp only;omega),rfl⟩ (by simp only[WkL,aB,jH,jI,jJ,go_sem,reduceIte,jA,jB,jC,jD,reduceCtorEq,jE,jF])
end Go.Proofs.YtecepaehmojpgaaGreat
namespace Go.Proofs.YtecepaehmojpgaaGreat
open Go.ChangeShapes Go.WideShapes Go.ChangeAt Go.RowKit Go.Sort
structure Act where
 dl:Bool
 a:Int
 b:Int
 took:Sp
 o:Own
 made:List Sp
def Act.v(x:Act):V:= .agg [.bool x.dl, .int .i64 x.a, .int .i64 x.b, .int .i64 x.took.p, .int .i64 x.took.t.e, .int .i64 x.took.t.r, .sl (.agg 3) x.o (x.made.map Sp.v)]
theorem aHY{v:V}(h:(AT.sl (.agg 3) [.int .i64, .int .i64, .int .i64]).ok v):∃q:Own×List Sp,v= .sl (.agg 3) q.1 (q.2.map Sp.v):=by
 cases h with
 |nil=>exact⟨(.nil,[]),rfl⟩
 |sl _ _ vs hl hf hc=>
  obtain⟨l,rfl⟩:=wV Sp.v vs (fun v hv=>aKF (hf v hv) (hc v hv))
  exact⟨(.free,l),rfl⟩
theorem aFV{P:Program}{t:TypeId}{x:V}(ek:cO P t=some .leaf)(ea:iS P 12 t=some [.sl (.agg 3) [.int .i64, .int .i64, .int .i64]])(h:aAh P t x):∃(o:Own) (l:List Sp),x= .sl (.agg 3) o (l.map Sp.v):=
 have⟨q,e⟩:=aHY (aDY ek ea h)
 ⟨q.1,q.2,e⟩
theorem aJM{v:V}(hf:v.fits (.agg 7)=true)(h:∀i,i<7→(([AT.bool,AT.int .i64,AT.int .i64,AT.int .i64,AT.int .i64,AT.int .i64,AT.sl (.agg 3) [.int .i64, .int .i64, .int .i64]]:List AT).getD i .bool).ok (v.cell i)):∃x:Act,v=x.v:=by
 cases v with
 |agg cs=>
  simp only[V.fits,Bool.and_eq_true,decide_eq_true_eq] at hf
  match cs,hf.1 with
  | [a,b,c,d,e,f,g],_=>
   obtain⟨x,hx⟩:=aFJ (h 0 (by omega))
   obtain⟨y,hy⟩:=kA (h 1 (by omega))
   obtain⟨z,hz⟩:=kA (h 2 (by omega))
   obtain⟨p,hp⟩:=kA (h 3 (by omega))
   obtain⟨q,hq⟩:=kA (h 4 (by omega))
   obtain⟨r,hr⟩:=kA (h 5 (by omega))
   obtain⟨s,hs⟩:=aHY (h 6 (by omega))
   refine⟨⟨x,y,z,⟨p,⟨q,r⟩⟩,s.1,s.2⟩,?_⟩
   have e1:a= .bool x:=hx
   have e2:b= .int .i64 y:=hy
   have e3:c= .int .i64 z:=hz
   have e4:d= .int .i64 p:=hp
   have e5:e= .int .i64 q:=hq
   have e6:f= .int .i64 r:=hr
   have e7:g= .sl (.agg 3) s.1 (s.2.map Sp.v):=hs
   rw[e1,e2,e3,e4,e5,e6,e7];rfl
 |_=>simp[V.fits] at hf
theorem aDZ{P:Program}{t:TypeId}{x:V}(ek:cO P t=some .leaf)(ea:iS P 12 t=some [.sl (.agg 7) [.bool, .int .i64, .int .i64, .int .i64, .int .i64, .int .i64, .sl (.agg 3) [.int .i64, .int .i64, .int .i64]]])(h:aAh P t x):∃(o:Own) (l:List Act),x= .sl (.agg 7) o (l.map Act.v):=by
 cases aDY ek ea h with
 |nil=>exact⟨.nil,[],rfl⟩
 |sl _ _ vs hl hf hc=>
  obtain⟨l,rfl⟩:=wV Act.v vs (fun v hv=>aJM (hf v hv) (hc v hv))
  exact⟨.free,l,rfl⟩
attribute [local irreducible] IntKind.wrap
def jR(P:Int)(ws:List Wy)(bg:List Sp)(sc:List Act):Bool:=uX P ws||decide (bg.length>10)||decide (sc.length>30)||sc.any fun x=>decide (x.made.length>6)
set_option maxRecDepth 100000 in
set_option maxHeartbeats 4000000 in
theorem sT(o ob os:Own)(P:Int)(ws:List Wy)(bg:List Sp)(sc:List Act)(h:Hp):aZ Tryz.prog 8 [mps o P ws, .sl (.agg 3) ob (bg.map Sp.v), .sl (.agg 7) os (sc.map Act.v)] h (.bool (jR P ws bg sc)):=by
 have hmf:(mps o P ws).fits (.agg 2)=true:=by simp[mps,V.fits,V.leafy,wys]
 refine aU (fun L=>trivial) fun h' nx hh=>aD L.corollarylaw24_large_low fun hd=>?_
 simp only[List.length_cons,List.length_nil,Nat.reduceAdd,Nat.reduceSub,List.replicate_succ,List.replicate_zero,List.cons_append,List.nil_append,V.undef]
 have hd:aM h' nx:=hd
 have C1:=fun h=>aEX o P ws h
 cases hL:uX P ws with
 |true=>
  rw[hL] at C1
  refine aue hmf ?_
  exact aG h' (leo hd) ⟨by unfold jR;rw[hL];rfl,rfl⟩
 |false=>
 rw[hL] at C1
 by_cases h1:bg.length>10
 ·have g1:decide ((bg.length:Int)>10)=true:=dct
  refine aue (e3 hmf g1 (@List.length_map Sp V)) ?_
  exact aG h' (leo hd) ⟨by unfold jR;rw[hL,decide_eq_true h1];rfl,rfl⟩
 have g1:decide ((bg.length:Int)>10)=false:=dcf
 by_cases h2:sc.length>30
 ·have g2:decide ((sc.length:Int)>30)=true:=dct
  refine aue (e4 hmf g1 g2 (@List.length_map Act V)) ?_
  exact aG h' (leo hd) ⟨by unfold jR;rw[hL,decide_eq_false h1,decide_eq_true h2];rfl,rfl⟩
 have g2:decide ((sc.length:Int)>30)=false:=dcf
 have hL2:jR P ws bg sc=sc.any fun x=>decide (x.made.length>6):=by unfold jR;rw[hL,decide_eq_false h1,decide_eq_false h2];rfl
 rw[hL2]
 refine aue (e4 hmf g1 g2 (@List.length_map Act V)) ?_
 refine aY (fun k:Nat=>aB 32 0 [(21, .sl (.agg 7) os (sc.map Act.v)),(22, .int .i64 sc.length),(23, .int .i64 k)])
  (fun k hp nx1=>k≤sc.length∧nx≤nx1∧aM hp nx1∧Hp.same nx h' hp∧∀x∈sc.take k,x.made.length≤6) (fun k=>sc.length-k) 0 ⟨Nat.zero_le _,by first|omega|(dsimp only;omega),dmo hd,kep Hp.same.rfl',by simp⟩ (by simp only[WkL,aB,Int.natCast_add,Int.natCast_one,Int.natCast_zero,go_sem,reduceIte,Nat.reduceAdd,Nat.reduceSub,Nat.reduceLT,Nat.reduceLeDiff,reduceCtorEq,Nat.reduceEqDiff,Int.reduceToNat]) ?_
 rintro k hp nx1 ⟨hk,hnx,hdm,hsm,hall⟩
 generalize hQ:bZ _ _ _ _ _=Q0
 simp only[aB,go_sem,reduceIte,Nat.reduceAdd,Nat.reduceSub,Nat.reduceLT,Nat.reduceLeDiff,reduceCtorEq,Nat.reduceEqDiff,Int.reduceToNat]
 rcases Nat.lt_or_ge k sc.length with hlt|hge
 case inr=>
  have hc1:decide ((k:Int)<(sc.length:Int))=false:=dcf
  refine aue hc1 ?_
  rw[←hQ]
  refine au ?_
  have hf:(sc.any fun x=>decide (x.made.length>6))=false:=by
   rw[List.any_eq_false]
   intro x hx
   rw[List.take_of_length_le hge] at hall
   have:=hall x hx
   simp;omega
  exact aG h' (hsm.le hd (Hp.le_refl _)) ⟨by rw[hf];rfl,rfl⟩
 have hc1:decide ((k:Int)<(sc.length:Int))=true:=dct
 have hw1:IntKind.i64.wrap ((k:Int)+1)=((k+1:Nat):Int):=wrp
 have hg:(sc.map Act.v).getD k (.tup [])= .agg [.bool sc[k].dl, .int .i64 sc[k].a, .int .i64 sc[k].b, .int .i64 sc[k].took.p, .int .i64 sc[k].took.t.e, .int .i64 sc[k].took.t.r, .sl (.agg 3) sc[k].o (sc[k].made.map Sp.v)]:=dM Act.v _ sc k hlt
 by_cases h6:sc[k].made.length>6
 ·have g3:decide ((sc[k].made.length:Int)>6)=true:=dct
  refine aue (e6 hc1 hw1 hg hlt g3 (@List.length_map Act V)) ?_
  rw[←hQ]
  refine au ?_
  have ht:(sc.any fun x=>decide (x.made.length>6))=true:=List.any_eq_true.2 ⟨_,List.getElem_mem hlt,decide_eq_true h6⟩
  exact aG h' (lef hd (hsm.le hd (Hp.le_refl _))) ⟨by rw[ht];rfl,rfl⟩
 have g3:decide ((sc[k].made.length:Int)>6)=false:=dcf
 refine aue (e6 hc1 hw1 hg hlt g3 (@List.length_map Act V)) ?_
 rw[←hQ]
 refine aI (k+1) (by omega) ⟨hlt,by first|omega|(dsimp only;omega),dmo hdm,kep hsm,fun x hx=>?_⟩ (by simp only[WkL,aB,Int.natCast_add,Int.natCast_one,Int.natCast_zero,go_sem,reduceIte,Nat.reduceAdd,Nat.reduceSub,Nat.reduceLT,Nat.reduceLeDiff,reduceCtorEq,Nat.reduceEqDiff,Int.reduceToNat])
 rw[List.take_succ_eq_append_getElem hlt] at hx
 rcases List.mem_append.1 hx with hx|hx
 ·exact hall x hx
 rw[List.mem_singleton.1 hx];omega
theorem yU{P:Int}{ws:List Wy}{bg:List Sp}{sc:List Act}(h:jR P ws bg sc=false):ws.length≤40∧bg.length≤10∧sc.length≤30∧∀x∈sc,x.made.length≤6:=by
 unfold jR at h
 simp only[Bool.or_eq_false_iff,decide_eq_false_iff_not,List.any_eq_false,decide_eq_true_eq] at h
 obtain⟨⟨⟨h1,h2⟩,h3⟩,h4⟩:=h
 exact⟨aGK h1,by omega,by omega,fun x hx=>by have:=h4 x hx;omega⟩
theorem aAW(N j:Nat):iG N (mA fun _ _=>[]) j=[]:=by
 unfold iG mA
 simp
theorem LI.start(l:List We){P:Int}(N:Nat){bg:List Sp}(hb:bg.length≤10)(h0:(aT P [] 0 (cY bg 1)).1=0):LI l P N 0 (fun _=>(aT P [] 0 (cY bg 1)).2) (fun _ _=>[]):=by
 have hl:(cY bg 1).length=bg.length:=by simp[cY]
 have hst:=(aFB P 0).add (cY bg 1)
 have hg:∀s,cC (aT P [] 0 (cY bg 1)).2.1 s=(bg.count s:Int):=fun s=>by
  rw[aBz (aFB P 0) h0 (by omega)]
  show 0+oI (cY bg 1) s=_
  rw[Int.zero_add]
  exact aAO bg s
 refine⟨fun _=>hst.up (by omega),fun j hj=>?_,fun s=>?_,fun j hj=>?_,fun i j n hn=>(by cases hn),fun _ _=>Nat.le_refl _⟩
 ·rw[aAW]
  exact⟨fun s=>by show _=_+(0:Int);omega,fun s=>by rw[hg];omega,fun n hn=>(by cases hn)⟩
 ·have:bg.count s≤bg.length:=List.count_le_length
  rw[hg];omega
 rw[aAW];exact Nat.zero_le _
theorem LI.done{l:List We}{P:Int}{ws:List Wy}{n N k:Nat}{S:Nat→CS}{Q:Int→Int→List Nt}(H:LI l P N k S Q)(R:eX P ws n l)(hk:k≤1000){i:Int}{nt:Nt}(hl:nt.made.length≤6)(h0:doE N P (S 0) (bG l) n i nt=0):
 (0≤i∧i<N)∧(aT P (S (i.toNat+1)).1 (S (i.toNat+1)).2 nt.cs).1=0∧LI l P N (k+1) (dJ (dJ S 0 (aT P (S 0).1 (S 0).2 nt.cs).2) (i.toNat+1) (aT P (S (i.toNat+1)).1 (S (i.toNat+1)).2 nt.cs).2) (dW N Q i nt):=by
 unfold doE at h0
 split at h0
 ·cases h0
 split at h0
 ·cases h0
 split at h0
 ·cases h0
 rename_i h1 h2 h3
 have hi:0≤i∧i<N:=Classical.not_not.1 h1
 obtain⟨m,rfl⟩:∃m:Nat,i=m:=⟨i.toNat,by omega⟩
 rw[Int.toNat_natCast]
 have hP:=R.pl
 obtain⟨_,q2,q3⟩:=H.deed hk (m:=m) (by omega) hl (by omega) fun u hu=>by
  have hm:mkB (bG l) n nt.took u=true:=by
   cases e:mkB (bG l) n nt.took u with
   |true=>rfl
   |false=>exact absurd (List.any_eq_true.2 ⟨u,hu,by rw[e];rfl⟩) h3
  unfold mkB at hm
  rw[Bool.and_eq_true,decide_eq_true_eq] at hm
  obtain⟨c1,c2,c3⟩:=aHf hm.2
  exact⟨c1,hm.1.1,by omega,c2,c3⟩
 exact⟨hi,q2,q3⟩
end Go.Proofs.YtecepaehmojpgaaGreat
namespace Go.Proofs.YtecepaehmojpgaaGreat
open Go.ChangeShapes Go.WideShapes Go.ChangeAt Go.RowKit Go.Sort
attribute [local irreducible] IntKind.wrap
section
variable{n0:Nat}{h':Hp}{nx wb nb tb:Nat}{vo:Own}{vs:List Nat}{P:Int}{wv:V}{oc ot:Own}{n:Nat}{l:List We}{ws:List Wy}{S:Nat→CS}{Q:Int→Int→List Nt}{k:Nat}
theorem aCk(H:WI n0 h' nx wb nb tb vo vs P wv (.sl .leaf oc (cH n l n)) ot (cH n l n) S Q)(HL:LI l P vs.length k S Q)(hk:k≤100)(hn0:n0≤nx)(i j:Int):
 aW Tryz.prog 10 [.ptr wb (.agg 4) 0 0, .int .i64 i, .int .i64 j] h' nx fun v h'' nx2=>nx≤nx2∧Fr n0 (tb::vs) h' h''∧∃e,v=dO e∧∃S2 Q2,WI n0 h'' nx2 wb nb tb vo vs P wv (.sl .leaf oc (cH n l n)) ot (cH n l n) S2 Q2∧LI l P vs.length (k+1) S2 Q2:=by
 refine(rJ H i j (fun i=>(HL.st i).ok) (fun x hx=>by have:=(HL.fit _ _ x hx).1;omega) hn0 (by have:=HL.len i j;omega)).mono ?_
 rintro v h2 nx2 _ ⟨q1,q2,(⟨_,rfl,HW⟩|⟨_,_,rfl,HW⟩|⟨hr,x,r,hq,rfl,HW⟩)⟩
 ·exact⟨q1,q2,_,rfl,S,Q,HW,HL.more⟩
 ·exact⟨q1,q2,_,rfl,S,Q,HW,HL.more⟩
 obtain⟨a,rfl⟩:∃a:Nat,i=a:=⟨i.toNat,by omega⟩
 obtain⟨b,rfl⟩:∃b:Nat,j=b:=⟨j.toNat,by omega⟩
 rw[jG] at HW⊢
 exact⟨q1,q2,_,rfl,_,_,HW,(HL.deliver (by omega) (by omega) (by omega) hq).2⟩
theorem aJz(H:WI n0 h' nx wb nb tb vo vs P wv (.sl .leaf oc (cH n l n)) ot (cH n l n) S Q)(HL:LI l P vs.length k S Q)(R:eX P ws n l)(hk:k≤100)(hn0:n0≤nx)(hvs:vs.length≤17)(i:Int)(nt:Nt)(o:Own)(hl:nt.made.length≤6):
 aW Tryz.prog 11 [.ptr wb (.agg 4) 0 0, .int .i64 i,nt.took.v, .sl (.agg 3) o (nt.made.map Sp.v)] h' nx fun v h'' nx2=>nx≤nx2∧Fr n0 (tb::vs) h' h''∧∃e,v=dO e∧∃S2 Q2,WI n0 h'' nx2 wb nb tb vo vs P wv (.sl .leaf oc (cH n l n)) ot (cH n l n) S2 Q2∧LI l P vs.length (k+1) S2 Q2:=by
 refine(aIG H (bG l) n (oG n l) (fun a b=>by have:=iW l a b;omega) i nt o (by omega) (fun i=>(HL.st i).ok) hn0 (fun a b=>by have:=HL.len a b;omega) hvs (fun _ h0=>(HL.done R (by omega) hl h0).2.1)).mono ?_
 rintro v h2 nx2 _ ⟨q1,q2,rfl,(⟨_,HW⟩|⟨h0,HW⟩)⟩
 ·exact⟨q1,q2,_,rfl,S,Q,HW,HL.more⟩
 exact⟨q1,q2,_,rfl,_,_,HW,(HL.done R (by omega) hl h0).2.2⟩
end
theorem aDx(o:Own){P:Int}{ws:List Wy}(hr:jZ P ws=false)(hl:ws.length≤1000)(x y:V)(h:Hp):aZ Tryz.prog 9 [mps o P ws,x,y] h (.tup [.nilPtr,dO 2]):=by
 have hmf:(mps o P ws).fits (.agg 2)=true:=by simp[mps,V.fits,V.leafy,wys]
 refine aU (fun L=>by simp[V.names,bP,dO]) fun h' nx hh=>aD L.front_New_low fun hd=>?_
 simp only[jL,jM,jA,jB,jN,jO,jP,jQ,V.undef]
 have C1:=fun h=>aJq o hr hl h
 have hv:veq (.iface true) (dO 2) .nilIface=some false:=dP 2
 refine aue (e2 hmf hv) ?_
 exact iF h' (leo hd) ⟨rfl,rfl⟩
set_option maxRecDepth 100000 in
set_option maxHeartbeats 8000000 in
theorem aAy(o ob os:Own)(P:Int)(ws:List Wy)(hn:o= .nil→ws=[])(bg:List Sp)(sc:List Act):aZ Tryz.prog 3 [mps o P ws, .sl (.agg 3) ob (bg.map Sp.v), .sl (.agg 7) os (sc.map Act.v)] Hp.none (.bool true):=by
 have hmf:(mps o P ws).fits (.agg 2)=true:=by simp[mps,V.fits,V.leafy,wys]
 refine aU (fun L=>trivial) fun h' nx hh=>aD L.corollarylaw24_FrontSafe_low fun hd=>?_
 simp only[jL,jM,jA,jB,jN,jO,jP,jQ,V.undef]
 have hd:aM h' nx:=hd
 have C1:=fun h=>tL h
 have C2:=fun h=>sT o ob os P ws bg sc h
 cases hL:jR P ws bg sc with
 |true=>
  rw[hL] at C2
  refine aue hmf ?_
  exact aG h' (leo hd) ⟨rfl,rfl⟩
 |false=>
 rw[hL] at C2
 obtain⟨b1,b2,b3,b4⟩:=yU hL
 cases hR:jZ P ws with
 |false=>
  have C3:=fun h=>aDx o hR (by omega) (.int .i64 4) (.sl (.agg 3) ob (bg.map Sp.v)) h
  have hv:veq (.iface true) (dO 2) .nilIface=some false:=dP 2
  refine aue (e2 hmf hv) ?_
  exact aG h' (leo hd) ⟨rfl,rfl⟩
 |true=>
 obtain⟨n,l,R⟩:=(kY P ws).1 hR
 refine aue hmf ?_
 clear C1 C2
 generalize hH:Hp.set _ _ _=A
 have hkA:∀x,x<nx→A x=h' x:=by rw[←hH];exact kep Hp.same.rfl'
 clear hH
 refine aX ((aCe o R (by omega) hn 4 (by omega) ob bg (by omega) _ _).mono ?_)
 rintro v M nxM hnxM ⟨_,hdM,hkM,(⟨hne,rfl⟩|⟨he,wb,nb,tb,vo,vs,o2,oc,ot,rfl,hvs,hwb,hW⟩)⟩
 ·have hv:=dP (aT P [] 0 (cY bg 1)).1
  rw[decide_eq_false hne] at hv
  try dsimp only at hnxM hkM
  have hle:h'.le M:=fun x b hx=>by
   have:=hd x b hx
   rw[hkM x (by omega),hkA x (by omega)];exact hx
  unfold cR
  simp only[go_sem,reduceIte,jA,jB,jC,jD,reduceCtorEq,jE,jF]
  refine aue hv ?_
  exact aG h' hle ⟨rfl,rfl⟩
 try dsimp only at hnxM hkM hwb
 unfold cR
 simp only[go_sem,reduceIte,jA,jB,jC,jD,reduceCtorEq,jE,jF]
 refine au ?_
 have hLI:=LI.start l 4 b2 he
 rw[←hvs] at hLI
 have hle:∀B:Hp,(∀x,x<nx+1→B x=M x)→h'.le B:=fun B hB x b hx=>by
  have:=hd x b hx
  rw[hB x (by omega),hkM x (by omega),hkA x (by omega)];exact hx
 refine aY (fun k:Nat=>aB 59 0 [(7, .ptr wb (.agg 4) 0 0),(27, .sl (.agg 7) os (sc.map Act.v)),(28, .int .i64 sc.length),(29, .int .i64 k)])
  (fun k hp nx1=>k≤sc.length∧nxM≤nx1∧(∀x,x<nx+1→hp x=M x)∧∃S Q,WI (nx+1) hp nx1 wb nb tb vo vs P (wys o2 ws) (.sl .leaf oc (cH n l n)) ot (cH n l n) S Q∧LI l P vs.length k S Q)
  (fun k=>sc.length-k) 0 ⟨Nat.zero_le _,by first|omega|(dsimp only;omega),fun _ _=>rfl,_,_,hW,hLI⟩ (by simp only[WkL,aB,jH,jI,jJ,jK,go_sem,reduceIte,jA,jB,jC,jD,reduceCtorEq,jE,jF]) ?_
 rintro k hp nx1 ⟨hk,hnx,hsm,S,Q,HW,HL⟩
 generalize hQ:bZ _ _ _ _ _=Q0
 simp only[aB,go_sem,reduceIte,jA,jB,jC,jD,reduceCtorEq,jE,jF]
 rcases Nat.lt_or_ge k sc.length with hlt|hge
 case inr=>
  have hc1:decide ((k:Int)<(sc.length:Int))=false:=dcf
  refine aue hc1 ?_
  rw[←hQ]
  refine au ?_
  refine aX ((aFD HW R (fun i=>HL.st i) (by omega) (by omega) _ (fun j hj=>HL.rel j hj)).mono ?_)
  rintro v D nxD _ ⟨rfl,_,_,hkD⟩
  unfold cR
  simp only[go_sem,reduceIte,jA,jB,jC,jD,reduceCtorEq,jE,jF]
  refine au ?_
  exact aG h' (hle D fun x hx=>by rw[hkD x (by omega)];exact hsm x hx) ⟨rfl,rfl⟩
 have hc1:decide ((k:Int)<(sc.length:Int))=true:=dct
 have hw1:IntKind.i64.wrap ((k:Int)+1)=((k+1:Nat):Int):=wrp
 obtain⟨x,hx⟩:∃x,x=sc[k]:=⟨_,rfl⟩
 have hg:(sc.map Act.v).getD k (.tup [])= .agg [.bool x.dl, .int .i64 x.a, .int .i64 x.b, .int .i64 x.took.p, .int .i64 x.took.t.e, .int .i64 x.took.t.r, .sl (.agg 3) x.o (x.made.map Sp.v)]:=by rw[hx];exact dM Act.v _ sc k hlt
 have hx6:x.made.length≤6:=by rw[hx];exact b4 _ (List.getElem_mem hlt)
 clear hx
 unfold L.corollarylaw24_FrontSafe_l0
 generalize hD:bE.cond (.slot 34) (.ops L.corollarylaw24_FrontSafe_r12) (.ops L.corollarylaw24_FrontSafe_r13)=DC
 refine aue (e4 hc1 hg hlt (@jK Act V)) ?_
 obtain⟨dl,i,j,took,om,made⟩:=x
 dsimp only at hx6⊢
 generalize hH:Hp.set _ _ _=A2
 have a1:A2 nx1=some (.arr (.agg 7) [.agg [.bool dl, .int .i64 i, .int .i64 j, .int .i64 took.p, .int .i64 took.t.e, .int .i64 took.t.r, .sl (.agg 3) om (made.map Sp.v)]]):=by rw[←hH];simp only[Hp.set,if_true]
 have hk2:∀x,x<nx1→A2 x=hp x:=fun x hx=>by rw[←hH];simp only[Hp.set];rw[if_neg (by omega),if_neg (by omega)]
 have HA:WI (nx+1) A2 (nx1+2) wb nb tb vo vs P (wys o2 ws) (.sl .leaf oc (cH n l n)) ot (cH n l n) S Q:=HW.keep hk2 (by rw[←hH];exact dmo HW.dom)
 clear hH hg
 generalize hC:qB (lwp Tryz.prog _) _=QC
 have hrest:∀(D:Hp) (nxD:Nat) (sl:List V) (e:Int) (S2:Nat→CS) (Q2:Int→Int→List Nt),nx1+2≤nxD→(∀x,x<nx+1→D x=M x)→WI (nx+1) D nxD wb nb tb vo vs P (wys o2 ws) (.sl .leaf oc (cH n l n)) ot (cH n l n) S2 Q2→LI l P vs.length (k+1) S2 Q2→
  WkL sl (aB 59 0 [(7, .ptr wb (.agg 4) 0 0),(8,dO e),(27, .sl (.agg 7) os (sc.map Act.v)),(28, .int .i64 sc.length),(29, .int .i64 k)])→QC .normal ⟨sl,D,nxD⟩:=fun D nxD sl e S2 Q2 h1 h2 h3 h4 h5=>by
  rw[←hC]
  refine kI ⟨_,D,nxD⟩ ⟨h5,Hp.le_refl _,Nat.le_refl _⟩ ?_
  simp only[aB,go_sem,reduceIte,jA,jB,jC,jD,reduceCtorEq,jE,jF]
  have hv:=dP e
  by_cases he0:e=0
  ·rw[decide_eq_true he0] at hv
   refine aue hv ?_
   refine aX ((aFD h3 R (fun i=>h4.st i) (by omega) (by omega) _ (fun j hj=>h4.rel j hj)).mono ?_)
   rintro v D2 nxD2 hn2 ⟨rfl,_,hd2,hkD⟩
   try dsimp only at hn2
   unfold cR
   simp only[go_sem,reduceIte,jA,jB,jC,jD,reduceCtorEq,jE,jF]
   refine aue hw1 ?_
   rw[←hQ]
   exact aI (k+1) (by omega) ⟨hlt,by first|omega|(dsimp only;omega),fun x hx=>by rw[hkD x (by omega)];exact h2 x hx,S2,Q2,h3.keep hkD (hd2.up (by first|omega|(dsimp only;omega))),h4⟩ (by simp only[WkL,aB,jH,jI,jJ,go_sem,reduceIte,jA,jB,jC,jD,reduceCtorEq,jE,jF])
  rw[decide_eq_false he0] at hv
  refine aue (e2 hv hw1) ?_
  rw[←hQ]
  exact aI (k+1) (by omega) ⟨hlt,by first|omega|(dsimp only;omega),h2,S2,Q2,h3.keep (fun _ _=>rfl) (h3.dom.up (by first|omega|(dsimp only;omega))),h4⟩ (by simp only[WkL,aB,jH,jI,jJ,go_sem,reduceIte,jA,jB,jC,jD,reduceCtorEq,jE,jF])
 clear hC
 have hfr:∀D,Fr (nx+1) (tb::vs) A2 D→∀x,x<nx+1→D x=M x:=fun D hf x hx=>by rw[hf.1 x hx,hk2 x (by omega)];exact hsm x hx
 rw[←hD]
 clear hD
 have hn1:nx1<nx1+2:=by omega
 have htf:V.fits (.agg 3) (.agg [.int .i64 took.p, .int .i64 took.t.e, .int .i64 took.t.r])=true:=Sp.fits_v took
 cases dl with
 |true=>
  refine aue (e2 a1 hn1) ?_
  refine aX ((aCk HA HL (by omega) (by omega) i j).mono ?_)
  rintro v D nxD hnD ⟨_,hf,e,rfl,S2,Q2,h3,h4⟩
  try dsimp only at hnD
  unfold cR
  simp only[go_sem,reduceIte,jA,jB,jC,jD,reduceCtorEq,jE,jF]
  refine au ?_
  exact hrest D _ _ e S2 Q2 (by omega) (hfr D hf) h3 h4 (by simp only[WkL,aB,jH,jI,jJ,go_sem,reduceIte,jA,jB,jC,jD,reduceCtorEq,jE,jF])
 |false=>
  refine aue (e3 a1 hn1 htf) ?_
  refine aX ((aJz HA HL R (by omega) (by omega) (by omega) i ⟨took,made⟩ om hx6).mono ?_)
  rintro v D nxD hnD ⟨_,hf,e,rfl,S2,Q2,h3,h4⟩
  try dsimp only at hnD
  unfold cR
  simp only[go_sem,reduceIte,jA,jB,jC,jD,reduceCtorEq,jE,jF]
  refine au ?_
  exact hrest D _ _ e S2 Q2 (by omega) (hfr D hf) h3 h4 (by simp only[WkL,aB,jH,jI,jJ,go_sem,reduceIte,jA,jB,jC,jD,reduceCtorEq,jE,jF])
end Go.Proofs.YtecepaehmojpgaaGreat
