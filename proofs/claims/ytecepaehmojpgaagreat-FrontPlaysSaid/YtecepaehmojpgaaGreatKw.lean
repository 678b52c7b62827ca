/-
Texts of this proof,one behind the other. No conditions.
-/
import Derived.Test.YtecepaehmojpgaaGreatKv
import Derived.Test.YtecepaehmojpgaaGreatKd
import Derived.Test.YtecepaehmojpgaaGreatKh
import Derived.Test.YtecepaehmojpgaaGreatKj
import Derived.Test.YtecepaehmojpgaaGreatKt
open List renaming filter_cons→Ka,eq_nil_of_length_eq_zero→Kb,map_cons→Kc,length_append→Kd,map_nil→Ke,any_eq_true→Kg,getD_eq_getElem?_getD→Ki,ext_getElem→Kj,not_mem_nil→Kk,flatMap_append→Km,mem_cons→Kp,findIdx?_cons→Kq,getElem_range→Ks,getElem_map→Ku,range_succ→Kv,append_nil→Kw,mem_map→Kx
open Int renaming toNat_natCast→Kf
open Bool renaming eq_iff_iff→Kh
open Nat renaming mul_le_mul_left→Ko,le_trans→Kt,le_refl→Ky,zero_le→Kz,le_succ→KB
set_option linter.unusedSimpArgs false
set_option linter.unusedVariables false
set_option linter.unusedSectionVars false
set_option maxHeartbeats 8000000
open Nat renaming reduceAdd→jA,reduceSub→jB,reduceLT→jC,reduceLeDiff→jD,reduceEqDiff→jE
open Int renaming reduceToNat→jF
open List renaming length_map→jK
namespace Go.Proofs.YtecepaehmojpgaaGreat
open Go.RowKit Go.Sort
theorem yp{α:Type}{p:α→Bool}{a b:List α}(h:a.Perm b):a.any p=b.any p:=by
 rw[Kh,Kg,Kg];exact⟨fun⟨x,h1,h2⟩=>⟨x,h.mem_iff.1 h1,h2⟩,fun⟨x,h1,h2⟩=>⟨x,h.mem_iff.2 h1,h2⟩⟩
theorem ut(P:Int){C r r':List Cg}(h:r.Perm r')(hC:∀x∈C,cV x.d=false)(hr:∀x∈r,cV x.d=false)(hl:C.length+r.length≤100000):bP P C r=bP P C r':=by
 have hp:(C++r).Perm (C++r'):=h.append_left C;have hw:∀x∈C++r,cV x.d=false:=fun x hx=>by
  rcases List.mem_append.1 hx with hx|hx
  ·exact hC x hx
  exact hr x hx
 have hs:vJ (C++r)=vJ (C++r'):=by
  have h1:=fg (C++r);have h2:=fg (C++r');have e:tot (C++r)=tot (C++r'):=funext fun s=>by
   rw[qp hw (by rw[Kd];exact hl),qp (fun x hx=>hw x (hp.mem_iff.2 hx)) (by rw[←hp.length_eq,Kd];exact hl),BC hp]
  rw[e] at h1;exact bz h1 h2
 unfold bP;rw[yp h,yp (p:=fun x:Cg=>cV x.d) h,hs]
theorem Bn(n:Nt):n.ds.Perm n.cs:=(List.perm_append_singleton _ _).symm
theorem DO(n:Nt):∀x∈n.ds,cV x.d=false:=fun x hx=>ya n x ((Bn n).mem_iff.1 hx)
theorem Cy{l:List CE}{c:Nat}(h:eO l c)(hs:ag l):∀x∈dT l,cV x.d=false:=fun x hx=>by
 obtain⟨y,hy,_,e⟩:=(yG h x).1 hx;rw[←e];exact hs y hy
theorem oB{P:Int}{l:List CE}{c K:Nat}(h:StC P l c K)(hK:K≤10000)(n:Nt)(hn:n.made.length≤1000):bP P (dT l) n.ds=(dT (aV P l c n.cs).2.1,(aV P l c n.cs).1):=by
 have hl:=h.len;rw[ut P (Bn n) (Cy h.ok h.small) (DO n) (by rw[jX];simp[Nt.ds];omega)];exact nm P h.ok h.small or n.cs
theorem Ff{P:Int}{ws:List Wy}{n:Nat}{l:List We}(R:lC P ws n l)(s u:Sp):rmk P ws s u=mkB (cQ l) n s u:=by
 have hP:=R.pl;unfold rmk mkB sS;by_cases hr:0≤u.p∧u.p<n∧0≤s.p∧s.p<n
 ·rw[decide_eq_true hr,Bool.true_and,B1 R or or,jf];congr 1;rw[Kh,Kg,Kg];constructor
  ·rintro⟨x,h1,h2⟩;obtain⟨p,hp,h3,h4⟩:=(gh _ _ _).1 (Fm h1).2;refine⟨p,hp,?_⟩;unfold byB;rw[decide_eq_true h3,h4,h2];rfl
  rintro⟨p,hp,h2⟩;unfold byB at h2;rw[Bool.and_eq_true,decide_eq_true_eq] at h2;obtain⟨z,hz,hle⟩:=BQ ((gh _ _ _).2 ⟨p,hp,h2.1,rfl⟩) (FO h2.1);exact⟨z,hz,Tm.le_trans hle h2.2⟩
 have e:eA P ws s.p u.p=[]:=by
  unfold eA;rw[if_neg];rintro⟨_,h1,h2,h3,h4⟩;exact hr ⟨h3,or,h1,or⟩
 rw[decide_eq_false hr,Bool.false_and,e,jf,show jU s.t []=[] from rfl,show ofT []=[] from Kb (by have:=Bc [];simpa using this)];simp
def qs(l:List DN)(i j:Int):List Nt:=(l.filter fun x=>x.at' i j).map DN.n
theorem nq(a b:List DN)(i j:Int):qs (a++b) i j=qs a i j++qs b i j:=by simp[qs]
theorem Br(l:List DN)(i j:Int):rA l i j=(qs l i j).length:=by
 unfold rA qs DN.at';rw[List.countP_eq_length_filter,List.length_map]
theorem sm(x:DN)(i j:Int):x.at' i j=true↔x.f=i∧x.t=j:=by simp[DN.at']
theorem E3(i:Int)(n:Nt)(a b:Int):∀k:Nat,qs (lE i n k) a b=if a=i∧b≠i∧0≤b∧b<k then [n] else []
 |0=>by rw[if_neg or];rfl
 |k+1=>by
  have e:lE i n (k+1)=lE i n k++(if (k:Int)=i then [] else [⟨i,(k:Int),n⟩]):=by
   unfold lE;rw[Kv,Km];simp
  rw[e,nq,E3 i n a b k];by_cases hi:(k:Int)=i
  ·rw[if_pos hi];by_cases h1:a=i∧b≠i∧0≤b∧b<k
   ·rw[if_pos h1,if_pos or];rfl
   rw[if_neg h1,if_neg or];rfl
  rw[if_neg hi];by_cases h2:a=i∧b=k
  ·have h3:qs [⟨i,(k:Int),n⟩] a b=[n]:=by simp[qs,DN.at',h2]
   rw[if_neg or,if_pos or,h3];rfl
  have h3:qs [⟨i,(k:Int),n⟩] a b=[]:=by
   simp only[qs,DN.at'];rw[Ka,if_neg (by simp;omega)];rfl
  rw[h3,Kw];by_cases h1:a=i∧b≠i∧0≤b∧b<k
  ·rw[if_pos h1,if_pos or]
  rw[if_neg h1,if_neg or]
theorem pr{α:Type}{p:α→Bool}:∀{l:List α},l.findIdx? p=none→l.filter p=[]
 | [],_=>rfl
 |x::l,h=>by
  rw[Kq] at h;by_cases hp:p x=true
  ·rw[if_pos hp] at h;cases h
  rw[if_neg hp] at h;rw[Ka,if_neg hp];exact pr (by cases e:l.findIdx? p<;>simp_all)
theorem zV{α:Type}{p:α→Bool}:∀{l:List α} {k:Nat},l.findIdx? p=some k→∃y,l[k]?=some y∧p y=true∧l.filter p=y::(l.eraseIdx k).filter p∧∀q:α→Bool,q y=false→(l.eraseIdx k).filter q=l.filter q
 | [],_,h=>by cases h
 |x::l,k,h=>by
  rw[Kq] at h;by_cases hp:p x=true
  ·rw[if_pos hp] at h;cases h;refine⟨x,rfl,hp,?_,fun q hq=>?_⟩
   ·rw[Ka,if_pos hp];rfl
   rw[Ka,if_neg (by rw[hq];decide)];rfl
  rw[if_neg hp] at h;cases e:l.findIdx? p with
  |none=>rw[e] at h;cases h
  |some m=>
   rw[e] at h;cases h;obtain⟨y,h1,h2,h3,h4⟩:=zV e;refine⟨y,h1,h2,?_,fun q hq=>?_⟩
   ·show(x::l).filter p=y::(x::l.eraseIdx m).filter p;rw[Ka,if_neg hp,Ka,if_neg hp,h3]
   show(x::l.eraseIdx m).filter q=(x::l).filter q;rw[Ka,Ka,h4 q hq]
structure Scr(P:Int)(ws:List Wy)(N k:Nat)(S:Nat→CS)(Q:Int→Int→List Nt)(x:DW):Prop where
 p:x.P=P
 w:x.ws=ws
 t:x.T=dT (S 0).1
 v:x.Vs=(List.range N).map fun j=>dT (S (j+1)).1
 q:∀i j,qs x.Ns i j=Q i j
 n:x.Ns.length≤N*k
section
variable{l:List We}{P:Int}{ws:List Wy}{N k:Nat}{S:Nat→CS}{Q:Int→Int→List Nt}{x:DW}
theorem Scr.vl(H:Scr P ws N k S Q x):x.Vs.length=N:=by rw[H.v];simp
theorem Scr.vat(H:Scr P ws N k S Q x){j:Nat}(hj:j<N)(h:j<x.Vs.length):x.Vs[j]=dT (S (j+1)).1:=by
 simp[H.v]
theorem Scr.full(H:Scr P ws N k S Q x)(L:LI l P N k S Q)(hk:k<1000)(a b:Int):rA x.Ns a b<1000:=by
 rw[Br,H.q];have:=L.len a b;omega
theorem Scr.ok(H:Scr P ws N k S Q x)(L:LI l P N k S Q)(hk:k≤300)(hN:N≤30)(hw:ws.length≤1000):x.Ok:=by
 refine⟨by rw[H.w];exact hw,by rw[H.vl];omega,fun C hC=>?_,?_,?_,fun y hy=>?_⟩
 ·rw[H.v] at hC;obtain⟨j,_,rfl⟩:=Kx.1 hC;have:=(L.st (j+1)).len;rw[jX];omega
 ·have:=(L.st 0).len;rw[H.t,jX];omega
 ·have h1:=H.n;have h2:N*k≤30*300:=Nat.mul_le_mul hN hk;omega
 have h1:y.n∈Q y.f y.t:=by
  rw[←H.q];exact Kx.2 ⟨y,List.mem_filter.2 ⟨hy,(sm _ _ _).2 ⟨rfl,rfl⟩⟩,rfl⟩
 have:=(L.fit _ _ _ h1).1;omega
theorem Scr.doE(H:Scr P ws N k S Q x)(L:LI l P N k S Q)(hk:k≤300){np:Nat}(R:lC P ws np l)(i:Int)(n:Nt)(hn:n.made.length≤1000):qF x i n=doE N P (S 0) (cQ l) np i n:=by
 unfold qF Go.Proofs.YtecepaehmojpgaaGreat.doE;rw[H.vl,H.t,io (L.st 0).ok,H.p,H.w,oB (L.st 0) or n hn];have:(fun u=> !rmk P ws n.aAS u)=fun u=> !mkB (cQ l) np n.aAS u:=funext fun u=>by rw[Ff R]
 rw[this]
theorem Scr.aVJ(H:Scr P ws N k S Q x)(L:LI l P N k S Q)(hk:k≤300){m:Nat}(hm:m<N)(n:Nt)(hn:n.made.length≤1000)(h0:qF x m n=0):
 Scr P ws N (k+1) (dS (dS S 0 (aV P (S 0).1 (S 0).2 n.cs).2) (m+1) (aV P (S (m+1)).1 (S (m+1)).2 n.cs).2) (eS N Q m n) (cn x m n):=by
 unfold cn;rw[if_pos h0];refine⟨H.p,H.w,?_,?_,fun a b=>?_,?_⟩
 ·show(bP x.P x.T n.ds).1=_;rw[H.p,H.t,oB (L.st 0) or n hn];rfl
 ·show kW x (m:Int).toNat n x.Vs.length=_;rw[Kf];refine Kj (by simp[kW,H.vl]) fun t h1 h2=>?_;have ht:t<N:=by simpa using h2
  have ht2:t<x.Vs.length:=by rw[H.vl];exact ht
  simp only[kW,List.getElem_mapIdx,List.getElem_take,Ku,Ks];rw[H.vat ht ht2];by_cases e:t=m
  ·subst e;rw[if_pos rfl,H.p,oB (L.st (t+1)) or n hn];unfold dS;rw[if_pos rfl]
  rw[if_neg e];unfold dS;rw[if_neg or,if_neg or]
 ·show qs (x.Ns++lE m n x.Vs.length) a b=_;rw[nq,H.q,H.vl,E3];unfold eS;by_cases h1:a=m∧b≠m∧0≤b∧b<N
  ·rw[if_pos h1,if_pos h1]
  rw[if_neg h1,if_neg h1,Kw]
 show(x.Ns++lE m n x.Vs.length).length≤_;have h1:=H.n;have h2:∀k:Nat,(lE m n k).length≤k:=fun k=>by
  induction k with
  |zero=>exact Ky _
  |succ k ih=>
   have e:lE m n (k+1)=lE m n k++(if (k:Int)=m then [] else [⟨m,(k:Int),n⟩]):=by
    unfold lE;rw[Kv,Km];simp
   rw[e,Kd];split<;>simp<;>omega
 have h3:=h2 x.Vs.length;rw[Kd];rw[H.vl] at h3⊢;have h4:N*(k+1)=N*k+N:=Nat.mul_succ N k;omega
theorem Scr.start(P:Int)(ws:List Wy)(N:Nat)(bg:List Sp)(hb:bg.length≤1000):(bP P [] (bX bg 1)).2=(aV P [] 0 (bX bg 1)).1∧Scr P ws N 0 (fun _=>(aV P [] 0 (bX bg 1)).2) (fun _ _=>[]) (fj P ws N bg):=by
 have h:=nm P (qu P 0).ok (fun x hx=>by cases hx) ZM (bX bg 1);have e:dT []=[]:=Kb (by rw[jX];rfl);rw[e] at h;rw[h];refine⟨rfl,⟨rfl,rfl,?_,?_,fun _ _=>rfl,Kz _⟩⟩
 ·show(bP P [] (bX bg 1)).1=_;rw[h]
 show List.replicate N (bP P [] (bX bg 1)).1=_;rw[h];exact Kj Zm fun t h1 h2=>Zm
theorem Scr.settled(H:Scr P ws N k S Q x):x.Ns.length=0↔∀i j,Q i j=[]:=by
 constructor
 ·intro h i j;rw[←H.q,Kb h];rfl
 intro h;rcases hx:x.Ns with _|⟨y,r⟩
 ·rfl
 have h1:=H.q y.f y.t;rw[h,hx] at h1;have h2:y.at' y.f y.t=true:=(sm _ _ _).2 ⟨rfl,rfl⟩;unfold qs at h1;rw[Ka,if_pos h2] at h1;cases h1
theorem Scr.more(H:Scr P ws N k S Q x):Scr P ws N (k+1) S Q x:=
 ⟨H.p,H.w,H.t,H.v,H.q,Kt H.n (Ko N (KB k))⟩
theorem Scr.none(H:Scr P ws N k S Q x){i j:Int}(hr:0≤i∧i<N∧0≤j∧j<N∧i≠j)(h:Q i j=[]):gB x i j=(x,13):=by
 unfold gB;rw[H.vl,if_neg or];cases e:x.Ns.findIdx? fun y=>y.at' i j with
 |none=>rfl
 |some m=>
  obtain⟨y,_,_,h3,_⟩:=zV e;have:=H.q i j;unfold qs at this;rw[h3,h] at this;cases this
theorem Scr.aDP(H:Scr P ws N k S Q x)(L:LI l P N k S Q)(hk:k≤300){i j:Nat}(hi:i<N)(hj:j<N)(hne:i≠j){n:Nt}{r:List Nt}(h:Q i j=n::r):
 (gB x i j).2=0∧Scr P ws N (k+1) (dS S (j+1) (aV P (S (j+1)).1 (S (j+1)).2 n.cs).2) (qA Q i j r) (gB x i j).1:=by
 unfold gB;rw[H.vl,if_neg or];have hq:=H.q i j;unfold qs at hq;cases e:x.Ns.findIdx? fun y=>y.at' i j with
 |none=>
  rw[pr e,h] at hq;cases hq
 |some m=>
  obtain⟨y,h1,h2,h3,h4⟩:=zV e;rw[h3,h] at hq;have hy:y.n=n:=by injection hq
  have hr:qs (x.Ns.eraseIdx m) i j=r:=by injection hq
  have hn:=(L.fit i j n (by rw[h];simp)).1;refine⟨rfl,H.p,H.w,?_,?_,fun a b=>?_,?_⟩
  ·show x.T=_;rw[H.t];unfold dS;rw[if_neg or]
  ·show x.Vs.set (j:Int).toNat _=_;rw[Kf];have hj2:j<x.Vs.length:=by rw[H.vl];exact hj
   have e1:(x.Ns.map DN.n).getD m ⟨⟨0,⟨0,0⟩⟩,[]⟩=n:=by
    simp[Ki,List.getElem?_map,h1,hy]
   have e2:x.Vs.getD j []=dT (S (j+1)).1:=by
    rw[Ki,List.getElem?_eq_getElem hj2,H.vat hj hj2];rfl
   rw[e1,e2,H.p,oB (L.st (j+1)) or n or];refine Kj (by simp[H.vl]) fun t h1 h2=>?_;have ht:t<N:=by simpa using h2
   have ht2:t<x.Vs.length:=by rw[H.vl];exact ht
   rw[List.getElem_set];simp only[Ku,Ks];by_cases e:j=t
   ·subst e;rw[if_pos rfl];unfold dS;rw[if_pos rfl]
   rw[if_neg e,H.vat ht ht2];unfold dS;rw[if_neg or]
  ·show qs (x.Ns.eraseIdx m) a b=_;unfold qA;by_cases e:a=i∧b=j
   ·rw[if_pos e,e.1,e.2,hr]
   rw[if_neg e,←H.q];unfold qs;rw[h4 _ (by
    have:=(sm _ _ _).1 h2;rw[Bool.eq_false_iff];intro h;have:=(sm _ _ _).1 h;omega)]
  show(x.Ns.eraseIdx m).length≤_;have h5:=H.n;have h6:(x.Ns.eraseIdx m).length≤x.Ns.length:=by
   rw[List.length_eraseIdx];split<;>omega
  exact Kt h6 (Kt h5 (Ko N (KB k)))
end
section
variable{n0:Nat}{h':Hp}{nx wb nb tb:Nat}{vo:Own}{vs:List Nat}{P:Int}{wv lc:V}{ot:Own}{n:Nat}{l:List We}{ws:List Wy}{S:Nat→CS}{Q:Int→Int→List Nt}{k:Nat}{x:DW}
theorem r9(H:WI n0 h' nx wb nb tb vo vs P wv lc ot (eK n l n) S Q)(HL:LI l P vs.length k S Q)(HS:Scr P ws vs.length k S Q x)(hk:k≤100)(hn0:n0≤nx)(i j:Int):
 bD Tryz.prog 10 [.ptr wb (.agg 4) 0 0, .int .i64 i, .int .i64 j] h' nx fun v h'' nx2=>nx≤nx2∧Fr n0 (tb::vs) h' h''∧v=fC (gB x i j).2∧∃S2 Q2,WI n0 h'' nx2 wb nb tb vo vs P wv lc ot (eK n l n) S2 Q2∧LI l P vs.length (k+1) S2 Q2∧Scr P ws vs.length (k+1) S2 Q2 (gB x i j).1:=by
 refine(jc H i j (fun i=>(HL.st i).ok) (fun x hx=>by have:=(HL.fit _ _ x hx).1;omega) hn0 (by have:=HL.len i j;omega)).mono ?_;rintro v h2 nx2 _ ⟨q1,q2,(⟨hr,rfl,HW⟩|⟨hr,hq,rfl,HW⟩|⟨hr,y,r,hq,rfl,HW⟩)⟩
 ·have e:gB x i j=(x,1):=by unfold gB;rw[HS.vl,if_pos hr]
  rw[e];exact⟨q1,q2,rfl,S,Q,HW,HL.more,HS.more⟩
 ·rw[HS.none hr hq];exact⟨q1,q2,rfl,S,Q,HW,HL.more,HS.more⟩
 obtain⟨a,rfl⟩:∃a:Nat,i=a:=⟨i.toNat,or⟩;obtain⟨b,rfl⟩:∃b:Nat,j=b:=⟨j.toNat,or⟩;rw[Kf] at HW⊢;obtain⟨d1,d2⟩:=HL.aDP or or or hq;obtain⟨e1,e2⟩:=HS.aDP HL or or or or hq;exact⟨q1,q2,by rw[d1,e1],_,_,HW,d2,e2⟩
theorem EN(H:WI n0 h' nx wb nb tb vo vs P wv lc ot (eK n l n) S Q)(HL:LI l P vs.length k S Q)(HS:Scr P ws vs.length k S Q x)(R:lC P ws n l)(hk:k≤100)(hn0:n0≤nx)(hvs:vs.length≤17)(i:Int)(nt:Nt)(o:Own)(hl:nt.made.length≤6):
 bD Tryz.prog 11 [.ptr wb (.agg 4) 0 0, .int .i64 i,nt.aAS.v, .sl (.agg 3) o (nt.made.map Sp.v)] h' nx fun v h'' nx2=>nx≤nx2∧Fr n0 (tb::vs) h' h''∧v=fC (qF x i nt)∧∃S2 Q2,WI n0 h'' nx2 wb nb tb vo vs P wv lc ot (eK n l n) S2 Q2∧LI l P vs.length (k+1) S2 Q2∧Scr P ws vs.length (k+1) S2 Q2 (cn x i nt):=by
 have he:=HS.doE HL or R i nt or;refine(E8 H (cQ l) n (ff n l) (fun a b=>by have:=vX l a b;omega) i nt o or (fun i=>(HL.st i).ok) hn0 (fun a b=>by have:=HL.len a b;omega) hvs (fun _ h0=>(HL.done R or hl h0).2.1)).mono ?_;rintro v h2 nx2 _ ⟨q1,q2,rfl,(⟨h0,HW⟩|⟨h0,HW⟩)⟩
 ·have e:cn x i nt=x:=by unfold cn;rw[he,if_neg h0]
  rw[e,he];exact⟨q1,q2,rfl,S,Q,HW,HL.more,HS.more⟩
 obtain⟨d1,_,d2⟩:=HL.done R or hl h0;obtain⟨a,rfl⟩:∃a:Nat,i=a:=⟨i.toNat,or⟩;rw[Kf] at HW d2;rw[he];exact⟨q1,q2,rfl,_,_,HW,d2,HS.aVJ HL or or nt or (by rw[he];exact h0)⟩
theorem WI.aGK(H:WI n0 h' nx wb nb tb vo vs P wv lc ot (eK n l n) S Q)(HS:Scr P ws vs.length k S Q x):aY Tryz.prog 17 [.ptr wb (.agg 4) 0 0] h' (.bool (decide (x.Ns.length=0))):=by
 obtain⟨q,c,hw,hq,hl⟩:=H.q;have hs:=wR hw;have e:(q=[])↔x.Ns.length=0:=by
  rw[HS.settled];constructor
  ·rintro rfl i j;rw[←hl];rfl
  intro he;exact FM hq fun i j=>by have:=hl i j;rw[he] at this;exact List.map_eq_nil_iff.1 this
 rwa [show decide (q=[])=decide (x.Ns.length=0) from by rw[Kh,decide_eq_true_eq,decide_eq_true_eq];exact e] at hs
end
section
variable{h h2:Hp}{n0 nx nx2 wb nb tb B:Nat}{vo:Own}{vs:List Nat}{P:Int}{wv lc:V}{ot:Own}{rows es:List V}{S:Nat→CS}{Q:Int→Int→List Nt}
theorem WI.aG8(H:WI n0 h nx wb nb tb vo vs P wv lc ot rows S Q)(hB:h B=some (.arr (.agg 5) es))(hk:∀x,x<nx→x≠B→h2 x=h x)(hd:aI h2 nx2):WI n0 h2 nx2 wb nb tb vo vs P wv lc ot rows S Q:=by
 have ne:∀{y:Nat} {b:Blk},h y=some b→(∀es,b≠ .arr (.agg 5) es)→h2 y=some b:=fun{y b} e n=>by
  rw[hk _ (H.dom _ _ e) (fun e2=>n es (by rw[e2,hB] at e;exact(Option.some.inj e).symm))];exact e
 obtain⟨q,c,hw,hq,hl⟩:=H.q;refine⟨⟨q,c,⟨ne hw.cell Zm,ne hw.mp Zm⟩,⟨fun x hx=>?_,hq.td,hq.key,hq.ne⟩,hl⟩,hd,fun i hi=>?_,H.d,H.lo⟩
 ·obtain⟨b,h1,h0,h3⟩:=hq.tk x hx;exact⟨b,h1,h0,ne h3 Zm⟩
 obtain⟨m,hm,hc⟩:=H.c i hi;exact⟨m,hm,ne hc.cell Zm,ne hc.mp Zm,hc.wf,hc.lf⟩
theorem WI.aV4(H:WI n0 h nx wb nb tb vo vs P wv lc ot rows S Q)(hB:h B=some (.arr (.agg 5) es)):B∉tb::vs:=fun hm=>by
 obtain⟨i,hi,e⟩:=List.getElem_of_mem hm;obtain⟨m,_,hc⟩:=H.c i hi;have:=hc.cell;rw[e,hB] at this;simp at this
end
theorem EB(P:Int)(ws:List Wy):vU P ws=mps (cO ws) P ws:=by
 unfold vU mps wys;rw[lM]
theorem D8{α:Type}(l:List α):cO l= .nil∨cO l= .free:=by unfold cO;split<;>simp
theorem By(o:Own)(P:Int)(ws:List Wy)(hl:ws.length≤1000)(h:Hp):aY Tryz.prog 14 [mps o P ws] h (mps (cO ws) P ws):=by
 have e:=dw o P ws or h;rwa [EB] at e
attribute [local irreducible] IntKind.wrap
theorem dx{n0:Nat}{h:Hp}{nx wb nb tb:Nat}{vo:Own}{vs:List Nat}{P:Int}{wv lc:V}{ot:Own}{rows:List V}{S:Nat→CS}{Q:Int→Int→List Nt}(H:WI n0 h nx wb nb tb vo vs P wv lc ot rows S Q)(i:Int)(hi:¬(0≤i∧i<vs.length)):
 aY Tryz.prog 28 [.ptr wb (.agg 4) 0 0, .int .i64 i] h .aAJ:=by
 obtain⟨q,c,hw,hq,hl⟩:=H.q;refine aR (fun L=>trivial) fun h' nx hh=>aF L.aVv fun hd=>?_;simp only[List.length_cons,List.length_nil,Nat.reduceAdd,Nat.reduceSub,List.replicate_succ,List.replicate_zero,List.cons_append,List.nil_append,V.undef];have c1:=hh _ _ hw.cell rfl;have hw2:fZ h' wb tb nb (.sl .leaf ot rows) vo vs q c:=⟨c1,hh _ _ hw.mp rfl⟩;have C5:=kN hw2 i;have g1:(decide (0≤i)&&decide (i<vs.length))=false:=by
  rw[Bool.and_eq_false_iff,decide_eq_false_iff_not,decide_eq_false_iff_not];omega
 rw[g1] at C5;refine aue c1 ?_;exact aG h' (leo hd) ⟨rfl,rfl⟩
end Go.Proofs.YtecepaehmojpgaaGreat
namespace Go.Proofs.YtecepaehmojpgaaGreat
open Go.ChangeShapes Go.WideShapes Go.ChangeAt Go.RowKit Go.Sort
attribute [local irreducible] IntKind.wrap
def plF(wb nb' cb:Nat)(b:Bool)(oN:Own)(x:DW)(al:V):List (Nat×Nat×V):=[(0,137, .ptr wb (.agg 4) 0 0),(1,138, .int .i64 3),(2,139, .bool true),(3,140, .bool true),(4,141, .ptr wb (.agg 4) 0 0),(5,142, .bool b),(6,143, .ptr nb' (.agg 5) 0 4),(7,144, .sl (.agg 3) oN (x.Ns.map DN.v)),(8,145, .int .i64 x.Ns.length),(9,146, .bool b),(10,147, .bool true),(11,148, .bool true),(12,149, .bool true),(13,150, .ptr wb (.agg 4) 0 0),(14,151, .ptr cb (.agg 4) 0 0),(15,152, .ptr nb' (.agg 5) 0 2),(16,153,cgs (cO x.T) x.T),(17,154,al),(18,155, .bool true),(19,156, .bool true),(20,157, .bool true),(21,158, .ptr wb (.agg 4) 0 0),(22,159, .aAJ),(23,160, .bool true),(24,161, .bool true),(25,162, .bool true),(26,163, .ptr wb (.agg 4) 0 0),(27,164, .aAJ),(28,165, .bool true),(29,166, .bool true),(30,6, .bool true)]
def plX(wb nb':Nat)(al:V):List (Nat×V):=[(7, .ptr wb (.agg 4) 0 0),(9, .ptr nb' (.agg 5) 0 0),(15,al)]
theorem Fh{wb nb' cb cb2:Nat}{b:Bool}{oN:Own}{x:DW}{al:V}{n:Nat}{D:Nat→Bool}{sl:List V}(r:RG (plF wb nb' cb b oN x al) (plX wb nb' al) n D sl)(hD:D 14=false):RG (plF wb nb' cb2 b oN x al) (plX wb nb' al) n D sl:=
 ⟨r.len,r.fx,fun f hf hd=>by
   simp only[plF,Kp,Kk,or_false] at hf;rcases hf with rfl|rfl|rfl|rfl|rfl|rfl|rfl|rfl|rfl|rfl|rfl|rfl|rfl|rfl|rfl|rfl|rfl|rfl|rfl|rfl|rfl|rfl|rfl|rfl|rfl|rfl|rfl|rfl|rfl|rfl|rfl<;>first|(dsimp only at hd;rw[hD] at hd;cases hd)|exact r.dn _ (by simp[plF]) hd⟩
section
variable{h' D:Hp}{n0 nxD wb nb tb nb' k:Nat}{vo om oN oa:Own}{vs:List Nat}{P:Int}{wv lc:V}{ot:Own}{n:Nat}{l:List We}{ws:List Wy}{S:Nat→CS}{Q:Int→Int→List Nt}{x:DW}{asked:List Cg}
set_option maxRecDepth 100000 in
set_option maxHeartbeats 8000000 in
theorem BN(H:WI n0 D nxD wb nb tb vo vs P wv lc ot (eK n l n) S Q)(HL:LI l P vs.length k S Q)(HS:Scr P ws vs.length k S Q x)(hv:vs.length=3)(hB:D nb'=some (.arr (.agg 5) [x.v om oN]))(ha:asked.length≤10000)(hk:k≤100)(hle:∀B:Hp,(∀y,y<nxD→B y=D y)→h'.le B):
 lwp Tryz.prog (.seq (.draw 31 L.aDw L.aDN) .ret) (iB [.slot 6] fun v h'' _=>v= .bool true∧h''=h') ⟨aB 167 0 [(7, .ptr wb (.agg 4) 0 0),(9, .ptr nb' (.agg 5) 0 0),(15,cgs oa asked)],D,nxD⟩:=by
 have hb:=H.dom _ _ hB;have hT:x.T=dT (S 0).1:=HS.t;have hTl:(S 0).1.length≤10000:=by have:=(HL.st 0).len;omega
 have hok:=(HL.st 0).ok;have hbq:(((x.Ns.length:Nat):Int)==0)=decide (x.Ns.length=0):=by
  rw[Kh];simp
 have aVy:veq (.plain .leaf [.bool]) (.bool (decide (x.Ns.length=0))) (.bool (decide (x.Ns.length=0)))=some true:=by
  generalize decide (x.Ns.length=0)=b;cases b<;>rfl
 refine bI (pJ ?_);refine⟨fun E s=>∃cb m2,RG (plF wb nb' cb (decide (x.Ns.length=0)) oN x (cgs oa asked)) (plX wb nb' (cgs oa asked)) 167 E s.sl∧(∀y,y<nxD→s.h y=D y)∧aI s.h s.nx∧nxD≤s.nx∧(E 14=true→dQ s.h cb m2 P wv lc (S 0).1 (S 0).2),⟨0,0,⟨rfl,?_,fun f _ e=>by cases e⟩,fun _ _=>rfl,H.dom,Ky _,fun e=>by cases e⟩,?_,?_⟩
 ·intro p hp;simp only[plX,Kp,Kk,or_false] at hp;rcases hp with rfl|rfl|rfl<;>rfl
 ·rintro E i oo aAR ⟨sl,hq,n2⟩ hi hDi aAZ hcl ⟨cb,m2,r,hkq,hdq,hnq,hcq⟩;have x7:=r.fx (7, .ptr wb (.agg 4) 0 0) (by simp[plX]);have x9:=r.fx (9, .ptr nb' (.agg 5) 0 0) (by simp[plX]);have x15:=r.fx (15,cgs oa asked) (by simp[plX]);have y:∀f∈plF wb nb' cb (decide (x.Ns.length=0)) oN x (cgs oa asked),f.1∈aAR→sl.getD f.2.1 V.undef=f.2.2:=fun f hf hd=>r.dn f hf (aAZ _ hd);dsimp only at x7 x9 x15 hkq hdq hnq hcq;have hBq:hq nb'=some (.arr (.agg 5) [x.v om oN]):=by rw[hkq _ hb];exact hB
  have Hq:=H.aBB hkq hdq;have C1:=Hq.members;rw[hv] at C1;have C2:=Hq.aGK HS;have C3:=dx Hq 3 or;have C4:=dx Hq (-1) or;have fin:=fun(i t:Nat) (v:V) (ht:t<167) (hF:∀f∈plF wb nb' cb (decide (x.Ns.length=0)) oN x (cgs oa asked),(f.1=i∨f.2.1=t)→f=(i,t,v)) (hx:∀p∈plX wb nb' (cgs oa asked),p.1≠t) (h14:i≠14)=>
   (⟨cb,m2,r.slot i t v ht hF hx,hkq,hdq,hnq,fun e=>hcq (by rwa [if_neg h14.symm] at e)⟩:∃cb m2,RG (plF wb nb' cb (decide (x.Ns.length=0)) oN x (cgs oa asked)) (plX wb nb' (cgs oa asked)) 167 (fun j=>if j=i then true else E j) (sl.set t v)∧(∀y,y<nxD→hq y=D y)∧aI hq n2∧nxD≤n2∧((if 14=i then true else E 14)=true→dQ hq cb m2 P wv lc (S 0).1 (S 0).2))
  rcases i with _|_|_|_|_|_|_|_|_|_|_|_|_|_|_|_|_|_|_|_|_|_|_|_|_|_|_|_|_|_|_|i;all_goals first|(injection hi with hi;injection hi with q1 q2;subst q1;subst q2)|skip
  all_goals simp only[plF,Kp,Kk,or_false,forall_eq_or_imp,forall_eq,jE,reduceCtorEq,false_implies,implies_true,true_or,or_true,true_implies,and_true,true_and] at y
  all_goals try refine ED (by simp only[y]) ?_
  all_goals try (first
   |(refine aQ C1 ?_ (aT _) ?_;focus (simp only[Kc,Ke,aP.ev,y];done))
   |(refine aQ C2 ?_ (aT _) ?_;focus (simp only[Kc,Ke,aP.ev,y];done))
   |(refine aQ C3 ?_ (aT _) ?_;focus (simp only[Kc,Ke,aP.ev,y];done))
   |(refine aQ C4 ?_ (aT _) ?_;focus (simp only[Kc,Ke,aP.ev,y];done)))
  case succ.succ.succ.succ.succ.succ.succ.succ.succ.succ.succ.succ.succ.succ.zero=>
   obtain⟨q,c,hw,hq',hl⟩:=Hq.q;obtain⟨mt,hmt,hct⟩:=Hq.t;refine bN ?_;rw[show List.map (aP.ev sl) [aP.slot 150]=[.ptr wb (.agg 4) 0 0] from by simp only[Kc,Ke,aP.ev,y]];refine(CV hw hct).mono ?_;rintro v M nxM aGC ⟨cb',m',rfl,q1,q2,hc2,hkM,hdM,_⟩;dsimp only at aGC hkM;exact⟨cb',m',(Fh r hDi).slot 14 151 _ ZM (by simp[plF]) (by simp[plX]),fun y hy=>(hkM y or).trans (hkq y hy),hdM,Zw,fun _=>hc2⟩
  case succ.succ.succ.succ.succ.succ.succ.succ.succ.succ.succ.succ.succ.succ.succ.succ.succ.succ.zero=>
   have C5:=po (hcq (aAZ 14 Zm)) hok hTl (cO (dT (S 0).1)) oa asked ha;rw[←hT] at C5;refine aQ C5 (by simp only[Kc,Ke,aP.ev,y];done) (aT _) ?_;exact fin _ _ _ ZM (by simp[plF]) (by simp[plX]) ZM
  all_goals try simp only[bF,LOp.run,LOp.sem,bR.sem,aP.ev,bQ,x7,x9,x15,y,hBq,aVy,hbq,V.pick,jK]
  all_goals try (first
   |exact fin _ _ _ ZM (by simp[plF]) (by simp[plX]) ZM
   |(rw[if_pos trivial];exact fin _ _ _ ZM (by simp[plF]) (by simp[plX]) ZM)
   |exact⟨trivial,Zm,by simp[dA],fin 7 144 (.sl (.agg 3) oN (x.Ns.map DN.v)) ZM (by simp[plF]) (by simp[plX]) ZM⟩
   |exact⟨trivial,Zm,by simp[dA],fin 16 153 (cgs (cO x.T) x.T) ZM (by simp[plF]) (by simp[plX]) ZM⟩
   |(refine⟨trivial,?_⟩;simp only[Aw,hbq,beq_self_eq_true];exact fin _ _ _ ZM (by simp[plF]) (by simp[plX]) ZM))
  simp[L.aDw] at hi
 rintro E ⟨sl,B,n2⟩ hE ⟨cb,m2,r,hkq,_,_,_⟩;have x0:=r.dn (30,6, .bool true) (by simp[plF]) (hE 30 ZM);dsimp only at x0 hkq;refine dZ ?_;refine aM ?_;refine bT ?_;exact aG h' (hle B hkq) ⟨x0,rfl⟩
set_option maxRecDepth 100000 in
set_option maxHeartbeats 8000000 in
theorem u7(H:WI n0 D nxD wb nb tb vo vs P wv lc ot (eK n l n) S Q)(HL:LI l P vs.length k S Q)(HS:Scr P ws vs.length k S Q x)(hv:vs.length=3)(hB:D nb'=some (.arr (.agg 5) [x.v om oN]))(ha:asked.length≤10000)(hk:k≤100)(hle:∀B:Hp,(∀y,y<nxD→B y=D y)→h'.le B):
 lwp Tryz.prog (.seq (.seq (.ops L.aFn) (.block 2 (.loop L.aNi))) (.seq (.draw 31 L.aDw L.aDN) .ret)) (iB [.slot 6] fun v h'' _=>v= .bool true∧h''=h') ⟨aB 167 0 [(7, .ptr wb (.agg 4) 0 0),(9, .ptr nb' (.agg 5) 0 0),(15,cgs oa asked)],D,nxD⟩:=by
 have hb:=H.dom _ _ hB;have hvl:x.Vs.length=3:=HS.vl.trans hv;generalize hP2:aZ.seq (.draw 31 _ _) .ret=P2;simp only[aB,go_sem,reduceIte,jA,jB,jC,jD,reduceCtorEq,jE,jF];have hxv:x.v om oN= .agg [.int .i64 x.P,wys om x.ws,cgs (cO x.T) x.T, .sl .leaf (cO x.Vs) (x.Vs.map vwV), .sl (.agg 3) oN (x.Ns.map DN.v)]:=rfl;rw[hxv] at hB;have hml:(x.Vs.map vwV).length=3:=by rw[jK];exact hvl
 refine aue (e4 hB hb hml hvl) ?_;generalize hC:nW (lwp Tryz.prog _) (iB _ _)=QC
 refine aO (fun i:Nat=>aB 167 0 [(7, .ptr wb (.agg 4) 0 0),(9, .ptr nb' (.agg 5) 0 0),(15,cgs oa asked),(122, .sl .leaf (cO x.Vs) (x.Vs.map vwV)),(123, .int .i64 ((3:Nat):Int)),(124, .int .i64 i)])
  (fun i hp nx1=>i≤3∧nxD≤nx1∧(∀y,y<nxD→hp y=D y)∧aI hp nx1) (fun i=>3-i) 0 ⟨Kz _,ZN,fun _ _=>rfl,H.dom.up ZN⟩ (wkl trivial) ?_
 rintro i hp nx1 ⟨hi,hnx,hsm,hdm⟩;generalize hQ:bH _ _ _ _ _=Q0;simp only[aB,go_sem,reduceIte,jA,jB,jC,jD,reduceCtorEq,jE,jF];have HW:=H.aBB hsm hdm;rcases Nat.lt_or_ge i 3 with hlt|hge;case inr=>
  have hc1:decide ((i:Int)<((3:Nat):Int))=false:=dcf;refine aue hc1 ?_;rw[←hQ];refine au ?_;rw[←hC];refine fT ⟨aB 167 0 [(7, .ptr wb (.agg 4) 0 0),(9, .ptr nb' (.agg 5) 0 0),(15,cgs oa asked)],hp,nx1⟩ (kM (wkl trivial) (Hp.le_refl _) ZN) ?_;rw[←hP2];exact BN HW HL HS hv (by rw[hsm _ hb,hB];rfl) ha hk (fun B hBB=>hle B fun y hy=>by rw[hBB y or];exact hsm y hy)
 have hc1:decide ((i:Int)<((3:Nat):Int))=true:=dct;have hw1:IntKind.i64.wrap ((i:Int)+1)=((i+1:Nat):Int):=wrp;have hi2:i<x.Vs.length:=or;have hg:(x.Vs.map vwV).getD i (.tup [])=cgs (cO (dT (S (i+1)).1)) (dT (S (i+1)).1):=by
  rw[bY vwV _ x.Vs i hi2,HS.vat or hi2];unfold vwV;rw[lM];rfl
 obtain⟨q,c,hw,hq',hl⟩:=HW.q;obtain⟨mv,hmv,hcv⟩:=HW.v i or;refine aue (e4 hc1 hg hml hlt) ?_;refine bN ((Ek hw i or hcv).mono ?_);rintro v M nxM aGC ⟨cb,m2,rfl,q1,q2,hc2,hkM,hdM,_⟩;try dsimp only at aGC q1 q2 hkM
 unfold dM;refine Zn ?_;have C5:=po hc2 (HL.st (i+1)).ok (by have:=(HL.st (i+1)).len;omega) (cO (dT (S (i+1)).1)) oa asked ha;refine aue hw1 ?_;rw[←hQ];exact aD (i+1) or ⟨hlt,ZN,fun y hy=>by rw[hkM y or];exact hsm y hy,hdM.up ZN⟩ (wkl trivial)
end
end Go.Proofs.YtecepaehmojpgaaGreat
