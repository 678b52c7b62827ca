/-
Texts of this proof,one behind the other. No conditions.
-/
import Derived.Test.YtecepaehmojpgaaGreatKd
import Derived.Test.YtecepaehmojpgaaGreatKg
set_option linter.unusedSimpArgs false
set_option linter.unusedVariables false
set_option linter.unusedSectionVars false
open Nat renaming reduceAdd→jA,reduceSub→jB,reduceLT→jC,reduceLeDiff→jD,reduceEqDiff→jE
open Int renaming reduceToNat→jF,toNat_natCast→jG,natCast_add→jH,natCast_one→jI,natCast_zero→jJ
open List renaming length_map→jK,length_cons→jL,length_nil→jM,replicate_succ→jN,replicate_zero→jO,cons_append→jP,nil_append→jQ
namespace Go.Proofs.YtecepaehmojpgaaGreat
open Go.RowKit Go.Sort
attribute [local irreducible] IntKind.wrap
noncomputable def qN(n:Nat)(l:List We)(a:Nat):V:= .sl .leaf .free ((qO n l a).map fun m=>lst (.agg 2) (m.map Pa.v))
theorem aGW(ow:Own)(n:Nat)(l:List We)(a:Nat)(hfit:aAJ n l)(ha:a<n)(hn:n≤200)(hl:l.length≤1000)(h:Hp):
 aZ Tryz.prog 72 [.agg [.int .i64 n,wes ow l], .int .i64 a] h (qN n l a):=by
 refine aU (fun L=>?_) fun h' nx hh=>(rS (G:=fun ls=>ls=(qO n l a).map (List.map Pa.v)) (aGV ow n l a hfit ha hn hl h' nx)).mono ?_
 ·unfold qN
  simp only[V.names,true_and,and_true]
  refine⟨fun n e=>(by cases e),?_⟩
  exact cF (f:=fun m:List Pa=>lst (.agg 2) (m.map Pa.v)) (fun m=>eV (fun L=>cF (Pa.names_v L) m) L) _
 rintro v h'' nx2 hnx ⟨ls,rfl,rfl,rfl⟩
 refine⟨?_,rfl⟩
 simp only[qN,List.map_map]
 rfl
end Go.Proofs.YtecepaehmojpgaaGreat
namespace Go.Proofs.YtecepaehmojpgaaGreat
open Go.RowKit Go.Sort
attribute [local irreducible] IntKind.wrap
noncomputable def cH(n:Nat)(l:List We)(i:Nat):List V:=(List.range i).map (qN n l)
theorem aEb(o:Own){P:Int}{ws:List Wy}{n:Nat}{l:List We}(R:eX P ws n l)(hl:ws.length≤1000)(h':Hp)(nx:Nat):
 aW Tryz.prog 38 [mps o P ws] h' nx fun v h'' _=>∃o2,v= .sl .leaf o2 (cH n l n)∧Acc h'' nx o2 (cH n l n)∧Hp.same nx h' h'':=by
 have hr:jZ P ws=true:=(kY P ws).2 ⟨n,l,R⟩
 have hn:=R.le
 have hmf:(mps o P ws).fits (.agg 2)=true:=by simp[mps,V.fits,V.leafy,wys]
 have hlw:l.length≤1000:=by have:=R.eq;rw[this] at hl;simpa using hl
 have hP:=R.pl
 subst hP
 have hm:mps o n ws= .agg [.int .i64 n,wes o l]:=by rw[R.eq];simp only[mps,wys,wes,List.map_map];rfl
 have hf:∀a',a'<n→∀h,aZ Tryz.prog 72 [mps o n ws, .int .i64 a'] h (qN n l a'):=fun a' ha h=>by rw[hm];exact aGW o n l a' R.fit ha hn hlw h
 refine aD L.path_All_low fun hd=>?_
 simp only[jL,jM,jA,jB,jN,jO,jP,jQ,V.undef]
 have C1:=fun h=>lY o n ws hl h
 refine aue (ee4 hmf hr decide_true decide_false) ?_
 refine aY (fun q:Nat×Own=>aB 21 0 [(1, .ptr nx (.agg 2) 0 0),(3, .sl .leaf q.2 (cH n l q.1)),(9, .int .i64 n),(10, .int .i64 q.1)])
  (fun q hp nx1=>q.1≤n∧nx+1≤nx1∧aM hp nx1∧Hp.same (nx+1) (h'.set nx (.arr (.agg 2) [mps o n ws])) hp∧Acc hp (nx+1) q.2 (cH n l q.1))
  (fun q=>n-q.1) (0, .nil) ⟨Nat.zero_le _,Nat.le_refl _,(by(try dsimp only);repeat (first|exact aM.up hd (by omega)|refine aM.set2 ?_ (by omega) _|refine aM.del ?_|refine aM.delO ?_ _)),Hp.same.rfl',Acc.nil⟩ ?_ ?_
 ·simp only[WkL,aB,jH,jI,jJ,cH,List.range_zero,List.map_nil,go_sem,reduceIte,jA,jB,jC,jD,reduceCtorEq,jE,jF]
 rintro⟨i,oo⟩ hp nx1 ⟨hi,hnx,hdm,hsm,hacc⟩
 generalize hQ:bZ _ _ _ _ _=Q0
 dsimp only at hi hacc
 have c1:hp nx=some (.arr (.agg 2) [mps o n ws]):=by rw[hsm nx (by omega)];simp only[go_sem,reduceIte,jA,jB,jC,jD,reduceCtorEq,jE,jF]
 have hlt0:nx<nx1:=by omega
 have hlen:(cH n l i).length=i:=by simp[cH]
 simp only[aB,go_sem,reduceIte,jA,jB,jC,jD,reduceCtorEq,jE,jF]
 rcases Nat.lt_or_ge i n with hlt|hge
 ·have hc:decide ((i:Int)<(n:Int))=true:=by simpa using hlt
  have hw:IntKind.i64.wrap ((i:Int)+1)=((i+1:Nat):Int):=by rw[bM]<;>omega
  have hnn:cH n l (i+1)=cH n l i++[qN n l i]:=by simp[cH,List.range_succ]
  have hfl:(qN n l i).leafy=true:=rfl
  have C1:=fun h=>hf i hlt h
  refine aue (ee8 c1 hlt0 hc hlt hw hmf hfl hlen) ?_
  rw[←hQ]
  refine aI (i+1, .tok (nx1+1)) (by dsimp only;omega) ⟨hlt,by omega,(by(try dsimp only);repeat (first|exact aM.up hdm (by omega)|refine aM.set2 ?_ (by omega) _|refine aM.del ?_|refine aM.delO ?_ _)),(by(try dsimp only);repeat (first|exact hsm|refine bJ ?_ (by omega) _|refine bO ?_ (by omega)|refine fO ?_ (fun id e=>by have:=(hacc).ge id e;omega))),?_⟩ ?_
  ·dsimp only;rw[hnn];exact Acc.new _ (by simp) (by omega)
  simp only[WkL,aB,jH,jI,jJ,hnn,go_sem,reduceIte,jA,jB,jC,jD,reduceCtorEq,jE,jF]
 have hc:decide ((i:Int)<(n:Int))=false:=by simpa using hge
 refine aue hc ?_
 rw[←hQ]
 refine aue hc ?_
 refine aG hp (Hp.le_refl _) ⟨oo,?_,?_,fun x hx=>by rw[hsm x (by omega)];unfold Hp.set;rw[if_neg (by omega)]⟩
 ·simp only[go_sem,reduceIte,jA,jB,jC,jD,reduceCtorEq,jE,jF]
  rw[show i=n by omega]
 rw[show i=n by omega] at hacc
 rcases hacc with h|⟨h1,id,h2,h3,h4⟩
 ·exact .inl h
 exact .inr ⟨h1,id,by omega,h3,h4⟩
end Go.Proofs.YtecepaehmojpgaaGreat
namespace Go.Proofs.YtecepaehmojpgaaGreat
open Go.RowKit Go.Sort
theorem aKk(S:Nat→Prop):∀n,S n→∃m,S m∧∀k,S k→m≤k:=by
 intro n
 induction n using Nat.strongRecOn with
 |ind n ih=>
  intro hn
  by_cases h:∃k,k<n∧S k
  ·obtain⟨k,h1,h2⟩:=h
   exact ih k h1 h2
  exact⟨n,hn,fun k hk=>Nat.le_of_not_lt fun hlt=>h ⟨k,hlt,hk⟩⟩
theorem rG(ws:List We)(a k:Nat)(b:Bool):(∀p,Val ws a k p→p.n≠b)∨∃q,Val ws a k q∧q.n=b∧∀p,Val ws a k p→p.n=b→q.a≤p.a:=by
 by_cases h:∃p,Val ws a k p∧p.n=b
 ·obtain⟨p,h1,h2⟩:=h
  obtain⟨m,⟨q,hq1,hq2,hq3⟩,hm⟩:=aKk (fun m=>∃q,Val ws a k q∧q.n=b∧q.a.toNat=m) _ ⟨p,h1,h2,rfl⟩
  refine .inr ⟨q,hq1,hq2,fun r hr hrb=>?_⟩
  have:=hm _ ⟨r,hr,hrb,rfl⟩
  have o1:=hr.ok
  have o2:=hq1.ok
  simp only[Pa.ok,Bool.and_eq_true,decide_eq_true_eq] at o1 o2
  omega
 exact .inl fun p hp e=>h ⟨p,hp,e⟩
theorem lI{p q:Pa}(h:p.n=q.n)(h2:p.a≤q.a):p.le q=true:=by
 obtain⟨n,a⟩:=p;obtain⟨m,b⟩:=q
 simp only at h h2
 subst h
 cases n<;>simp[Pa.le,h2]
theorem aIj(ws:List We)(a k:Nat):∃m,gZ ws a k m:=by
 rcases rG ws a k false with hF|⟨f,f1,f2,f3⟩
 ·rcases rG ws a k true with hT|⟨t,t1,t2,t3⟩
  ·refine⟨[],List.Pairwise.nil,(fun p hp=>by cases hp),fun p hp=>?_⟩
   cases e:p.n with
   |false=>exact absurd e (hF p hp)
   |true=>exact absurd e (hT p hp)
  refine⟨[t],by simp[Can],(fun p hp=>by simp at hp;subst hp;exact t1),fun p hp=>⟨t,by simp,?_⟩⟩
  cases e:p.n with
  |false=>exact absurd e (hF p hp)
  |true=>exact lI (t2.trans e.symm) (t3 p hp e)
 rcases rG ws a k true with hT|⟨t,t1,t2,t3⟩
 ·refine⟨[f],by simp[Can],(fun p hp=>by simp at hp;subst hp;exact f1),fun p hp=>⟨f,by simp,?_⟩⟩
  cases e:p.n with
  |true=>exact absurd e (hT p hp)
  |false=>exact lI (f2.trans e.symm) (f3 p hp e)
 by_cases h:t.a≤f.a
 ·refine⟨[t],by simp[Can],(fun p hp=>by simp at hp;subst hp;exact t1),fun p hp=>⟨t,by simp,?_⟩⟩
  cases e:p.n with
  |true=>exact lI (t2.trans e.symm) (t3 p hp e)
  |false=>
   have:=f3 p hp e
   simp[Pa.le,t2,e]
   omega
 refine⟨[f,t],by simp[Can,f2,t2];omega,(fun p hp=>by simp at hp;rcases hp with rfl|rfl<;>assumption),fun p hp=>?_⟩
 cases e:p.n with
 |true=>exact⟨t,by simp,lI (t2.trans e.symm) (t3 p hp e)⟩
 |false=>exact⟨f,by simp,lI (f2.trans e.symm) (f3 p hp e)⟩
theorem lT(ws:List We)(a k:Nat):gZ ws a k (bG ws a k):=by
 obtain⟨m,hm⟩:=aIj ws a k
 rw[mR hm]
 exact hm
def Pa.cat(p q:Pa):Pa:=if q.n=true then q else ⟨p.n,p.a+q.a⟩
theorem Pa.cat_assoc(p q r:Pa):(p.cat q).cat r=p.cat (q.cat r):=by
 obtain⟨n,a⟩:=p;obtain⟨m,b⟩:=q;obtain⟨o,c⟩:=r
 cases m<;>cases o<;>simp[Pa.cat,Int.add_assoc]
theorem Pa.cat_mono{p p':Pa}(q:Pa)(h:p.le p'=true):(p.cat q).le (p'.cat q)=true:=by
 obtain⟨n,a⟩:=p;obtain⟨m,b⟩:=p';obtain⟨o,c⟩:=q
 cases o
 ·cases n<;>cases m<;>simp[Pa.cat,Pa.le] at h⊢<;>omega
 simp[Pa.cat,Pa.le]
theorem Pa.thn_cat{p q r:Pa}(h:p.thn q=some r):r=p.cat q:=by
 unfold Pa.thn at h
 unfold Pa.cat
 split at h
 ·cases h
 split at h
 ·rename_i e;injection h with h;rw[if_pos e,h]
 rename_i e
 split at h
 ·cases h
 injection h with h;rw[if_neg e,h]
def iJ:Pa→List We→Pa
 |p,[]=>p
 |p,w::l=>iJ (p.cat w.p) l
theorem fV:∀(l m:List We) (p:Pa),iJ p (l++m)=iJ (iJ p l) m
 | [],_,_=>rfl
 |w::l,m,p=>fV l m _
theorem aAN:∀(l:List We) {p p':Pa},p.le p'=true→(iJ p l).le (iJ p' l)=true
 | [],_,_,h=>h
 |w::l,_,_,h=>aAN l (Pa.cat_mono w.p h)
theorem aEK(q:Pa):Pa.nought.cat q=q:=by
 obtain⟨o,c⟩:=q
 cases o<;>simp[Pa.cat,Pa.nought]
theorem oF:∀(l:List We) (p:Pa),iJ p l=p.cat (iJ Pa.nought l)
 | [],p=>by simp[iJ,Pa.cat,Pa.nought]
 |w::l,p=>by
  show iJ (p.cat w.p) l=p.cat (iJ (Pa.nought.cat w.p) l)
  rw[aEK,oF l (p.cat w.p),oF l w.p,Pa.cat_assoc]
theorem xM:∀(l:List We) {p q:Pa},run p l=some q→iJ p l=q
 | [],p,q,h=>by have h:some p=some q:=h;injection h
 |w::l,p,q,h=>by
  have h:((p.thn w.p).bind fun q=>run q l)=some q:=h
  cases e:p.thn w.p with
  |none=>rw[e] at h;cases h
  |some r=>rw[e] at h;have:=xM l h;show iJ (p.cat w.p) l=q;rw[←Pa.thn_cat e];exact this
theorem aFz:∀(l:List We) (p:Pa),(∀w∈l,w.p.n=false∧0≤w.p.a)→p.le (iJ p l)=true
 | [],p,_=>Pa.le_refl p
 |w::l,p,h=>by
  refine Pa.le_trans ?_ (aFz l (p.cat w.p) fun v hv=>h v (by simp[hv]))
  have:=h w (by simp)
  obtain⟨n,a⟩:=p
  cases n<;>simp[Pa.cat,Pa.le,this.1]<;>omega
def adds(l:List We):Int:=(l.map fun w=>w.p.a).sum
theorem iH(w:We)(l:List We):adds (w::l)=w.p.a+adds l:=by simp[adds]
theorem pG:∀{ws:List We},(∀w∈ws,0≤w.p.a)→0≤adds ws
 | [],_=>Int.le_refl _
 |v::ws,h=>by
  have h1:=h v (by simp)
  have h2:=pG fun w hw=>h w (List.mem_cons_of_mem v hw)
  rw[iH]
  omega
theorem aAS:∀(l:List We) (p:Pa),p.ok=true→(∀w∈l,w.p.ok=true)→p.a+adds l≤1048576→run p l=some (iJ p l)
 | [],p,_,_,_=>rfl
 |w::l,p,hp,hw,hs=>by
  have hwo:=hw w (by simp)
  have hl0:0≤adds l:=pG fun v hv=>by
   have:=hw v (by simp[hv])
   simp only[Pa.ok,Bool.and_eq_true,decide_eq_true_eq] at this
   exact this.1
  rw[iH] at hs
  have hpo:=hp
  have hwo':=hwo
  simp only[Pa.ok,Bool.and_eq_true,decide_eq_true_eq] at hpo hwo'
  have key:p.thn w.p=some (p.cat w.p)∧(p.cat w.p).ok=true∧(p.cat w.p).a+adds l≤1048576:=by
   unfold Pa.thn Pa.cat
   rw[hp,hwo]
   by_cases e:w.p.n=true
   ·rw[if_neg (by simp),if_pos e,if_pos e]
    exact⟨rfl,hwo,by omega⟩
   have ho:Pa.ok ⟨p.n,p.a+w.p.a⟩=true:=by
    simp only[Pa.ok,Bool.and_eq_true,decide_eq_true_eq];omega
   rw[if_neg (by simp),if_neg e,if_neg e,ho]
   exact⟨by simp,rfl,by simp only;omega⟩
  show((p.thn w.p).bind fun q=>run q l)=some (iJ (p.cat w.p) l)
  rw[key.1]
  exact aAS l _ key.2.1 (fun v hv=>hw v (by simp[hv])) key.2.2
theorem aHO{ws:List We}(ht:aCw ws){a k:Nat}{l:List We}(h:fM ws a l k)(hnd:¬(gI a l).Nodup):
 ∃x c y b,l=x++(c++y)∧fM ws a x b∧fM ws b y k∧c≠ []∧(∀w∈c,w.p.n=false)∧∀w∈c,w∈ws:=by
 have:∃i j,∃hi:i<(gI a l).length,∃hj:j<(gI a l).length,i<j∧(gI a l)[i]=(gI a l)[j]:=by
  refine Classical.byContradiction fun hno=>hnd (List.pairwise_iff_getElem.2 fun i j hi hj hij e=>hno ⟨i,j,hi,hj,hij,e⟩)
 obtain⟨i,j,hi,hj,hij,e⟩:=this
 have hjl:j≤l.length:=by rw[aAP] at hj;omega
 obtain⟨a1,b1⟩:=xK h i hi
 obtain⟨a2,b2⟩:=xK h j hj
 have el:l=l.take i++((l.drop i).take (j-i)++l.drop j):=by
  have e1:l.drop j=(l.drop i).drop (j-i):=by rw[List.drop_drop];congr 1;omega
  rw[e1,List.take_append_drop,List.take_append_drop]
 have hc:fM ws (gI a l)[i] ((l.drop i).take (j-i)) (gI a l)[i]:=by
  have ej:l.take j=l.take i++(l.drop i).take (j-i):=by
   rw[←List.take_add];congr 1;omega
  rw[ej] at a2
  obtain⟨x,q1,q2⟩:=fM.split a2
  have:x=(gI a l)[i]:=by
   have uniq:∀{m:List We} {u v v':Nat},fM ws u m v→fM ws u m v'→v=v':=by
    intro m
    induction m with
    |nil=>intro u v v' h h';exact(show u=v from h).symm.trans h'
    |cons w m ih=>intro u v v' h h';exact ih h.2.2 h'.2.2
   exact uniq q1 a1
  rw[this,←e] at q2
  exact q2
 have hnn:∀w∈(l.drop i).take (j-i),w.p.n=false∧w∈ws:=by
  intro w hwm
  obtain⟨u,v,huv⟩:=List.append_of_mem hwm
  rw[huv] at hc
  obtain⟨x,q1,q2⟩:=fM.split hc
  obtain⟨h1,h2,h3⟩:=q2
  refine⟨?_,h1⟩
  cases hn:w.p.n with
  |false=>rfl
  |true=>
   refine absurd ?_ (ht w h1 hn)
   rcases(h3.append q1).plus with h|h
   ·exact .inl (by rw[h,h2])
   exact .inr (by rw[h2];exact h)
 refine⟨_,_,_,_,el,a1,?_,?_,fun w hw=>(hnn w hw).1,fun w hw=>(hnn w hw).2⟩
 ·rw[e];exact b2
 intro hnil
 have:=congrArg List.length hnil
 simp at this
 omega
theorem aEL{ws:List We}{n:Nat}(hfit:aAJ n ws)(ht:aCw ws){a k:Nat}:∀(r:Nat) (l:List We),l.length≤r→fM ws a l k→∃m,fM ws a m k∧(gI a m).Nodup∧(iJ Pa.nought m).le (iJ Pa.nought l)=true:=by
 intro r
 induction r with
 |zero=>
  intro l hl h
  have:l=[]:=List.length_eq_zero_iff.1 (by omega)
  subst this
  exact⟨[],h,by simp[gI],Pa.le_refl _⟩
 |succ r ih=>
  intro l hl h
  by_cases hnd:(gI a l).Nodup
  ·exact⟨l,h,hnd,Pa.le_refl _⟩
  obtain⟨x,c,y,b,e,h1,h2,h3,h4,h5⟩:=aHO ht h hnd
  have hcl:0<c.length:=List.length_pos_iff.2 h3
  obtain⟨m,k1,k2,k3⟩:=ih (x++y) (by rw[e] at hl;simp at hl⊢;omega) (h1.append h2)
  refine⟨m,k1,k2,Pa.le_trans k3 ?_⟩
  rw[e,fV,fV,fV]
  refine aAN y (aFz c _ fun w hw=>⟨h4 w hw,?_⟩)
  have:=(hfit w (h5 w hw)).2.2
  simp only[Pa.ok,Bool.and_eq_true,decide_eq_true_eq] at this
  exact this.1
theorem aCI{ws:List We}:∀{l:List We} {a k:Nat},fM ws a l k→gI a l=l.map (·.f)++[k]
 | [],a,k,h=>by have h:a=k:=h;subst h;rfl
 |w::l,a,k,⟨h1,h2,h3⟩=>by
  show a::gI w.t l=w.f::(l.map (·.f)++[k])
  rw[aCI h3,h2]
theorem rU{ws:List We}:∀{l:List We} {a k:Nat},fM ws a l k→∀w∈l,w∈ws
 | [],_,_,_,w,hw=>by cases hw
 |v::l,_,_,⟨h1,_,h3⟩,w,hw=>by
  rcases List.mem_cons.1 hw with rfl|hw
  ·exact h1
  exact rU h3 w hw
theorem aAa:∀{ws:List We} {w:We},w∈ws→adds ws=w.p.a+adds (ws.erase w)
 |v::ws,w,h=>by
  by_cases e:v=w
  ·subst e;rw[iH];simp
  have hw:w∈ws:=by
   rcases List.mem_cons.1 h with h|h
   ·exact absurd h.symm e
   exact h
  rw[List.erase_cons_tail (by simpa using e),iH,iH,aAa hw]
  omega
theorem aEe:∀{m ws:List We},m.Nodup→(∀w∈m,w∈ws)→(∀w∈ws,0≤w.p.a)→adds m≤adds ws
 | [],ws,_,_,h=>pG h
 |w::m,ws,hn,hs,h=>by
  obtain⟨h1,h2⟩:=List.nodup_cons.1 hn
  have hw:=hs w (by simp)
  rw[iH,aAa hw]
  have:=aEe (ws:=ws.erase w) h2 (fun v hv=>(List.mem_erase_of_ne (by rintro rfl;exact h1 hv)).2 (hs v (by simp[hv]))) fun v hv=>h v (List.mem_of_mem_erase hv)
  omega
theorem aDS(ws:List Wy):cB (cB ws)=cB ws:=
 Inc.unique Wy.ord (zW _) (zW _) fun x=>by rw[nS]
theorem aDb(P:Int)(ws:List Wy):eE P (cB ws)=eE P ws:=by
 have e:(∃w∈cB ws,w.fit P=false)↔∃w∈ws,w.fit P=false:=by simp only[nS]
 unfold eE
 rw[aDS]
 simp only[e]
theorem aEM{P:Int}{ws:List Wy}(h:(eE P ws).2=0):(eE P ws).1=(P,cB ws):=by
 unfold eE at h⊢
 split at h
 ·cases h
 rename_i h1
 split at h
 ·cases h
 rename_i h2
 split at h
 ·cases h
 rename_i h3
 rw[if_neg h1,if_neg h2,if_neg h3]
theorem aDa{P:Int}{ws:List Wy}(h:(eE P ws).2=0):∃n l,eX P (cB ws) n l:=by
 refine(kY P (cB ws)).1 ?_
 unfold jZ
 rw[decide_eq_true_eq,aDb]
 exact⟨h,by rw[aEM h]⟩
theorem aHm(l:List We):eN (l.map We.wy)=adds l:=by
 unfold eN adds
 rw[List.map_map]
 rfl
theorem eX.adds{P:Int}{ws:List Wy}{n:Nat}{l:List We}(R:eX P ws n l):Proofs.YtecepaehmojpgaaGreat.adds l≤1048576:=by
 have:=R.sum
 rw[R.eq,aHm] at this
 exact this
end Go.Proofs.YtecepaehmojpgaaGreat
namespace Go.Proofs.YtecepaehmojpgaaGreat
open Go.Proofs.YtecepaehmojpgaaGreat renaming gW→uA,fK→uB,cU→uC,cV→uD,cK→uE,gX→uF,dI→uG,cW→uH,cX→uI,cL→uJ,dH→uK,dN→uL,fL→uM,gY→uN,eG→uO,bQ→uP,kN→uQ,iP→uR,eU→uS
open Go.RowKit Go.Sort
attribute [local irreducible] IntKind.wrap
theorem aIc(n:Int)(h:Hp):aZ Tryz.prog 25 [dO n] h (.int .i64 n):=by
 refine aU (fun L=>trivial) fun h' nx hh=>aD L.corollarynum_Num_low fun hd=>?_
 simp only[jL,jM,jA,jB,jN,jO,jP,jQ,V.undef]
 by_cases hn:n=0
 ·subst hn
  refine aue aKq ?_
  refine aG h' (by repeat (first|exact Hp.le_refl _|refine aJ hd ?_ (by omega) _|refine aK hd ?_ (by omega))) ⟨?_,rfl⟩
  simp only[go_sem,reduceIte,jA,jB,jC,jD,reduceCtorEq,jE,jF]
 have e:dO n= .iface 64 (.int .i64 n):=by unfold dO;rw[if_neg hn]
 have e2:(n != 0)=true:=by simpa using hn
 refine aue (ee2 e e2) ?_
 refine aG h' (by repeat (first|exact Hp.le_refl _|refine aJ hd ?_ (by omega) _|refine aK hd ?_ (by omega))) ⟨?_,rfl⟩
 simp only[go_sem,reduceIte,jA,jB,jC,jD,reduceCtorEq,jE,jF]
def uX(P:Int)(ws:List Wy):Bool:=(decide (14<P)&&decide (P≤200))||decide (40<(ws.length:Int))
theorem aEX(o:Own)(P:Int)(ws:List Wy)(h:Hp):aZ Tryz.prog 13 [mps o P ws] h (.bool (uX P ws)):=by
 have hmf:(mps o P ws).fits (.agg 2)=true:=by simp[mps,V.fits,V.leafy,wys]
 refine aU (fun L=>trivial) fun h' nx hh=>aD L.corollarylaw22_Large_low fun hd=>?_
 simp only[jL,jM,jA,jB,jN,jO,jP,jQ,V.undef]
 unfold uX
 cases h1:decide (14<P)<;>cases h2:decide (P≤200)
 all_goals ((repeat' (first|(with_reducible first|refine stp ?_|refine uP (by decide) ?_|refine uQ (fun _=>?_) (fun _=>?_))|((first|(with_reducible refine uA ?_;first|refine uB rfl ?_ ?_|(first|refine uC rfl ?_|refine uD rfl ?_)|refine uE rfl ?_)|(with_reducible refine uF ?_;first|refine uG rfl ?_ ?_|(first|refine uH rfl ?_|refine uI rfl ?_)|refine uJ rfl ?_|refine uK (uL ?_)|refine uK (uM ?_))|(with_reducible refine uN ?_;refine uO rfl ?_))<;>try simp only[hmf,h1,h2,jK,go_sem,reduceIte,jA,jB,jC,jD,reduceCtorEq,jE,jF])|(with_reducible refine uR ?_;refine uS rfl ?_)|omega)))
 all_goals refine aG h' (by repeat (first|exact Hp.le_refl _|refine aJ hd ?_ (by omega) _|refine aK hd ?_ (by omega))) ⟨?_,rfl⟩
 all_goals simp only[jK,Bool.false_or,Bool.true_or,go_sem,reduceIte,jA,jB,jC,jD,reduceCtorEq,jE,jF]
theorem aGK{P:Int}{ws:List Wy}(h:uX P ws=false):ws.length≤40:=by
 unfold uX at h
 rw[Bool.or_eq_false_iff] at h
 have:=of_decide_eq_false h.2
 omega
end Go.Proofs.YtecepaehmojpgaaGreat
