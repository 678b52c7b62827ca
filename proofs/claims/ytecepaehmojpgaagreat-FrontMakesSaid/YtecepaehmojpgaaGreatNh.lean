/-
Texts of this proof,one behind the other. No conditions.
-/
import Derived.Test.YtecepaehmojpgaaGreatNd
import Derived.Test.YtecepaehmojpgaaGreatNg
import Derived.Test.YtecepaehmojpgaaGreatNe
import Derived.Test.YtecepaehmojpgaaGreatNdb
open Go.Proofs.YtecepaehmojpgaaGreat.Hp renaming le_refl→Ka,same→Kc
open List renaming getElem?_eq_getElem→Kb,getD_eq_getElem?_getD→Kd,take_of_length_le→Kh,map_map→Ki,range→Kj,range_succ→Ko,map_congr_left→Kq,ext_getElem→Kv,filter_cons→Kw,length_drop→Kx,length_take→Ky,map_append→Kz,mem_filter→KC,mem_range→KD,map_nil→KH,take→KI
open Go.IntKind renaming i64→Ke,wrap→Kg
open Bool renaming and_eq_true→Kf,or_eq_false_iff→Kp,or_eq_true→KB,true_and→KG
open Option renaming getD_some→Kk,isSome_some→Ks
open Nat renaming lt_or_ge→Km,zero_le→Kt,le_refl→Ku,reduceAdd→KE,reduceSub→KF
set_option linter.unusedSimpArgs false
set_option linter.unusedVariables false
set_option linter.unusedSectionVars false
set_option maxHeartbeats 8000000
open Nat renaming reduceAdd→jA,reduceSub→jB,reduceLT→jC,reduceLeDiff→jD,reduceEqDiff→jE
open Int renaming reduceToNat→jF,natCast_add→jH,natCast_one→jI,natCast_zero→jJ
open List renaming length_map→jK,length_cons→jL,length_nil→jM,replicate_succ→jN,replicate_zero→jO,cons_append→jP,nil_append→jQ
namespace Go.Proofs.YtecepaehmojpgaaGreat
open Go.RowKit Go.Sort
attribute [local irreducible] Kg
noncomputable def lL(n:Nat)(l:List We)(a:Nat):V:= .sl .leaf .free ((iY n l a).map fun m=>lst (.agg 2) (m.map Pa.v))
theorem sM(n:Nat)(l:List We)(a:Nat):(iY n l a).length=n:=by simp[iY]
theorem j1(ow:Own)(n:Nat)(l:List We)(a:Nat)(aAH:xI n l)(ha:a<n)(hn:n≤200)(hl:l.length≤1000)(h:Hp):
 aX Tryz.prog 72 [.agg [.int .i64 n,wes ow l], .int .i64 a] h (lL n l a):=by
 refine aP (fun L=>?_) fun h' nx hh=>(mZ (G:=fun ls=>ls=(iY n l a).map (List.map Pa.v)) (AA ow n l a aAH ha hn hl h' nx)).mono ?_
 ·unfold lL;simp only[V.names,true_and,and_true];refine⟨fun n e=>(by cases e),?_⟩;exact bE (f:=fun m:List Pa=>lst (.agg 2) (m.map Pa.v)) (fun m=>cP (fun L=>bE (Pa.aAM L) m) L) _
 rintro v h'' nx2 hnx ⟨ls,rfl,rfl,rfl⟩;refine⟨?_,rfl⟩;simp only[lL,Ki];rfl
theorem wo(o:Own){P:Int}{ws:List Wy}{n:Nat}{l:List We}(R:nB P ws n l)(hl:ws.length≤1000)(a b:Int)(h:Hp):
 aX Tryz.prog 52 [mps o P ws, .int .i64 a, .int .i64 b] h (if 0≤a∧a<n∧0≤b∧b<n then lst (.agg 2) ((dB l a.toNat b.toNat).map Pa.v) else .sl (.agg 2) .nil []):=by
 have hr:eK P ws=true:=(jX P ws).2 ⟨n,l,R⟩;have hP:=R.pl;have hn:=R.le;have hmf:(mps o P ws).fits (.agg 2)=true:=by simp[mps,V.fits,V.aAD,wys]
 have aAJ:(mps o P ws).cell 0= .int .i64 P:=rfl;have hlw:l.length≤1000:=by have:=R.eq;rw[this] at hl;simpa using hl
 refine aP (fun L=>?_) fun h' nx hh=>aD L.aTT fun hd=>?_
 ·split
  ·exact cP (fun L=>bE (Pa.aAM L) _) L
  simp[V.names,bP]
 simp only[List.length_cons,List.length_nil,KE,KF,List.replicate_succ,List.replicate_zero,List.cons_append,List.nil_append,V.undef];have out:∀(hn':¬(0≤a∧a<n∧0≤b∧b<n)) (sl:List V) (nx2:Nat),sl.getD 6 V.undef= .sl (.agg 2) .nil []→iU [rS.slot 6] (fun v' h'' x=>(v'=if 0≤a∧a<n∧0≤b∧b<n then lst (.agg 2) ((dB l a.toNat b.toNat).map Pa.v) else .sl (.agg 2) .nil [])∧h''=h') cK.ret ⟨sl,h'.set nx (.arr (.agg 2) [mps o P ws]),nx2⟩:=fun hn' sl nx2 e=>by
  refine aG h' (by repeat (first|exact Ka _|refine aH hd ?_ or _|refine aL hd ?_ or)) ⟨by rw[if_neg hn'];exact e,rfl⟩
 subst hP;by_cases h1:a<0
 ·have C1:=fun h=>dS o n ws hl h;refine aue (ee6 hmf aAJ hr h1 decide_true decide_false) ?_;exact out or _ _ rfl
 by_cases h2:a≥n
 ·have C1:=fun h=>dS o n ws hl h;refine aue (ee7 hmf aAJ hr h1 h2 decide_true decide_false) ?_;exact out or _ _ rfl
 by_cases h3:b<0
 ·have C1:=fun h=>dS o n ws hl h;refine aue (ee8 hmf aAJ hr h1 h2 h3 decide_true decide_false) ?_;exact out or _ _ rfl
 by_cases h4:b≥n
 ·have C1:=fun h=>dS o n ws hl h;refine aue (ee9 hmf aAJ hr h1 h2 h3 h4 decide_true decide_false) ?_;exact out or _ _ rfl
 obtain⟨a',rfl⟩:∃a':Nat,a=a':=⟨a.toNat,or⟩;obtain⟨b',rfl⟩:∃b':Nat,b=b':=⟨b.toNat,or⟩;have hm:mps o n ws= .agg [.int .i64 n,wes o l]:=by rw[R.eq];simp only[mps,wys,wes,Ki];rfl
 have hf:∀h,aX Tryz.prog 72 [mps o n ws, .int .i64 a'] h (lL n l a'):=fun h=>by rw[hm];exact j1 o n l a' R.fit or hn hlw h
 have hbn:b'<(iY n l a').length:=by rw[sM];omega
 have hgd:((iY n l a').map fun m:List Pa=>lst (.agg 2) (m.map Pa.v)).getD b' (.tup [])=lst (.agg 2) ((dB l a' b').map Pa.v):=by
  rw[bI _ _ _ hbn];simp[iY]
 have hll:(lst (.agg 2) ((dB l a' b').map Pa.v)).aAD=true:=by unfold lst;split<;>rfl
 have hb':((b':Int)<(n:Int))=True:=eq_true or;have hb0:((0:Int)≤(b':Int))=True:=eq_true or;have C1:=fun h=>dS o n ws hl h;have C2:=fun h=>hf h;refine aue (xg hmf aAJ hr h1 h2 h3 h4 lL.eq_1 hgd hll hb' hb0 sM and_self decide_true decide_false) ?_;refine aG h' (by repeat (first|exact Ka _|refine aH hd ?_ or _|refine aL hd ?_ or)) ⟨?_,rfl⟩;rw[if_pos or];simp only[Int.toNat_natCast,go_sem,reduceIte,KE,KF,Nat.reduceLT,Nat.reduceLeDiff,reduceCtorEq,Nat.reduceEqDiff,Int.reduceToNat]
end Go.Proofs.YtecepaehmojpgaaGreat
namespace Go.Proofs.YtecepaehmojpgaaGreat
open Go.RowKit Go.Sort
attribute [local irreducible] Kg
noncomputable def iR(n:Nat)(l:List We)(i:Nat):List V:=(Kj i).map (lL n l)
theorem ue(o:Own){P:Int}{ws:List Wy}{n:Nat}{l:List We}(R:nB P ws n l)(hl:ws.length≤1000)(h':Hp)(nx:Nat):
 bD Tryz.prog 38 [mps o P ws] h' nx fun v h'' _=>∃o2,v= .sl .leaf o2 (iR n l n)∧Acc h'' nx o2 (iR n l n)∧Kc nx h' h'':=by
 have hr:eK P ws=true:=(jX P ws).2 ⟨n,l,R⟩;have hn:=R.le;have hmf:(mps o P ws).fits (.agg 2)=true:=by simp[mps,V.fits,V.aAD,wys]
 have hlw:l.length≤1000:=by have:=R.eq;rw[this] at hl;simpa using hl
 have hP:=R.pl;subst hP;have hm:mps o n ws= .agg [.int .i64 n,wes o l]:=by rw[R.eq];simp only[mps,wys,wes,Ki];rfl
 have hf:∀a',a'<n→∀h,aX Tryz.prog 72 [mps o n ws, .int .i64 a'] h (lL n l a'):=fun a' ha h=>by rw[hm];exact j1 o n l a' R.fit ha hn hlw h
 refine aD L.aV5 fun hd=>?_;simp only[jL,jM,jA,jB,jN,jO,jP,jQ,V.undef];have C1:=fun h=>dS o n ws hl h;refine aue (ee4 hmf hr decide_true decide_false) ?_
 refine aT (fun q:Nat×Own=>aB 21 0 [(1, .ptr nx (.agg 2) 0 0),(3, .sl .leaf q.2 (iR n l q.1)),(9, .int .i64 n),(10, .int .i64 q.1)])
  (fun q hp nx1=>q.1≤n∧nx+1≤nx1∧aK hp nx1∧Kc (nx+1) (h'.set nx (.arr (.agg 2) [mps o n ws])) hp∧Acc hp (nx+1) q.2 (iR n l q.1))
  (fun q=>n-q.1) (0, .nil) ⟨Kt _,Ku _,(by(try dsimp only);repeat (first|exact aK.up hd or|refine aK.aAh ?_ or _|refine aK.del ?_|refine aK.aAb ?_ _)),Hp.same.aBI,Acc.nil⟩ ?_ ?_
 ·simp only[WkL,aB,jH,jI,jJ,iR,List.range_zero,KH,go_sem,reduceIte,jA,jB,jC,jD,reduceCtorEq,jE,jF]
 rintro⟨i,oo⟩ hp nx1 ⟨hi,hnx,hdm,hsm,aAl⟩;generalize hQ:bO _ _ _ _ _=Q0;dsimp only at hi aAl;have c1:hp nx=some (.arr (.agg 2) [mps o n ws]):=by rw[hsm nx or];simp only[go_sem,reduceIte,jA,jB,jC,jD,reduceCtorEq,jE,jF]
 have aF4:nx<nx1:=or;have hlen:(iR n l i).length=i:=by simp[iR]
 simp only[aB,go_sem,reduceIte,jA,jB,jC,jD,reduceCtorEq,jE,jF];rcases Km i n with hlt|hge
 ·have hc:decide ((i:Int)<(n:Int))=true:=by simpa using hlt
  have hw:IntKind.i64.wrap ((i:Int)+1)=((i+1:Nat):Int):=by rw[aY]<;>omega
  have hnn:iR n l (i+1)=iR n l i++[lL n l i]:=by simp[iR,Ko]
  have hfl:(lL n l i).aAD=true:=rfl;have C1:=fun h=>hf i hlt h;refine aue (ee8 c1 aF4 hc hlt hw hmf hfl hlen) ?_;rw[←hQ];refine aF (i+1, .tok (nx1+1)) Zw ⟨hlt,or,(by(try dsimp only);repeat (first|exact aK.up hdm or|refine aK.aAh ?_ or _|refine aK.del ?_|refine aK.aAb ?_ _)),(by(try dsimp only);repeat (first|exact hsm|refine aV ?_ or _|refine aW ?_ or|refine eY ?_ (fun id e=>by have:=(aAl).ge id e;omega))),?_⟩ ?_
  ·dsimp only;rw[hnn];exact Acc.new _ Zm or
  simp only[WkL,aB,jH,jI,jJ,hnn,go_sem,reduceIte,jA,jB,jC,jD,reduceCtorEq,jE,jF]
 have hc:decide ((i:Int)<(n:Int))=false:=by simpa using hge
 refine aue hc ?_;rw[←hQ];refine aue hc ?_;refine aG hp (Ka _) ⟨oo,?_,?_,fun x hx=>by rw[hsm x or];unfold Hp.set;rw[if_neg or]⟩
 ·refine Zn ?_;rw[show i=n by omega]
 rw[show i=n by omega] at aAl;rcases aAl with h|⟨h1,id,h2,h3,h4⟩
 ·exact .inl h
 exact .inr ⟨h1,id,or,h3,h4⟩
end Go.Proofs.YtecepaehmojpgaaGreat
namespace Go.Proofs.YtecepaehmojpgaaGreat
open Go.RowKit Go.Sort
theorem Bz(S:Nat→Prop):∀n,S n→∃m,S m∧∀k,S k→m≤k:=by
 intro n;induction n using Nat.strongRecOn with
 |ind n ih=>
  intro hn;by_cases h:∃k,k<n∧S k
  ·obtain⟨k,h1,h2⟩:=h;exact ih k h1 h2
  exact⟨n,hn,fun k hk=>Nat.le_of_not_lt fun hlt=>h ⟨k,hlt,hk⟩⟩
theorem tX(ws:List We)(a k:Nat)(b:Bool):(∀p,Val ws a k p→p.n≠b)∨∃q,Val ws a k q∧q.n=b∧∀p,Val ws a k p→p.n=b→q.a≤p.a:=by
 by_cases h:∃p,Val ws a k p∧p.n=b
 ·obtain⟨p,h1,h2⟩:=h;obtain⟨m,⟨q,hq1,hq2,hq3⟩,hm⟩:=Bz (fun m=>∃q,Val ws a k q∧q.n=b∧q.a.toNat=m) _ ⟨p,h1,h2,rfl⟩;refine .inr ⟨q,hq1,hq2,fun r hr hrb=>?_⟩;have:=hm _ ⟨r,hr,hrb,rfl⟩;have o1:=hr.ok;have o2:=hq1.ok;simp only[Pa.ok,Kf,decide_eq_true_eq] at o1 o2;omega
 exact .inl fun p hp e=>h ⟨p,hp,e⟩
theorem kB{p q:Pa}(h:p.n=q.n)(h2:p.a≤q.a):p.le q=true:=by
 obtain⟨n,a⟩:=p;obtain⟨m,b⟩:=q;simp only at h h2;subst h;cases n<;>simp[Pa.le,h2]
theorem BB(ws:List We)(a k:Nat):∃m,iL ws a k m:=by
 rcases tX ws a k false with hF|⟨f,f1,f2,f3⟩
 ·rcases tX ws a k true with hT|⟨t,t1,t2,t3⟩
  ·refine⟨[],List.Pairwise.nil,(fun p hp=>by cases hp),fun p hp=>?_⟩;cases e:p.n with
   |false=>exact absurd e (hF p hp)
   |true=>exact absurd e (hT p hp)
  refine⟨[t],by simp[Can],(fun p hp=>by simp at hp;subst hp;exact t1),fun p hp=>⟨t,Zm,?_⟩⟩;cases e:p.n with
  |false=>exact absurd e (hF p hp)
  |true=>exact kB (t2.trans e.symm) (t3 p hp e)
 rcases tX ws a k true with hT|⟨t,t1,t2,t3⟩
 ·refine⟨[f],by simp[Can],(fun p hp=>by simp at hp;subst hp;exact f1),fun p hp=>⟨f,Zm,?_⟩⟩;cases e:p.n with
  |true=>exact absurd e (hT p hp)
  |false=>exact kB (f2.trans e.symm) (f3 p hp e)
 by_cases h:t.a≤f.a
 ·refine⟨[t],by simp[Can],(fun p hp=>by simp at hp;subst hp;exact t1),fun p hp=>⟨t,Zm,?_⟩⟩;cases e:p.n with
  |true=>exact kB (t2.trans e.symm) (t3 p hp e)
  |false=>
   have:=f3 p hp e;simp[Pa.le,t2,e];omega
 refine⟨[f,t],by simp[Can,f2,t2];omega,(fun p hp=>by simp at hp;rcases hp with rfl|rfl<;>assumption),fun p hp=>?_⟩;cases e:p.n with
 |true=>exact⟨t,Zm,kB (t2.trans e.symm) (t3 p hp e)⟩
 |false=>exact⟨f,Zm,kB (f2.trans e.symm) (f3 p hp e)⟩
theorem rt(ws:List We)(a k:Nat):iL ws a k (dB ws a k):=by
 obtain⟨m,hm⟩:=BB ws a k;rw[oJ hm];exact hm
def Pa.cat(p q:Pa):Pa:=if q.n=true then q else ⟨p.n,p.a+q.a⟩
def DM:Pa→List We→Pa
 |p,[]=>p
 |p,w::l=>DM (p.cat w.p) l
def aAL(l:List We):Int:=(l.map fun w=>w.p.a).sum
theorem oy{ws:List We}:∀{l:List We} {a k:Nat},iK ws a l k→∀w∈l,w∈ws
 | [],_,_,_,w,hw=>by cases hw
 |v::l,_,_,⟨h1,_,h3⟩,w,hw=>by
  rcases List.mem_cons.1 hw with rfl|hw
  ·exact h1
  exact oy h3 w hw
theorem t8(ws:List Wy):bZ (bZ ws)=bZ ws:=
 Inc.unique Wy.ord (fw _) (fw _) fun x=>by rw[mW]
theorem rc(P:Int)(ws:List Wy):cM P (bZ ws)=cM P ws:=by
 have e:(∃w∈bZ ws,w.fit P=false)↔∃w∈ws,w.fit P=false:=by simp only[mW]
 unfold cM;rw[t8];simp only[e]
theorem wa{P:Int}{ws:List Wy}(h:(cM P ws).2=0):(cM P ws).1=(P,bZ ws):=by
 unfold cM at h⊢;split at h
 ·cases h
 rename_i h1;split at h
 ·cases h
 rename_i h2;split at h
 ·cases h
 rename_i h3;rw[if_neg h1,if_neg h2,if_neg h3]
theorem rb{P:Int}{ws:List Wy}(h:(cM P ws).2=0):∃n l,nB P (bZ ws) n l:=by
 refine(jX P (bZ ws)).1 ?_;unfold eK;rw[decide_eq_true_eq,rc];exact⟨h,by rw[wa h]⟩
theorem AR(l:List We):eW (l.map We.wy)=aAL l:=by
 unfold eW aAL;rw[Ki];rfl
end Go.Proofs.YtecepaehmojpgaaGreat
namespace Go.Proofs.YtecepaehmojpgaaGreat
open Go.RowKit Go.Sort
attribute [local irreducible] Kg
theorem Ao(o:Own){P:Int}{ws:List Wy}(hr:eK P ws=false)(hl:ws.length≤1000)(a b:Int)(h:Hp):
 aX Tryz.prog 52 [mps o P ws, .int .i64 a, .int .i64 b] h (.sl (.agg 2) .nil []):=by
 have hmf:(mps o P ws).fits (.agg 2)=true:=by simp[mps,V.fits,V.aAD,wys]
 refine aP (fun L=>by simp[V.names,bP]) fun h' nx hh=>aD L.aTT fun hd=>?_;simp only[jL,jM,jA,jB,jN,jO,jP,jQ,V.undef];have C1:=fun h=>dS o P ws hl h;refine aue (ee4 hmf hr decide_true decide_false) ?_;refine aG h' (by repeat (first|exact Ka _|refine aH hd ?_ or _|refine aL hd ?_ or)) ⟨?_,rfl⟩;simp only[go_sem,reduceIte,jA,jB,jC,jD,reduceCtorEq,jE,jF]
noncomputable def dL(P:Int)(ws:List Wy)(a b:Int):List Pa:=if eK P ws=true∧0≤a∧a<P∧0≤b∧b<P then dB (ws.map Wy.we) a.toNat b.toNat else []
theorem aFu(l:List We):(l.map We.wy).map Wy.we=l:=by
 rw[Ki];have:l.map (Wy.we∘We.wy)=l.map id:=Kq fun w _=>by obtain⟨f,t,p⟩:=w;simp[We.wy,Wy.we]
 rw[this,List.map_id]
theorem yW(o:Own)(P:Int)(ws:List Wy)(hl:ws.length≤1000)(a b:Int)(h:Hp):
 aX Tryz.prog 52 [mps o P ws, .int .i64 a, .int .i64 b] h (lst (.agg 2) ((dL P ws a b).map Pa.v)):=by
 unfold dL;cases hr:eK P ws with
 |false=>
  rw[if_neg Zm];exact Ao o hr hl a b h
 |true=>
  obtain⟨n,l,R⟩:=(jX P ws).1 hr;have:=wo o R hl a b h;have e1:ws.map Wy.we=l:=by rw[R.eq,aFu]
  have e2:=R.pl;rw[e1,e2];rw[e2] at this;by_cases hc:0≤a∧a<(n:Int)∧0≤b∧b<(n:Int)
  ·rw[if_pos hc] at this;rw[if_pos ⟨rfl,hc⟩];exact this
  rw[if_neg hc] at this;rw[if_neg (fun h=>hc h.2)];exact this
theorem wp(P:Int)(ws:List Wy)(a b:Int):Can (dL P ws a b):=by
 unfold dL;split
 ·exact(rt _ _ _).can
 exact List.Pairwise.nil
theorem qx(n:Int)(h:Hp):aX Tryz.prog 25 [eF n] h (.int .i64 n):=by
 refine aP (fun L=>trivial) fun h' nx hh=>aD L.aWF fun hd=>?_;simp only[jL,jM,jA,jB,jN,jO,jP,jQ,V.undef];by_cases hn:n=0
 ·subst hn;refine aue Dx ?_;refine aG h' (by repeat (first|exact Ka _|refine aH hd ?_ or _|refine aL hd ?_ or)) ⟨?_,rfl⟩;simp only[go_sem,reduceIte,jA,jB,jC,jD,reduceCtorEq,jE,jF]
 have e:eF n= .iface 64 (.int .i64 n):=by unfold eF;rw[if_neg hn]
 have e2:(n != 0)=true:=by simpa using hn
 refine aue (ee2 e e2) ?_;refine aG h' (by repeat (first|exact Ka _|refine aH hd ?_ or _|refine aL hd ?_ or)) ⟨?_,rfl⟩;simp only[go_sem,reduceIte,jA,jB,jC,jD,reduceCtorEq,jE,jF]
def m9(P:Int)(ws:List Wy):Bool:=(decide (14<P)&&decide (P≤200))||decide (40<(ws.length:Int))
theorem wr(o:Own)(P:Int)(ws:List Wy)(h:Hp):aX Tryz.prog 13 [mps o P ws] h (.bool (m9 P ws)):=by
 have hmf:(mps o P ws).fits (.agg 2)=true:=by simp[mps,V.fits,V.aAD,wys]
 refine aP (fun L=>trivial) fun h' nx hh=>aD L.g5z fun hd=>?_;simp only[jL,jM,jA,jB,jN,jO,jP,jQ,V.undef];unfold m9;cases h1:decide (14<P)<;>cases h2:decide (P≤200);all_goals ((repeat' (first|(with_reducible first|refine stp ?_|refine bG ZM ?_|refine iI (fun _=>?_) (fun _=>?_))|((first|(with_reducible refine fO ?_;first|refine eH rfl ?_ ?_|refine Zx ?_)|(with_reducible refine fP ?_;first|refine bY rfl ?_ ?_|refine ZX ?_)|refine Zy ?_)<;>try simp only[hmf,h1,h2,jK,go_sem,reduceIte,jA,jB,jC,jD,reduceCtorEq,jE,jF])|refine ZY ?_|omega)))
 all_goals refine aG h' (by repeat (first|exact Ka _|refine aH hd ?_ or _|refine aL hd ?_ or)) ⟨?_,rfl⟩
 all_goals simp only[jK,Bool.false_or,Bool.true_or,go_sem,reduceIte,jA,jB,jC,jD,reduceCtorEq,jE,jF]
end Go.Proofs.YtecepaehmojpgaaGreat
namespace Go.Proofs.YtecepaehmojpgaaGreat
open Go.RowKit Go.Sort
attribute [local irreducible] Kg
set_option maxRecDepth 100000 in
theorem zk(o:Own)(l:List Wy)(hl:l.length≤100000)(h:Hp):aX Tryz.prog 48 [wys o l] h (lst (.agg 4) (l.map Wy.v)):=by
 refine dI (fun L=>cP (fun L=>bE (Wy.aAM L) _) L) fun h' nx hh=>aD L.aVy fun hd=>?_;simp only[jL,jM,jA,jB,jN,jO,jP,jQ,V.undef];refine aue trivial ?_
 refine aT (fun q:Nat×Own=>aB 25 0 [(3,wys q.2 (l.take q.1)),(6,wys o l),(7, .int .i64 l.length),(8, .int .i64 q.1)])
  (fun q hp nx1=>q.1≤l.length∧nx≤nx1∧aK hp nx1∧Kc nx h' hp∧Acc hp nx q.2 ((l.take q.1).map Wy.v))
  (fun q=>l.length-q.1) (0, .nil) ⟨Kt _,Ku _,hd,Hp.same.aBI,Acc.nil⟩ ?_ ?_
 ·simp only[WkL,aB,jH,jI,jJ,wys,List.take_zero,KH,go_sem,reduceIte,jA,jB,jC,jD,reduceCtorEq,jE,jF]
 rintro⟨i,oo⟩ hp nx1 ⟨hi,hnx,hdm,hsm,aAl⟩;generalize hQ:bO _ _ _ _ _=Q0;dsimp only at hi aAl;simp only[aB,go_sem,reduceIte,jA,jB,jC,jD,reduceCtorEq,jE,jF];rcases Km i l.length with hlt|hge
 ·have hc:decide ((i:Int)<(l.length:Int))=true:=decide_eq_true or;have hg:(l.map Wy.v).getD i (.tup [])= .agg [.int .i64 l[i].f, .int .i64 l[i].t, .bool l[i].p.n, .int .i64 l[i].p.a]:=bI Wy.v l i hlt;have hw:IntKind.i64.wrap ((i:Int)+1)=((i+1:Nat):Int):=by rw[aY]<;>omega
  have htk:(l.take (i+1)).map Wy.v=(l.take i).map Wy.v++[.agg [.int .i64 l[i].f, .int .i64 l[i].t, .bool l[i].p.n, .int .i64 l[i].p.a]]:=by
   rw[List.take_succ_eq_append_getElem hlt,Kz];rfl
  have hlen:((l.take i).map Wy.v).length=i:=by simp;omega
  have hb1:(i+1)*32≤140737488355328:=or;have hrp:∀h,aX Tryz.prog 79 [.agg [.bool l[i].p.n, .int .i64 l[i].p.a]] h (.agg [.bool l[i].p.n, .int .i64 l[i].p.a]):=fun h=>u7 l[i].p h;rcases aAl with⟨he,rfl⟩|⟨hne,id,hid,rfl,aBm⟩
  ·have hi0:i=0:=by rw[he] at hlen;simpa using hlen.symm
   have D1:=fun h=>hrp h;refine aue (ee5 hc hg hlt hw he) ?_;rw[←hQ];refine aF (i+1, .tok (nx1+12)) Zw ⟨hlt,or,(by(try dsimp only);repeat (first|exact aK.up hdm or|refine aK.aAh ?_ or _|refine aK.del ?_|refine aK.aAb ?_ _)),(by(try dsimp only);repeat (first|exact hsm|refine aV ?_ or _|refine aW ?_ or)),?_⟩ ?_
   ·dsimp only;rw[htk];exact Acc.new _ Zm or
   simp only[WkL,aB,jH,jI,jJ,wys,htk,he,go_sem,reduceIte,jA,jB,jC,jD,reduceCtorEq,jE,jF]
  have aC1:id<nx1:=hdm id _ aBm;have e1:(id=nx1)=False:=eq_false or;have ca:kG ((hp.set nx1 (Blk.arr (Sh.agg 4) [V.agg [V.int Ke 0,V.int Ke 0,V.bool false,V.int Ke 0]])).set nx1 (Blk.arr (Sh.agg 4) [V.agg [V.int Ke l[i].f,V.int Ke l[i].t,V.bool l[i].p.n,V.int Ke l[i].p.a]])) (nx1+2) [0,1,2,3,4,5,6,7,8,9] [none,none,none,none,none,none,none,none,none,some Blk.tip] [none,none,none,none,none,none,none,none,none,none] id Blk.tip:=
   ⟨by simp[cU], .inl ⟨or,by simp only[aBm,e1,go_sem,reduceIte,jA,jB,jC,jD,reduceCtorEq,jE,jF]⟩⟩
  have D1:=fun h=>hrp h;refine aue (ee9 hc hg hlt hw hlen aBm aC1 hb1 ca) ?_;rw[←hQ];refine aF (i+1, .tok (nx1+12)) Zw ⟨hlt,or,(by(try dsimp only);repeat (first|exact aK.up hdm or|refine aK.aAh ?_ or _|refine aK.del ?_|refine aK.aAb ?_ _)),(by(try dsimp only);repeat (first|exact hsm|refine aV ?_ or _|refine aW ?_ or)),?_⟩ ?_
  ·dsimp only;rw[htk];exact(Acc.new _ Zm or).del (fun e=>by injection e;omega)
  simp only[WkL,aB,jH,jI,jJ,wys,htk,go_sem,reduceIte,jA,jB,jC,jD,reduceCtorEq,jE,jF]
 have hc:decide ((i:Int)<(l.length:Int))=false:=decide_eq_false or;refine aue hc ?_;rw[←hQ];refine au ?_;have htl:l.take i=l:=Kh or;rw[htl] at aAl;refine aG h' (hsm.le hd (Ka _)) ⟨?_,Ka _⟩;simp only[htl,go_sem,reduceIte,jA,jB,jC,jD,reduceCtorEq,jE,jF];rw[aAl.loose];rfl
theorem ar(o:Own)(P:Int)(ws:List Wy)(hl:ws.length≤100000)(h:Hp):aX Tryz.prog 14 [mps o P ws] h (tV P ws):=by
 refine aP (fun L=>tU P ws L) fun h' nx hh=>aD L.g6z fun hd=>?_;have hmf:(mps o P ws).fits (.agg 2)=true:=by simp[mps,V.fits,V.aAD,wys]
 simp only[jL,jM,jA,jB,jN,jO,jP,jQ,V.undef];unfold tV;obtain⟨o2,ho2⟩:=mQ (.agg 4) (ws.map Wy.v);have aGn:(V.agg [.int .i64 P,wys o2 ws]).fits (.agg 2)=true:=by simp[V.fits,V.aAD]
 rw[ho2];have hwp:∀h,aX Tryz.prog 48 [wys o ws] h (wys o2 ws):=fun h=>by
  have e:=zk o ws hl h;rw[ho2] at e;exact e
 have D1:=fun h=>hwp h;refine aue (ee2 hmf aGn) ?_;refine vS (by simp only[go_sem,reduceIte,jA,jB,jC,jD,reduceCtorEq,jE,jF]) h' (by repeat (first|exact Ka _|refine aH hd ?_ or _|refine aL hd ?_ or)) ⟨?_,rfl⟩;simp only[go_sem,reduceIte,jA,jB,jC,jD,reduceCtorEq,jE,jF]
end Go.Proofs.YtecepaehmojpgaaGreat
namespace Go.Proofs.YtecepaehmojpgaaGreat
open Go.RowKit Go.Sort
def upd(T:Nat→Nat→Bool)(i j:Nat)(b:Bool):Nat→Nat→Bool:=fun x y=>if x=i∧y=j then b else T x y
def Wsh(E:Nat→Nat→Prop)(n k i j:Nat)(T:Nat→Nat→Bool):Prop:=∀x y,x<n→y<n→(T x y=true↔if x<i∨(x=i∧y<j) then Via E (k+1) x y else Via E k x y)
section
variable{E:Nat→Nat→Prop}{n k i j:Nat}{T:Nat→Nat→Bool}
theorem Wsh.first(h:∀x y,x<n→y<n→(T x y=true↔E x y)):Wsh E n 0 0 0 T:=fun x y hx hy=>by
 rw[if_neg or];exact h x y hx hy
theorem Wsh.aI7(W:Wsh E n k i n T):Wsh E n k (i+1) 0 T:=fun x y hx hy=>by
 rw[W x y hx hy];by_cases e:x<i∨(x=i∧y<n)
 ·rw[if_pos e,if_pos or]
 rw[if_neg e,if_neg or]
theorem Cn(x k':Nat):Via E (k'+1) x k'↔Via E k' x k':=by
 constructor
 ·rintro(h|⟨h,_⟩)<;>exact h
 exact .inl
theorem Cm(y k':Nat):Via E (k'+1) k' y↔Via E k' k' y:=by
 constructor
 ·rintro(h|⟨_,h⟩)<;>exact h
 exact .inl
theorem Wsh.col(W:Wsh E n k i j T)(hk:k<n)(x:Nat)(hx:x<n):T x k=true↔Via E k x k:=by
 rw[W x k hx hk];split
 ·exact Cn x k
 exact Iff.rfl
theorem Wsh.row(W:Wsh E n k i j T)(hk:k<n)(y:Nat)(hy:y<n):T k y=true↔Via E k k y:=by
 rw[W k y hk hy];split
 ·exact Cm y k
 exact Iff.rfl
theorem Wsh.no(W:Wsh E n k i j T)(hk:k<n)(hi:i<n)(h:T i k=false):Wsh E n k (i+1) 0 T:=fun x y hx hy=>by
 have hn:¬Via E k i k:=fun hv=>by rw[(W.col hk i hi).2 hv] at h;cases h
 rw[W x y hx hy];by_cases e:x=i
 ·subst e;have he:Via E (k+1) x y↔Via E k x y:=⟨fun hv=>hv.elim id fun hv=>absurd hv.1 hn, .inl⟩;rw[if_pos (show x<x+1∨_ from .inl or)];split
  ·exact Iff.rfl
  exact he.symm
 by_cases e2:x<i
 ·rw[if_pos (.inl e2),if_pos (.inl or)]
 rw[if_neg or,if_neg or]
theorem Wsh.step(W:Wsh E n k i j T)(hk:k<n)(hi:i<n)(hj:j<n)(h:T i k=true):Wsh E n k i (j+1) (upd T i j (T i j||T k j)):=fun x y hx hy=>by
 have hv:=(W.col hk i hi).1 h;by_cases e:x=i∧y=j
 ·obtain⟨rfl,rfl⟩:=e;have h1:=W x y hx hy;rw[if_neg or] at h1;have h2:=W.row hk y hy;rw[if_pos (.inr ⟨rfl,or⟩)];unfold upd;rw[if_pos ⟨rfl,rfl⟩,KB,h1,h2];constructor
  ·rintro(h|h)
   ·exact .inl h
   exact .inr ⟨hv,h⟩
  rintro(h|h)
  ·exact .inl h
  exact .inr h.2
 unfold upd;rw[if_neg e,W x y hx hy];by_cases e2:x<i∨(x=i∧y<j)
 ·rw[if_pos e2,if_pos or]
 rw[if_neg e2,if_neg or]
theorem Wsh.next(W:Wsh E n k n 0 T):Wsh E n (k+1) 0 0 T:=fun x y hx hy=>by
 rw[W x y hx hy,if_pos (.inl hx),if_neg or]
theorem Wsh.done(W:Wsh E n n 0 0 T)(hE:∀i j,E i j→i<n∧j<n)(x y:Nat)(hx:x<n)(hy:y<n):T x y=true↔fF E x y:=by
 rw[W x y hx hy,if_neg or];exact Via.iff hE x y
end
def fL{α:Type}(n:Nat)(f:Nat→α):List α:=(Kj n).map f
theorem fA{α:Type}(n:Nat)(f:Nat→α):(fL n f).length=n:=by simp[fL]
theorem xO{n i:Nat}(f:Nat→V)(h:i<n):(fL n f).getD i (.tup [])=f i:=by
 unfold fL;rw[Kd,Kb (by simpa using h)];simp
theorem qO{α:Type}{n i:Nat}(f:Nat→α)(v:α):(fL n f).set i v=fL n fun x=>if x=i then v else f x:=by
 refine Kv (by simp[fL]) fun j h1 h2=>?_;rw[List.getElem_set];simp only[fL,List.getElem_map,List.getElem_range];by_cases e:i=j
 ·simp[e]
 have:¬j=i:=fun h=>e h.symm;simp[e,this]
theorem mG{α:Type}(n:Nat)(v:α):List.replicate n v=fL n fun _=>v:=by
 refine Kv (by simp[fL]) fun j h1 h2=>?_;simp[fL]
theorem jW{α:Type}{n:Nat}{f g:Nat→α}(h:∀i,i<n→f i=g i):fL n f=fL n g:=by
 unfold fL;exact Kq fun i hi=>h i (by simpa using hi)
def gP(l:List Pa)(i:Nat):Pa:=l.getD i Pa.aAO
def xu(l:List Pa)(i k:Nat):Bool:=(gP l k).le (gP l i)&&(decide (gP l k≠gP l i)||decide (k<i))
def nL(l:List Pa)(i m:Nat):Bool:= !((Kj m).any (xu l i))
def oK(l:List Pa)(i:Nat):Bool:=nL l i l.length
theorem wu(l:List Pa)(i:Nat):nL l i 0=true:=rfl
theorem ww(l:List Pa)(i m:Nat):nL l i (m+1)=(nL l i m&& !(xu l i m)):=by
 simp[nL,Ko,List.any_append]
def sOf(b:Bool)(l:List Pa)(i:Nat):List Pa:=((Kj i).filter fun j=>oK l j&&(gP l j).n==b).map (gP l)
theorem Bl(b:Bool)(l:List Pa):sOf b l 0=[]:=rfl
theorem px(b:Bool)(l:List Pa)(i:Nat):sOf b l (i+1)=sOf b l i++(if (oK l i&&(gP l i).n==b)=true then [gP l i] else []):=by
 unfold sOf;rw[Ko,List.filter_append,Kz];congr 1;split
 ·rename_i h;rw[Kw,if_pos h];rfl
 rename_i h;rw[Kw,if_neg h];rfl
def nP(l:List Pa):List Pa:=sOf false l l.length++sOf true l l.length
theorem yc(b:Bool)(l:List Pa)(i:Nat):(sOf b l i).length≤i:=by
 unfold sOf;rw[List.length_map];exact Nat.le_trans (List.length_filter_le _ _) Zm
theorem w9{l:List Pa}{i:Nat}(h:i<l.length):gP l i∈l:=by
 unfold gP;rw[Kd,Kb h];exact List.getElem_mem _
theorem yF(l:List Pa)(i:Nat):oK l i=true↔∀k,k<l.length→xu l i k=false:=by
 unfold oK nL;simp
theorem yE{l:List Pa}{i j:Nat}(hi:i<l.length)(hj:j<l.length)(ki:oK l i=true)(kj:oK l j=true)(hij:i≠j):(gP l i).le (gP l j)=false:=by
 cases e:(gP l i).le (gP l j) with
 |false=>rfl
 |true=>
  have h1:=(yF l j).1 kj i hi;have h2:=(yF l i).1 ki j hj;unfold xu at h1 h2;rw[e,KG,Kp] at h1;have h3:gP l i=gP l j:=by
   have:=of_decide_eq_false h1.1;exact Classical.byContradiction this
  have h4:=of_decide_eq_false h1.2;rw[h3,Pa.le_refl,KG,Kp] at h2;have:=of_decide_eq_false h2.2;omega
theorem BE{l:List Pa}{i j:Nat}(hi:i<l.length)(hj:j<l.length)(ki:oK l i=true)(kj:oK l j=true)(hn:(gP l i).n=(gP l j).n):i=j:=by
 refine Classical.byContradiction fun hij=>?_;rcases Int.le_total (gP l i).a (gP l j).a with h|h
 ·have:=kB hn h;rw[yE hi hj ki kj hij] at this;cases this
 have:=kB hn.symm h;rw[yE hj hi kj ki (fun e=>hij e.symm)] at this;cases this
theorem vP{b:Bool}{l:List Pa}{x:Pa}:x∈sOf b l l.length↔∃i,i<l.length∧oK l i=true∧(gP l i).n=b∧gP l i=x:=by
 unfold sOf;simp only[List.mem_map,KC,KD,Kf,beq_iff_eq];constructor
 ·rintro⟨i,⟨h1,h2,h3⟩,h4⟩;exact⟨i,h1,h2,h3,h4⟩
 rintro⟨i,h1,h2,h3,h4⟩;exact⟨i,⟨h1,h2,h3⟩,h4⟩
theorem py(b:Bool)(l:List Pa)(R:Pa→Pa→Prop):(sOf b l l.length).Pairwise R:=by
 unfold sOf;rw[List.pairwise_map];have h1:((Kj l.length).filter fun j=>oK l j&&(gP l j).n==b).Pairwise (·< ·):=(List.pairwise_lt_range).filter _;refine h1.imp_of_mem fun{i j} hi hj hlt=>?_;simp only[KC,KD,Kf,beq_iff_eq] at hi hj;have:=BE hi.1 hj.1 hi.2.1 hj.2.1 (hi.2.2.trans hj.2.2.symm);omega
theorem pt{l:List Pa}(h0:∀p∈l,0≤p.a):Ch l (nP l):=by
 refine⟨List.pairwise_append.2 ⟨py _ _ _,py _ _ _,fun x hx y hy=>?_⟩,fun p hp=>?_,fun p hp=>?_⟩
 ·obtain⟨i,hi,ki,ni,rfl⟩:=vP.1 hx;obtain⟨j,hj,kj,nj,rfl⟩:=vP.1 hy;refine⟨ni,nj,?_⟩;have:=yE hj hi kj ki (fun e=>by subst e;rw[ni] at nj;cases nj);simp[Pa.le,nj] at this;exact this
 ·rcases List.mem_append.1 hp with hp|hp<;>obtain⟨i,hi,_,_,rfl⟩:=vP.1 hp<;>exact w9 hi
 obtain⟨i0,hi0,e0⟩:=List.getElem_of_mem hp;have eg:gP l i0=p:=by
  unfold gP;rw[Kd,Kb hi0];exact e0
 let M:Pa→Nat:=fun q=>2*q.a.toNat+(if q.n=true then 0 else 1)
 obtain⟨m,⟨i,hi,hle,rfl⟩,aTC⟩:=Bz (fun m=>∃i,i<l.length∧(gP l i).le p=true∧M (gP l i)*(l.length+1)+i=m) _ ⟨i0,hi0,by rw[eg];exact Pa.le_refl p,rfl⟩;have kp:oK l i=true:=by
  refine(yF l i).2 fun k hk=>?_;cases eb:xu l i k with
  |false=>rfl
  |true=>
   exfalso;unfold xu at eb;rw[Kf,KB,decide_eq_true_eq,decide_eq_true_eq] at eb;obtain⟨h1,h2⟩:=eb;have h3:=aTC _ ⟨k,hk,Pa.le_trans h1 hle,rfl⟩;by_cases e:gP l k=gP l i
   ·rw[e] at h3;rcases h2 with h2|h2
    ·exact h2 e
    omega
   have a1:=h0 _ (w9 hk);have a2:=h0 _ (w9 hi);have hM:M (gP l k)+1≤M (gP l i):=by
    simp only[M];revert h1 e a1 a2;generalize gP l k=q;generalize gP l i=r;obtain⟨n,a⟩:=q;obtain⟨o,c⟩:=r;intro h1 e a1 a2;cases n<;>cases o<;>simp[Pa.le] at*<;>omega
   have:=Nat.mul_le_mul_right (l.length+1) hM;rw[Nat.add_mul] at this;omega
 refine⟨gP l i,?_,hle⟩;cases en:(gP l i).n with
 |false=>exact List.mem_append_left _ (vP.2 ⟨i,hi,kp,en,rfl⟩)
 |true=>exact List.mem_append_right _ (vP.2 ⟨i,hi,kp,en,rfl⟩)
end Go.Proofs.YtecepaehmojpgaaGreat
namespace Go.Proofs.YtecepaehmojpgaaGreat
open Go.RowKit Go.Sort
attribute [local irreducible] Kg
theorem iG(p q:Pa)(h:Hp):aX Tryz.prog 155 [p.v,q.v] h (.bool (p.le q)):=by
 refine aP (fun L=>trivial) fun h' nx hh=>aD L.aUP fun hd=>?_;obtain⟨n,a⟩:=p;obtain⟨m,b⟩:=q;simp only[jL,jM,jA,jB,jN,jO,jP,jQ,V.undef];cases n<;>cases m<;>(repeat' (first|(with_reducible first|refine stp ?_|refine bG ZM ?_|refine iI (fun _=>?_) (fun _=>?_))|((first|(with_reducible refine fO ?_;first|refine eH rfl ?_ ?_|refine Zx ?_)|(with_reducible refine fP ?_;first|refine bY rfl ?_ ?_|refine ZX ?_)|refine Zy ?_)<;>try simp only[Pa.v,go_sem,reduceIte,jA,jB,jC,jD,reduceCtorEq,jE,jF])|refine ZY ?_|omega))
 all_goals refine aG h' (by repeat (first|exact Ka _|refine aH hd ?_ or _|refine aL hd ?_ or)) ⟨?_,rfl⟩
 all_goals simp[Pa.le]
theorem Do{n m:Bool}{a b:Int}(h1:Pa.ok ⟨n,a⟩=true)(h2:Pa.ok ⟨m,b⟩=true):Pa.ok ⟨n,a+b⟩=decide (a+b≤1048576):=by
 simp only[Pa.ok,Kf,decide_eq_true_eq] at h1 h2⊢;by_cases e:a+b≤1048576
 ·simp[e];omega
 simp[e]
theorem qa(p q:Pa)(h:Hp):aX Tryz.prog 143 [p.v,q.v] h (.tup [(p.then q).1.v, .int .i64 (p.then q).2]):=by
 refine aP (fun L=>by simp[V.names,bP,Pa.v]) fun h' nx hh=>aD L.aUR fun hd=>?_;obtain⟨n,a⟩:=p;obtain⟨m,b⟩:=q;have hw:=i5 ⟨n,a⟩ ⟨m,b⟩;simp only[jL,jM,jA,jB,jN,jO,jP,jQ,V.undef]
 (repeat' (first|(with_reducible first|refine stp ?_|refine bG ZM ?_|refine iI (fun _=>?_) (fun _=>?_))|((first|(with_reducible refine fO ?_;first|refine eH rfl ?_ ?_|refine aQ (jT ⟨_,_⟩ _) rfl (aU _) ?_|refine Zx ?_)|(with_reducible refine fP ?_;first|refine bY rfl ?_ ?_|refine ZX ?_)|refine Zy ?_)<;>try simp only[Pa.v,go_sem,reduceIte,jA,jB,jC,jD,reduceCtorEq,jE,jF])|refine ZY ?_|omega))
 all_goals refine cI (by simp only[go_sem,reduceIte,jA,jB,jC,jD,reduceCtorEq,jE,jF]) h' (by repeat (first|exact Ka _|refine aH hd ?_ or _|refine aL hd ?_ or)) ⟨?_,rfl⟩
 all_goals simp only[go_sem,reduceIte,jA,jB,jC,jD,reduceCtorEq,jE,jF]
 all_goals cases hp:Pa.ok ⟨n,a⟩<;>cases ht:Pa.ok ⟨m,b⟩<;>(try have aIp:=Do hp ht)<;>simp_all [Pa.then,Pa.aAO]
theorem jt(p q:Wy)(h:Hp):aX Tryz.prog 142 [p.v,q.v] h (.bool (p.less q)):=by
 refine aP (fun L=>trivial) fun h' nx hh=>aD L.aUS fun hd=>?_;obtain⟨f,t,n,a⟩:=p;obtain⟨f',t',m,b⟩:=q;simp only[jL,jM,jA,jB,jN,jO,jP,jQ,V.undef];cases n<;>cases m<;>(repeat' (first|(with_reducible first|refine stp ?_|refine bG ZM ?_|refine iI (fun _=>?_) (fun _=>?_))|((first|(with_reducible refine fO ?_;first|refine eH rfl ?_ ?_|refine Zx ?_)|(with_reducible refine fP ?_;first|refine bY rfl ?_ ?_|refine ZX ?_)|refine Zy ?_)<;>try simp only[Wy.v,go_sem,reduceIte,jA,jB,jC,jD,reduceCtorEq,jE,jF])|refine ZY ?_|omega))
 all_goals refine aG h' (by repeat (first|exact Ka _|refine aH hd ?_ or _|refine aL hd ?_ or)) ⟨?_,rfl⟩
 all_goals simp only[Wy.less,num,go_sem,reduceIte,jA,jB,jC,jD,reduceCtorEq,jE,jF]
 all_goals simp_all
 all_goals omega
theorem fk{h0:Hp}{x a d c:Nat}{aAP:List Nat}{aAL:List (Option Blk)}{cons:List (Option Con)}{b:Blk}(e:c=a+d)(hd:d∈aAP)(ha:aAL.getD d none=some b)(hu:cU (x+c) cons):kG h0 (x+a) aAP aAL cons (x+c) b:=⟨hu, .inr ⟨d,hd,or,ha⟩⟩
theorem zx(o:Own)(l:List Wy)(w:Wy)(hl:l.length≤100000)(h':Hp)(nx:Nat):
 bD Tryz.prog 114 [wys o l,w.v] h' nx fun v h'' nx2=>(v=wys o (nU Wy.less l w)∧h''=h'∧l≠ [])∨(∃id,nx≤id∧id<nx2∧v=wys (.tok id) (nU Wy.less l w)∧h''=h'.set id .tip):=by
 refine aD L.aU0 fun hd=>?_;simp only[jL,jM,jA,jB,jN,jO,jP,jQ,V.undef]
 (repeat' (first|(with_reducible first|refine stp ?_|refine bG ZM ?_|refine iI (fun _=>?_) (fun _=>?_))|((first|(with_reducible refine fO ?_;first|refine eH rfl ?_ ?_|refine Zx ?_)|(with_reducible refine fP ?_;first|refine bY rfl ?_ ?_|refine ZX ?_)|refine Zy ?_)<;>try simp only[Wy.aAC w,go_sem,reduceIte,jA,jB,jC,jD,reduceCtorEq,jE,jF])|refine ZY ?_|omega))
 refine aT (fun i:Nat=>aB 45 0 [(0,wys o l),(3, .ptr nx (.agg 4) 0 0),(5, .int .i64 i)])
  (fun i hp nx1=>i≤l.length∧nx+1≤nx1∧aK hp nx1∧hp=h'.set nx (.arr (.agg 4) [w.v])∧∀j (hj:j<i) (hj':j<l.length),l[j].less w=true)
  (fun i=>l.length-i) 0 ⟨Kt _,Ku _,(by(try dsimp only);repeat (first|exact aK.up hd or|refine aK.aAh ?_ or _|refine aK.del ?_|refine aK.aAb ?_ _)),rfl,fun j hj=>absurd hj or⟩ ?_ ?_
 ·simp only[WkL,aB,jH,jI,jJ,wys,go_sem,reduceIte,jA,jB,jC,jD,reduceCtorEq,jE,jF]
 rintro i hp nx1 ⟨hi,hnx,hdm,rfl,aNZ⟩;generalize hQ:bO _ _ _ _ _=Q0;have aF4:nx<nx1:=or;have hta:((l.map Wy.v).take i).length=i:=by simp;omega
 have htb:((l.map Wy.v).take i++[w.v]).length=i+1:=by simp;omega
 have hb1:(i+1)*32≤140737488355328:=or;have ca1:∀H,kG H (nx1+24) [0,1,2,3,4,5,6] [some Blk.tip,none,none,none,some Blk.tip,none,some Blk.tip] [none,none,none,none,some {n:=nx1+24,old:=Blk.tip,new:=none},none,none] (nx1+28) Blk.tip:=fun H=>fk (d:=4) rfl ZM rfl ⟨Zm,trivial⟩;have ca2:∀H,kG H (nx1+24) [0,1,2,3,4,5,6,7,8,9,10] [some Blk.tip,none,none,none,some Blk.tip,none,some Blk.tip,some Blk.tip,none,none,none] [none,none,none,none,some {n:=nx1+24,old:=Blk.tip,new:=none},none,none,some {n:=nx1+28,old:=Blk.tip,new:=none},none,none,none] (nx1+31) Blk.tip:=fun H=>fk (d:=7) rfl ZM rfl ⟨Zm,Zm,trivial⟩;simp only[aB,go_sem,reduceIte,jA,jB,jC,jD,reduceCtorEq,jE,jF];rcases Km i l.length with hlt|hge
 ·have hc:decide ((i:Int)<(l.length:Int))=true:=by simpa using hlt
  have hg:=bI Wy.v l i hlt;have hw:IntKind.i64.wrap ((i:Int)+1)=((i+1:Nat):Int):=by rw[aY]<;>omega
  cases hls:l[i].less w with
  |true=>
   (repeat' (first|(with_reducible first|refine stp ?_|refine bG ZM ?_|refine iI (fun _=>?_) (fun _=>?_))|((first|(with_reducible refine fO ?_;first|refine eH rfl ?_ ?_|refine Zx ?_)|(with_reducible refine fP ?_;first|refine bY rfl ?_ ?_|refine bJ (jt l[i] w _) rfl (bK _) ?_|refine ZX ?_)|refine Zy ?_)<;>try simp only[hc,hg,hlt,hw,hls,aF4,Wy.aAC,jK,go_sem,reduceIte,jA,jB,jC,jD,reduceCtorEq,jE,jF])|refine ZY ?_|omega))
   rw[←hQ];refine aF (i+1) or ⟨hlt,or,(by(try dsimp only);repeat (first|exact aK.up hdm or|refine aK.aAh ?_ or _|refine aK.del ?_|refine aK.aAb ?_ _)),rfl,fun j hj hj'=>?_⟩ ?_
   ·rcases Km j i with h|h
    ·exact aNZ j h hj'
    have:j=i:=or;subst this;exact hls
   simp only[WkL,aB,jH,jI,jJ,wys,go_sem,reduceIte,jA,jB,jC,jD,reduceCtorEq,jE,jF]
  |false=>
   have aIs:=yx (lt:=Wy.less) (w:=w) i hi aNZ (fun _=>hls)
   (repeat' (first|(with_reducible first|refine stp ?_|refine bG ZM ?_|refine iI (fun _=>?_) (fun _=>?_))|((first|(with_reducible refine fO ?_;first|refine eH rfl ?_ ?_|refine Zx ?_)|(with_reducible refine fP ?_;first|refine bY rfl ?_ ?_|refine bJ (jt l[i] w _) rfl (bK _) ?_|refine ZX ?_)|refine Zy ?_)<;>try simp only[hc,hg,hlt,hw,hls,aF4,Wy.aAC,jK,go_sem,reduceIte,jA,jB,jC,jD,reduceCtorEq,jE,jF])|refine ZY ?_|omega))
   rw[←hQ]
   (repeat' (first|(with_reducible first|refine stp ?_|refine bG ZM ?_|refine iI (fun _=>?_) (fun _=>?_))|((first|(with_reducible refine fO ?_;first|refine eH rfl ?_ ?_|refine Zx ?_)|(with_reducible refine fP ?_;first|refine bY rfl ?_ ?_|refine ZX ?_)|refine Zy ?_)<;>try simp only[hc,hg,hlt,hw,hls,aF4,Wy.aAC,xM,Ks,Kk,hta,htb,hb1,ca1,ca2,Kx,Ky,true_and,and_true,jK,go_sem,reduceIte,jA,jB,jC,jD,reduceCtorEq,jE,jF])|refine ZY ?_|omega))
   ·rename_i hx;refine aG h' (by repeat (first|exact Ka _|refine aH hd ?_ or _|refine aL hd ?_ or)) (.inl ⟨?_,rfl,fun e=>by rw[e] at hlt;simp at hlt⟩);refine Zn ?_;rw[aIs,if_pos (by rw[Kb hlt,of_decide_eq_true hx])]
   rename_i hx;refine aG (h'.set (nx1+35) .tip) ?_ (.inr ⟨nx1+35,or,Zw,?_,rfl⟩)
   ·intro x b hx;by_cases e:x=nx1+35
    ·subst e;simp only[go_sem,reduceIte,jA,jB,jC,jD,reduceCtorEq,jE,jF] at hx⊢;exact hx
    have hx':h' x=some b:=by unfold Hp.set at hx;rwa [if_neg e] at hx
    have:=hd x b hx';have e1:(x=nx)=False:=eq_false or;have e2:(x=nx1+24)=False:=eq_false or;have e3:(x=nx1+28)=False:=eq_false or;have e4:(x=nx1+30)=False:=eq_false or;have e5:(x=nx1+31)=False:=eq_false or;simp only[e,e1,e2,e3,e4,e5,go_sem,reduceIte,jA,jB,jC,jD,reduceCtorEq,jE,jF];exact hx'
   refine Zn ?_;rw[aIs,if_neg (by rw[Kb hlt];intro e;injection e with e;exact of_decide_eq_false hx e)];have htl:KI l.length (l.map Wy.v)=l.map Wy.v:=Kh Zm;simp[htl]
 have hc:decide ((i:Int)<(l.length:Int))=false:=by simpa using hge
 have aIs:=yx (lt:=Wy.less) (w:=w) i hi aNZ (fun h=>absurd h or)
 (repeat' (first|(with_reducible first|refine stp ?_|refine bG ZM ?_|refine iI (fun _=>?_) (fun _=>?_))|((first|(with_reducible refine fO ?_;first|refine eH rfl ?_ ?_|refine Zx ?_)|(with_reducible refine fP ?_;first|refine bY rfl ?_ ?_|refine ZX ?_)|refine Zy ?_)<;>try simp only[hc,jK,go_sem,reduceIte,jA,jB,jC,jD,reduceCtorEq,jE,jF])|refine ZY ?_|omega))
 rw[←hQ]
 (repeat' (first|(with_reducible first|refine stp ?_|refine bG ZM ?_|refine iI (fun _=>?_) (fun _=>?_))|((first|(with_reducible refine fO ?_;first|refine eH rfl ?_ ?_|refine Zx ?_)|(with_reducible refine fP ?_;first|refine bY rfl ?_ ?_|refine ZX ?_)|refine Zy ?_)<;>try simp only[hc,aF4,Wy.aAC,xM,Ks,Kk,hta,htb,hb1,ca1,ca2,Kx,Ky,true_and,and_true,jK,go_sem,reduceIte,jA,jB,jC,jD,reduceCtorEq,jE,jF])|refine ZY ?_|omega))
 refine aG (h'.set (nx1+35) .tip) ?_ (.inr ⟨nx1+35,or,Zw,?_,rfl⟩)
 ·intro x b hx;by_cases e:x=nx1+35
  ·subst e;simp only[go_sem,reduceIte,jA,jB,jC,jD,reduceCtorEq,jE,jF] at hx⊢;exact hx
  have hx':h' x=some b:=by unfold Hp.set at hx;rwa [if_neg e] at hx
  have:=hd x b hx';have e1:(x=nx)=False:=eq_false or;have e2:(x=nx1+24)=False:=eq_false or;have e3:(x=nx1+28)=False:=eq_false or;have e4:(x=nx1+30)=False:=eq_false or;have e5:(x=nx1+31)=False:=eq_false or;simp only[e,e1,e2,e3,e4,e5,go_sem,reduceIte,jA,jB,jC,jD,reduceCtorEq,jE,jF];exact hx'
 refine Zn ?_;rw[aIs,if_neg (by rw[List.getElem?_eq_none or];simp)];have htl:KI l.length (l.map Wy.v)=l.map Wy.v:=Kh Zm;simp[htl]
end Go.Proofs.YtecepaehmojpgaaGreat
namespace Go.Proofs.YtecepaehmojpgaaGreat
open Go.RowKit
def V.aBS:V→V
 | .tup vs=> .tup (vs.map V.loose)
 |v=>v.loose
theorem VR.aBS{K:Ker}{v:V}{cv:Value}(r:VR K v cv):VR K v.aBS cv:=by
 cases v with
 |tup vs=>
  cases r with
  |tup _ ccs hl hv=>
   refine .tup _ ccs (by simpa using hl) fun i hi=>?_;have hi':i<vs.length:=by simpa using hi
   have:=hv i hi';simp only[Kd,List.getElem?_map,Kb hi',Option.map_some,Kk] at this⊢;exact this.loose
 |_=>exact r.loose
theorem bD.aSw{P:Program}{f:FuncId}{args:List V}{h:Hp}{nx:Nat}{R R':V→Hp→Nat→Prop}(c:bD P f args h nx R)(hc:∀v h' nx',nx≤nx'→aK h' nx'→R v h' nx'→∃h2,h2.le h'∧R' v.aBS h2 nx'):bD P f args h nx R':=by
 refine⟨c.1,fun K aAK hl hr hv=>(c.2 K aAK hl hr hv).mono ?_⟩;rintro e w' ⟨K',v,cv,h',nx',rfl,he,hle,hvr,aAS,hlv,hnx,hR⟩;obtain⟨h2,q1,q2⟩:=hc v h' nx' hnx (fun m b hm=>(hlv m (aAS.lt m b hm)).1) hR;exact⟨K',v.aBS,cv,h2,nx',rfl,he,hle,hvr.aBS,aAS.weaken q1,hlv,hnx,q2⟩
theorem mK{P:Program}{f:FuncId}{args:List V}{h:Hp}{v:V}(hv:∀L,v.names L)(hc:∀h' nx,h.has h'→bD P f args h' nx fun v' h'' _=>v'.aBS=v∧h'.le h''):aX P f args h v:=
 aP hv fun h' nx hh=>(hc h' nx hh).aSw fun v' h'' nx' _ _ hq=>⟨h',hq.2,hq.1,rfl⟩
end Go.Proofs.YtecepaehmojpgaaGreat
