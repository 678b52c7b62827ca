/-
Texts of this proof,one behind the other. No conditions.
-/
import Derived.Test.YtecepaehmojpgaaGreatKd
import Derived.Test.YtecepaehmojpgaaGreatKg
import Derived.Test.YtecepaehmojpgaaGreatKe
import Derived.Test.YtecepaehmojpgaaGreatKdb
open Go.Proofs.YtecepaehmojpgaaGreat.Hp renaming le_refl→Ka,same→Kc
open List renaming getElem?_eq_getElem→Kb,getD_eq_getElem?_getD→Kd,take_of_length_le→Kh,range→Kj,map_map→Km,range_succ→Kp,map_congr_left→Kq,ext_getElem→Kv,filter_cons→Kw,length_drop→Kx,length_take→Ky,map_append→Kz,mem_filter→KC,mem_range→KD,map_nil→KF,take→KG
open Go.IntKind renaming i64→Ke,wrap→Kg
open Bool renaming and_eq_true→Kf,or_eq_false_iff→Ki,or_eq_true→KB,true_and→KE
open Option renaming getD_some→Kk,isSome_some→Ks
open Nat renaming lt_or_ge→Ko,zero_le→Kt,le_refl→Ku
set_option linter.unusedSimpArgs false
set_option linter.unusedVariables false
set_option linter.unusedSectionVars false
set_option maxHeartbeats 8000000
open Nat renaming reduceAdd→jA,reduceSub→jB,reduceLT→jC,reduceLeDiff→jD,reduceEqDiff→jE
open Int renaming reduceToNat→jF,natCast_add→jH,natCast_one→jI,natCast_zero→jJ
open List renaming length_map→jK,length_cons→jL,length_nil→jM,replicate_succ→jN,replicate_zero→jO,cons_append→jP,nil_append→jQ
namespace Go.Proofs.YtecepaehmojpgaaGreat
open Go.RowKit Go.Sort
attribute [local irreducible] Kg
noncomputable def nK(n:Nat)(l:List We)(a:Nat):V:= .sl .leaf .free ((lH n l a).map fun m=>lst (.agg 2) (m.map Pa.v))
theorem pq(n:Nat)(l:List We)(a:Nat):(lH n l a).length=n:=by simp[lH]
theorem Ch(ow:Own)(n:Nat)(l:List We)(a:Nat)(aAG:yR n l)(ha:a<n)(hn:n≤200)(hl:l.length≤1000)(h:Hp):
 aY Tryz.prog 72 [.agg [.int .i64 n,wes ow l], .int .i64 a] h (nK n l a):=by
 refine aR (fun L=>?_) fun h' nx hh=>(nT (G:=fun ls=>ls=(lH n l a).map (List.map Pa.v)) (Cf ow n l a aAG ha hn hl h' nx)).mono ?_
 ·unfold nK;simp only[V.names,true_and,and_true];refine⟨fun n e=>(by cases e),?_⟩;exact bG (f:=fun m:List Pa=>lst (.agg 2) (m.map Pa.v)) (fun m=>cP (fun L=>bG (Pa.aAN L) m) L) _
 rintro v h'' nx2 hnx ⟨ls,rfl,rfl,rfl⟩;refine⟨?_,rfl⟩;simp only[nK,Km];rfl
end Go.Proofs.YtecepaehmojpgaaGreat
namespace Go.Proofs.YtecepaehmojpgaaGreat
open Go.RowKit Go.Sort
attribute [local irreducible] Kg
noncomputable def eK(n:Nat)(l:List We)(i:Nat):List V:=(Kj i).map (nK n l)
theorem yq(o:Own){P:Int}{ws:List Wy}{n:Nat}{l:List We}(R:lC P ws n l)(hl:ws.length≤1000)(h':Hp)(nx:Nat):
 bD Tryz.prog 38 [mps o P ws] h' nx fun v h'' _=>∃o2,v= .sl .leaf o2 (eK n l n)∧Acc h'' nx o2 (eK n l n)∧Kc nx h' h'':=by
 have hr:gI P ws=true:=(lK P ws).2 ⟨n,l,R⟩;have hn:=R.le;have hmf:(mps o P ws).fits (.agg 2)=true:=by simp[mps,V.fits,V.aAD,wys]
 have hlw:l.length≤1000:=by have:=R.eq;rw[this] at hl;simpa using hl
 have hP:=R.pl;subst hP;have hm:mps o n ws= .agg [.int .i64 n,wes o l]:=by rw[R.eq];simp only[mps,wys,wes,Km];rfl
 have hf:∀a',a'<n→∀h,aY Tryz.prog 72 [mps o n ws, .int .i64 a'] h (nK n l a'):=fun a' ha h=>by rw[hm];exact Ch o n l a' R.fit ha hn hlw h
 refine aF L.aYq fun hd=>?_;simp only[jL,jM,jA,jB,jN,jO,jP,jQ,V.undef];have C1:=fun h=>oM o n ws hl h;refine aue (ee4 hmf hr decide_true decide_false) ?_;refine aO (fun q:Nat×Own=>aB 21 0 [(1, .ptr nx (.agg 2) 0 0),(3, .sl .leaf q.2 (eK n l q.1)),(9, .int .i64 n),(10, .int .i64 q.1)])
  (fun q hp nx1=>q.1≤n∧nx+1≤nx1∧aI hp nx1∧Kc (nx+1) (h'.set nx (.arr (.agg 2) [mps o n ws])) hp∧Acc hp (nx+1) q.2 (eK n l q.1))
  (fun q=>n-q.1) (0, .nil) ⟨Kt _,Ku _,(by(try dsimp only);repeat (first|exact aI.up hd or|refine aI.aAh ?_ or _|refine aI.del ?_|refine aI.aAb ?_ _)),Hp.same.aBG,Acc.nil⟩ ?_ ?_
 ·simp only[WkL,aB,jH,jI,jJ,eK,List.range_zero,KF,go_sem,reduceIte,jA,jB,jC,jD,reduceCtorEq,jE,jF]
 rintro⟨i,oo⟩ hp nx1 ⟨hi,hnx,hdm,hsm,aAU⟩;generalize hQ:bH _ _ _ _ _=Q0;dsimp only at hi aAU;have c1:hp nx=some (.arr (.agg 2) [mps o n ws]):=by rw[hsm nx or];simp only[go_sem,reduceIte,jA,jB,jC,jD,reduceCtorEq,jE,jF]
 have aEp:nx<nx1:=or;have hlen:(eK n l i).length=i:=by simp[eK]
 simp only[aB,go_sem,reduceIte,jA,jB,jC,jD,reduceCtorEq,jE,jF];rcases Ko i n with hlt|hge
 ·have hc:decide ((i:Int)<(n:Int))=true:=by simpa using hlt
  have hw:IntKind.i64.wrap ((i:Int)+1)=((i+1:Nat):Int):=by rw[bB]<;>omega
  have hnn:eK n l (i+1)=eK n l i++[nK n l i]:=by simp[eK,Kp]
  have hfl:(nK n l i).aAD=true:=rfl;have C1:=fun h=>hf i hlt h;refine aue (ee8 c1 aEp hc hlt hw hmf hfl hlen) ?_;rw[←hQ];refine aD (i+1, .tok (nx1+1)) Zw ⟨hlt,or,(by(try dsimp only);repeat (first|exact aI.up hdm or|refine aI.aAh ?_ or _|refine aI.del ?_|refine aI.aAb ?_ _)),(by(try dsimp only);repeat (first|exact hsm|refine aW ?_ or _|refine aX ?_ or|refine fE ?_ (fun id e=>by have:=(aAU).ge id e;omega))),?_⟩ ?_
  ·dsimp only;rw[hnn];exact Acc.new _ Zm or
  simp only[WkL,aB,jH,jI,jJ,hnn,go_sem,reduceIte,jA,jB,jC,jD,reduceCtorEq,jE,jF]
 have hc:decide ((i:Int)<(n:Int))=false:=by simpa using hge
 refine aue hc ?_;rw[←hQ];refine aue hc ?_;refine aG hp (Ka _) ⟨oo,?_,?_,fun x hx=>by rw[hsm x or];unfold Hp.set;rw[if_neg or]⟩
 ·refine Zn ?_;rw[show i=n by omega]
 rw[show i=n by omega] at aAU;rcases aAU with h|⟨h1,id,h2,h3,h4⟩
 ·exact .inl h
 exact .inr ⟨h1,id,or,h3,h4⟩
end Go.Proofs.YtecepaehmojpgaaGreat
namespace Go.Proofs.YtecepaehmojpgaaGreat
open Go.RowKit Go.Sort
theorem Dq(S:Nat→Prop):∀n,S n→∃m,S m∧∀k,S k→m≤k:=by
 intro n;induction n using Nat.strongRecOn with
 |ind n ih=>
  intro hn;by_cases h:∃k,k<n∧S k
  ·obtain⟨k,h1,h2⟩:=h;exact ih k h1 h2
  exact⟨n,hn,fun k hk=>Nat.le_of_not_lt fun hlt=>h ⟨k,hlt,hk⟩⟩
theorem vW(ws:List We)(a k:Nat)(b:Bool):(∀p,Val ws a k p→p.n≠b)∨∃q,Val ws a k q∧q.n=b∧∀p,Val ws a k p→p.n=b→q.a≤p.a:=by
 by_cases h:∃p,Val ws a k p∧p.n=b
 ·obtain⟨p,h1,h2⟩:=h;obtain⟨m,⟨q,hq1,hq2,hq3⟩,hm⟩:=Dq (fun m=>∃q,Val ws a k q∧q.n=b∧q.a.toNat=m) _ ⟨p,h1,h2,rfl⟩;refine .inr ⟨q,hq1,hq2,fun r hr hrb=>?_⟩;have:=hm _ ⟨r,hr,hrb,rfl⟩;have o1:=hr.ok;have o2:=hq1.ok;simp only[Pa.ok,Kf,decide_eq_true_eq] at o1 o2;omega
 exact .inl fun p hp e=>h ⟨p,hp,e⟩
theorem kI{p q:Pa}(h:p.n=q.n)(h2:p.a≤q.a):p.le q=true:=by
 obtain⟨n,a⟩:=p;obtain⟨m,b⟩:=q;simp only at h h2;subst h;cases n<;>simp[Pa.le,h2]
theorem Dt(ws:List We)(a k:Nat):∃m,iT ws a k m:=by
 rcases vW ws a k false with hF|⟨f,f1,f2,f3⟩
 ·rcases vW ws a k true with hT|⟨t,t1,t2,t3⟩
  ·refine⟨[],List.Pairwise.nil,(fun p hp=>by cases hp),fun p hp=>?_⟩;cases e:p.n with
   |false=>exact absurd e (hF p hp)
   |true=>exact absurd e (hT p hp)
  refine⟨[t],by simp[Can],(fun p hp=>by simp at hp;subst hp;exact t1),fun p hp=>⟨t,Zm,?_⟩⟩;cases e:p.n with
  |false=>exact absurd e (hF p hp)
  |true=>exact kI (t2.trans e.symm) (t3 p hp e)
 rcases vW ws a k true with hT|⟨t,t1,t2,t3⟩
 ·refine⟨[f],by simp[Can],(fun p hp=>by simp at hp;subst hp;exact f1),fun p hp=>⟨f,Zm,?_⟩⟩;cases e:p.n with
  |true=>exact absurd e (hT p hp)
  |false=>exact kI (f2.trans e.symm) (f3 p hp e)
 by_cases h:t.a≤f.a
 ·refine⟨[t],by simp[Can],(fun p hp=>by simp at hp;subst hp;exact t1),fun p hp=>⟨t,Zm,?_⟩⟩;cases e:p.n with
  |true=>exact kI (t2.trans e.symm) (t3 p hp e)
  |false=>
   have:=f3 p hp e;simp[Pa.le,t2,e];omega
 refine⟨[f,t],by simp[Can,f2,t2];omega,(fun p hp=>by simp at hp;rcases hp with rfl|rfl<;>assumption),fun p hp=>?_⟩;cases e:p.n with
 |true=>exact⟨t,Zm,kI (t2.trans e.symm) (t3 p hp e)⟩
 |false=>exact⟨f,Zm,kI (f2.trans e.symm) (f3 p hp e)⟩
theorem bh(ws:List We)(a k:Nat):iT ws a k (cQ ws a k):=by
 obtain⟨m,hm⟩:=Dt ws a k;rw[pN hm];exact hm
def Pa.cat(p q:Pa):Pa:=if q.n=true then q else ⟨p.n,p.a+q.a⟩
theorem Pa.aHp{p q r:Pa}(h:p.thn q=some r):r=p.cat q:=by
 unfold Pa.thn at h;unfold Pa.cat
 split at h
 ·cases h
 split at h
 ·rename_i e;injection h with h;rw[if_pos e,h]
 rename_i e;split at h
 ·cases h
 injection h with h;rw[if_neg e,h]
def En:Pa→List We→Pa
 |p,[]=>p
 |p,w::l=>En (p.cat w.p) l
theorem ui:∀(l:List We) {p q:Pa},run p l=some q→En p l=q
 | [],p,q,h=>by have h:some p=some q:=h;injection h
 |w::l,p,q,h=>by
  have h:((p.thn w.p).bind fun q=>run q l)=some q:=h;cases e:p.thn w.p with
  |none=>rw[e] at h;cases h
  |some r=>rw[e] at h;have:=ui l h;show En (p.cat w.p) l=q;rw[←Pa.aHp e];exact this
def aAL(l:List We):Int:=(l.map fun w=>w.p.a).sum
theorem sx{ws:List We}:∀{l:List We} {a k:Nat},iS ws a l k→∀w∈l,w∈ws
 | [],_,_,_,w,hw=>by cases hw
 |v::l,_,_,⟨h1,_,h3⟩,w,hw=>by
  rcases List.mem_cons.1 hw with rfl|hw
  ·exact h1
  exact sx h3 w hw
theorem yj(ws:List Wy):cC (cC ws)=cC ws:=
 Inc.unique Wy.ord (jq _) (jq _) fun x=>by rw[nP]
theorem vq(P:Int)(ws:List Wy):cT P (cC ws)=cT P ws:=by
 have e:(∃w∈cC ws,w.fit P=false)↔∃w∈ws,w.fit P=false:=by simp only[nP]
 unfold cT;rw[yj];simp only[e]
theorem Af{P:Int}{ws:List Wy}(h:(cT P ws).2=0):(cT P ws).1=(P,cC ws):=by
 unfold cT at h⊢;split at h
 ·cases h
 rename_i h1;split at h
 ·cases h
 rename_i h2;split at h
 ·cases h
 rename_i h3;rw[if_neg h1,if_neg h2,if_neg h3]
theorem vn{P:Int}{ws:List Wy}(h:(cT P ws).2=0):∃n l,lC P (cC ws) n l:=by
 refine(lK P (cC ws)).1 ?_;unfold gI;rw[decide_eq_true_eq,vq];exact⟨h,by rw[Af h]⟩
theorem CC(l:List We):fD (l.map We.wy)=aAL l:=by
 unfold fD aAL;rw[Km];rfl
end Go.Proofs.YtecepaehmojpgaaGreat
namespace Go.Proofs.YtecepaehmojpgaaGreat
open Go.RowKit Go.Sort
attribute [local irreducible] Kg
noncomputable def eA(P:Int)(ws:List Wy)(a b:Int):List Pa:=if gI P ws=true∧0≤a∧a<P∧0≤b∧b<P then cQ (ws.map Wy.we) a.toNat b.toNat else []
theorem aHn(l:List We):(l.map We.wy).map Wy.we=l:=by
 rw[Km];have:l.map (Wy.we∘We.wy)=l.map id:=Kq fun w _=>by obtain⟨f,t,p⟩:=w;simp[We.wy,Wy.we]
 rw[this,List.map_id]
theorem Al(P:Int)(ws:List Wy)(a b:Int):Can (eA P ws a b):=by
 unfold eA;split
 ·exact(bh _ _ _).can
 exact List.Pairwise.nil
theorem xG(n:Int)(h:Hp):aY Tryz.prog 25 [fC n] h (.int .i64 n):=by
 refine aR (fun L=>trivial) fun h' nx hh=>aF L.aY0 fun hd=>?_;simp only[jL,jM,jA,jB,jN,jO,jP,jQ,V.undef];by_cases hn:n=0
 ·subst hn;refine aue Fu ?_;refine aG h' (by repeat (first|exact Ka _|refine aJ hd ?_ or _|refine aL hd ?_ or)) ⟨?_,rfl⟩;simp only[go_sem,reduceIte,jA,jB,jC,jD,reduceCtorEq,jE,jF]
 have e:fC n= .iface 64 (.int .i64 n):=by unfold fC;rw[if_neg hn]
 have e2:(n != 0)=true:=by simpa using hn
 refine aue (ee2 e e2) ?_;refine aG h' (by repeat (first|exact Ka _|refine aJ hd ?_ or _|refine aL hd ?_ or)) ⟨?_,rfl⟩;simp only[go_sem,reduceIte,jA,jB,jC,jD,reduceCtorEq,jE,jF]
def zP(P:Int)(ws:List Wy):Bool:=(decide (14<P)&&decide (P≤200))||decide (40<(ws.length:Int))
theorem An(o:Own)(P:Int)(ws:List Wy)(h:Hp):aY Tryz.prog 13 [mps o P ws] h (.bool (zP P ws)):=by
 have hmf:(mps o P ws).fits (.agg 2)=true:=by simp[mps,V.fits,V.aAD,wys]
 refine aR (fun L=>trivial) fun h' nx hh=>aF L.g6z fun hd=>?_;simp only[jL,jM,jA,jB,jN,jO,jP,jQ,V.undef];unfold zP;cases h1:decide (14<P)<;>cases h2:decide (P≤200);all_goals ((repeat' (first|(with_reducible first|refine stp ?_|refine bJ ZM ?_|refine iQ (fun _=>?_) (fun _=>?_))|((first|(with_reducible refine fV ?_;first|refine eJ rfl ?_ ?_|refine Zx ?_)|(with_reducible refine fW ?_;first|refine cB rfl ?_ ?_|refine ZX ?_)|refine Zy ?_)<;>try simp only[hmf,h1,h2,jK,go_sem,reduceIte,jA,jB,jC,jD,reduceCtorEq,jE,jF])|refine ZY ?_|omega)))
 all_goals refine aG h' (by repeat (first|exact Ka _|refine aJ hd ?_ or _|refine aL hd ?_ or)) ⟨?_,rfl⟩
 all_goals simp only[jK,Bool.false_or,Bool.true_or,go_sem,reduceIte,jA,jB,jC,jD,reduceCtorEq,jE,jF]
theorem B2{P:Int}{ws:List Wy}(h:zP P ws=false):ws.length≤40:=by
 unfold zP at h;rw[Ki] at h;have:=of_decide_eq_false h.2;omega
end Go.Proofs.YtecepaehmojpgaaGreat
namespace Go.Proofs.YtecepaehmojpgaaGreat
open Go.RowKit Go.Sort
attribute [local irreducible] Kg
set_option maxRecDepth 100000 in
theorem Bz(o:Own)(l:List Wy)(hl:l.length≤100000)(h:Hp):aY Tryz.prog 48 [wys o l] h (lst (.agg 4) (l.map Wy.v)):=by
 refine dB (fun L=>cP (fun L=>bG (Wy.aAN L) _) L) fun h' nx hh=>aF L.aYb fun hd=>?_;simp only[jL,jM,jA,jB,jN,jO,jP,jQ,V.undef];refine aue trivial ?_;refine aO (fun q:Nat×Own=>aB 25 0 [(3,wys q.2 (l.take q.1)),(6,wys o l),(7, .int .i64 l.length),(8, .int .i64 q.1)])
  (fun q hp nx1=>q.1≤l.length∧nx≤nx1∧aI hp nx1∧Kc nx h' hp∧Acc hp nx q.2 ((l.take q.1).map Wy.v))
  (fun q=>l.length-q.1) (0, .nil) ⟨Kt _,Ku _,hd,Hp.same.aBG,Acc.nil⟩ ?_ ?_
 ·simp only[WkL,aB,jH,jI,jJ,wys,List.take_zero,KF,go_sem,reduceIte,jA,jB,jC,jD,reduceCtorEq,jE,jF]
 rintro⟨i,oo⟩ hp nx1 ⟨hi,hnx,hdm,hsm,aAU⟩;generalize hQ:bH _ _ _ _ _=Q0;dsimp only at hi aAU;simp only[aB,go_sem,reduceIte,jA,jB,jC,jD,reduceCtorEq,jE,jF];rcases Ko i l.length with hlt|hge
 ·have hc:decide ((i:Int)<(l.length:Int))=true:=decide_eq_true or;have hg:(l.map Wy.v).getD i (.tup [])= .agg [.int .i64 l[i].f, .int .i64 l[i].t, .bool l[i].p.n, .int .i64 l[i].p.a]:=bO Wy.v l i hlt;have hw:IntKind.i64.wrap ((i:Int)+1)=((i+1:Nat):Int):=by rw[bB]<;>omega
  have htk:(l.take (i+1)).map Wy.v=(l.take i).map Wy.v++[.agg [.int .i64 l[i].f, .int .i64 l[i].t, .bool l[i].p.n, .int .i64 l[i].p.a]]:=by
   rw[List.take_succ_eq_append_getElem hlt,Kz];rfl
  have hlen:((l.take i).map Wy.v).length=i:=by simp;omega
  have hb1:(i+1)*32≤140737488355328:=or;have hrp:∀h,aY Tryz.prog 79 [.agg [.bool l[i].p.n, .int .i64 l[i].p.a]] h (.agg [.bool l[i].p.n, .int .i64 l[i].p.a]):=fun h=>zu l[i].p h;rcases aAU with⟨he,rfl⟩|⟨hne,id,hid,rfl,aBH⟩
  ·have hi0:i=0:=by rw[he] at hlen;simpa using hlen.symm
   have D1:=fun h=>hrp h;refine aue (ee5 hc hg hlt hw he) ?_;rw[←hQ];refine aD (i+1, .tok (nx1+12)) Zw ⟨hlt,or,(by(try dsimp only);repeat (first|exact aI.up hdm or|refine aI.aAh ?_ or _|refine aI.del ?_|refine aI.aAb ?_ _)),(by(try dsimp only);repeat (first|exact hsm|refine aW ?_ or _|refine aX ?_ or)),?_⟩ ?_
   ·dsimp only;rw[htk];exact Acc.new _ Zm or
   simp only[WkL,aB,jH,jI,jJ,wys,htk,he,go_sem,reduceIte,jA,jB,jC,jD,reduceCtorEq,jE,jF]
  have aB1:id<nx1:=hdm id _ aBH;have e1:(id=nx1)=False:=eq_false or;have ca:iW ((hp.set nx1 (Blk.arr (Sh.agg 4) [V.agg [V.int Ke 0,V.int Ke 0,V.bool false,V.int Ke 0]])).set nx1 (Blk.arr (Sh.agg 4) [V.agg [V.int Ke l[i].f,V.int Ke l[i].t,V.bool l[i].p.n,V.int Ke l[i].p.a]])) (nx1+2) [0,1,2,3,4,5,6,7,8,9] [none,none,none,none,none,none,none,none,none,some Blk.tip] [none,none,none,none,none,none,none,none,none,none] id Blk.tip:=
   ⟨by simp[cS], .inl ⟨or,by simp only[aBH,e1,go_sem,reduceIte,jA,jB,jC,jD,reduceCtorEq,jE,jF]⟩⟩
  have D1:=fun h=>hrp h;refine aue (ee9 hc hg hlt hw hlen aBH aB1 hb1 ca) ?_;rw[←hQ];refine aD (i+1, .tok (nx1+12)) Zw ⟨hlt,or,(by(try dsimp only);repeat (first|exact aI.up hdm or|refine aI.aAh ?_ or _|refine aI.del ?_|refine aI.aAb ?_ _)),(by(try dsimp only);repeat (first|exact hsm|refine aW ?_ or _|refine aX ?_ or)),?_⟩ ?_
  ·dsimp only;rw[htk];exact(Acc.new _ Zm or).del (fun e=>by injection e;omega)
  simp only[WkL,aB,jH,jI,jJ,wys,htk,go_sem,reduceIte,jA,jB,jC,jD,reduceCtorEq,jE,jF]
 have hc:decide ((i:Int)<(l.length:Int))=false:=decide_eq_false or;refine aue hc ?_;rw[←hQ];refine au ?_;have htl:l.take i=l:=Kh or;rw[htl] at aAU;refine aG h' (hsm.le hd (Ka _)) ⟨?_,Ka _⟩;simp only[htl,go_sem,reduceIte,jA,jB,jC,jD,reduceCtorEq,jE,jF];rw[aAU.loose];rfl
theorem dw(o:Own)(P:Int)(ws:List Wy)(hl:ws.length≤100000)(h:Hp):aY Tryz.prog 14 [mps o P ws] h (vU P ws):=by
 refine aR (fun L=>vT P ws L) fun h' nx hh=>aF L.g7z fun hd=>?_;have hmf:(mps o P ws).fits (.agg 2)=true:=by simp[mps,V.fits,V.aAD,wys]
 simp only[jL,jM,jA,jB,jN,jO,jP,jQ,V.undef];unfold vU;obtain⟨o2,ho2⟩:=nG (.agg 4) (ws.map Wy.v);have aJl:(V.agg [.int .i64 P,wys o2 ws]).fits (.agg 2)=true:=by simp[V.fits,V.aAD]
 rw[ho2];have hwp:∀h,aY Tryz.prog 48 [wys o ws] h (wys o2 ws):=fun h=>by
  have e:=Bz o ws hl h;rw[ho2] at e;exact e
 have D1:=fun h=>hwp h;refine aue (ee2 hmf aJl) ?_;refine rZ (by simp only[go_sem,reduceIte,jA,jB,jC,jD,reduceCtorEq,jE,jF]) h' (by repeat (first|exact Ka _|refine aJ hd ?_ or _|refine aL hd ?_ or)) ⟨?_,rfl⟩;simp only[go_sem,reduceIte,jA,jB,jC,jD,reduceCtorEq,jE,jF]
end Go.Proofs.YtecepaehmojpgaaGreat
namespace Go.Proofs.YtecepaehmojpgaaGreat
open Go.RowKit Go.Sort
def upd(T:Nat→Nat→Bool)(i j:Nat)(b:Bool):Nat→Nat→Bool:=fun x y=>if x=i∧y=j then b else T x y
def Wsh(E:Nat→Nat→Prop)(n k i j:Nat)(T:Nat→Nat→Bool):Prop:=∀x y,x<n→y<n→(T x y=true↔if x<i∨(x=i∧y<j) then Via E (k+1) x y else Via E k x y)
section
variable{E:Nat→Nat→Prop}{n k i j:Nat}{T:Nat→Nat→Bool}
theorem Wsh.first(h:∀x y,x<n→y<n→(T x y=true↔E x y)):Wsh E n 0 0 0 T:=fun x y hx hy=>by
 rw[if_neg or];exact h x y hx hy
theorem Wsh.aJT(W:Wsh E n k i n T):Wsh E n k (i+1) 0 T:=fun x y hx hy=>by
 rw[W x y hx hy];by_cases e:x<i∨(x=i∧y<n)
 ·rw[if_pos e,if_pos or]
 rw[if_neg e,if_neg or]
theorem Em(x k':Nat):Via E (k'+1) x k'↔Via E k' x k':=by
 constructor
 ·rintro(h|⟨h,_⟩)<;>exact h
 exact .inl
theorem El(y k':Nat):Via E (k'+1) k' y↔Via E k' k' y:=by
 constructor
 ·rintro(h|⟨_,h⟩)<;>exact h
 exact .inl
theorem Wsh.col(W:Wsh E n k i j T)(hk:k<n)(x:Nat)(hx:x<n):T x k=true↔Via E k x k:=by
 rw[W x k hx hk];split
 ·exact Em x k
 exact Iff.rfl
theorem Wsh.row(W:Wsh E n k i j T)(hk:k<n)(y:Nat)(hy:y<n):T k y=true↔Via E k k y:=by
 rw[W k y hk hy];split
 ·exact El y k
 exact Iff.rfl
theorem Wsh.no(W:Wsh E n k i j T)(hk:k<n)(hi:i<n)(h:T i k=false):Wsh E n k (i+1) 0 T:=fun x y hx hy=>by
 have hn:¬Via E k i k:=fun hv=>by rw[(W.col hk i hi).2 hv] at h;cases h
 rw[W x y hx hy];by_cases e:x=i
 ·subst e;have he:Via E (k+1) x y↔Via E k x y:=⟨fun hv=>hv.elim id fun hv=>absurd hv.1 hn, .inl⟩;rw[if_pos (show x<x+1∨_ from .inl or)];split
  ·exact Iff.rfl
  exact he.symm
 by_cases e2:x<i
 ·rw[if_pos (.inl e2),if_pos (.inl or)]
 rw[if_neg or,if_neg or]
theorem Wsh.step(W:Wsh E n k i j T)(hk:k<n)(hi:i<n)(hj:j<n)(h:T i k=true):Wsh E n k i (j+1) (upd T i j (T i j||T k j)):=fun x y hx hy=>by
 have hv:=(W.col hk i hi).1 h;by_cases e:x=i∧y=j
 ·obtain⟨rfl,rfl⟩:=e;have h1:=W x y hx hy;rw[if_neg or] at h1;have h2:=W.row hk y hy;rw[if_pos (.inr ⟨rfl,or⟩)];unfold upd;rw[if_pos ⟨rfl,rfl⟩,KB,h1,h2];constructor
  ·rintro(h|h)
   ·exact .inl h
   exact .inr ⟨hv,h⟩
  rintro(h|h)
  ·exact .inl h
  exact .inr h.2
 unfold upd;rw[if_neg e,W x y hx hy];by_cases e2:x<i∨(x=i∧y<j)
 ·rw[if_pos e2,if_pos or]
 rw[if_neg e2,if_neg or]
theorem Wsh.next(W:Wsh E n k n 0 T):Wsh E n (k+1) 0 0 T:=fun x y hx hy=>by
 rw[W x y hx hy,if_pos (.inl hx),if_neg or]
theorem Wsh.done(W:Wsh E n n 0 0 T)(hE:∀i j,E i j→i<n∧j<n)(x y:Nat)(hx:x<n)(hy:y<n):T x y=true↔fL E x y:=by
 rw[W x y hx hy,if_neg or];exact Via.iff hE x y
end
def fS{α:Type}(n:Nat)(f:Nat→α):List α:=(Kj n).map f
theorem fH{α:Type}(n:Nat)(f:Nat→α):(fS n f).length=n:=by simp[fS]
theorem yX{n i:Nat}(f:Nat→V)(h:i<n):(fS n f).getD i (.tup [])=f i:=by
 unfold fS;rw[Kd,Kb (by simpa using h)];simp
theorem rT{α:Type}{n i:Nat}(f:Nat→α)(v:α):(fS n f).set i v=fS n fun x=>if x=i then v else f x:=by
 refine Kv (by simp[fS]) fun j h1 h2=>?_;rw[List.getElem_set];simp only[fS,List.getElem_map,List.getElem_range];by_cases e:i=j
 ·simp[e]
 have:¬j=i:=fun h=>e h.symm;simp[e,this]
theorem mW{α:Type}(n:Nat)(v:α):List.replicate n v=fS n fun _=>v:=by
 refine Kv (by simp[fS]) fun j h1 h2=>?_;simp[fS]
theorem kE{α:Type}{n:Nat}{f g:Nat→α}(h:∀i,i<n→f i=g i):fS n f=fS n g:=by
 unfold fS;exact Kq fun i hi=>h i (by simpa using hi)
def gP(l:List Pa)(i:Nat):Pa:=l.getD i Pa.aAQ
def AK(l:List Pa)(i k:Nat):Bool:=(gP l k).le (gP l i)&&(decide (gP l k≠gP l i)||decide (k<i))
def oF(l:List Pa)(i m:Nat):Bool:= !((Kj m).any (AK l i))
def pO(l:List Pa)(i:Nat):Bool:=oF l i l.length
theorem Ar(l:List Pa)(i:Nat):oF l i 0=true:=rfl
theorem As(l:List Pa)(i m:Nat):oF l i (m+1)=(oF l i m&& !(AK l i m)):=by
 simp[oF,Kp,List.any_append]
def sOf(b:Bool)(l:List Pa)(i:Nat):List Pa:=((Kj i).filter fun j=>pO l j&&(gP l j).n==b).map (gP l)
theorem Dc(b:Bool)(l:List Pa):sOf b l 0=[]:=rfl
theorem ug(b:Bool)(l:List Pa)(i:Nat):sOf b l (i+1)=sOf b l i++(if (pO l i&&(gP l i).n==b)=true then [gP l i] else []):=by
 unfold sOf;rw[Kp,List.filter_append,Kz];congr 1;split
 ·rename_i h;rw[Kw,if_pos h];rfl
 rename_i h;rw[Kw,if_neg h];rfl
def oK(l:List Pa):List Pa:=sOf false l l.length++sOf true l l.length
theorem A0(b:Bool)(l:List Pa)(i:Nat):(sOf b l i).length≤i:=by
 unfold sOf;rw[List.length_map];exact Nat.le_trans (List.length_filter_le _ _) Zm
theorem Ay{l:List Pa}{i:Nat}(h:i<l.length):gP l i∈l:=by
 unfold gP;rw[Kd,Kb h];exact List.getElem_mem _
theorem zR(l:List Pa)(i:Nat):pO l i=true↔∀k,k<l.length→AK l i k=false:=by
 unfold pO oF;simp
theorem zQ{l:List Pa}{i j:Nat}(hi:i<l.length)(hj:j<l.length)(ki:pO l i=true)(kj:pO l j=true)(hij:i≠j):(gP l i).le (gP l j)=false:=by
 cases e:(gP l i).le (gP l j) with
 |false=>rfl
 |true=>
  have h1:=(zR l j).1 kj i hi;have h2:=(zR l i).1 ki j hj;unfold AK at h1 h2;rw[e,KE,Ki] at h1;have h3:gP l i=gP l j:=by
   have:=of_decide_eq_false h1.1;exact Classical.byContradiction this
  have h4:=of_decide_eq_false h1.2;rw[h3,Pa.le_refl,KE,Ki] at h2;have:=of_decide_eq_false h2.2;omega
theorem Dv{l:List Pa}{i j:Nat}(hi:i<l.length)(hj:j<l.length)(ki:pO l i=true)(kj:pO l j=true)(hn:(gP l i).n=(gP l j).n):i=j:=by
 refine Classical.byContradiction fun hij=>?_;rcases Int.le_total (gP l i).a (gP l j).a with h|h
 ·have:=kI hn h;rw[zQ hi hj ki kj hij] at this;cases this
 have:=kI hn.symm h;rw[zQ hj hi kj ki (fun e=>hij e.symm)] at this;cases this
theorem wT{b:Bool}{l:List Pa}{x:Pa}:x∈sOf b l l.length↔∃i,i<l.length∧pO l i=true∧(gP l i).n=b∧gP l i=x:=by
 unfold sOf;simp only[List.mem_map,KC,KD,Kf,beq_iff_eq];constructor
 ·rintro⟨i,⟨h1,h2,h3⟩,h4⟩;exact⟨i,h1,h2,h3,h4⟩
 rintro⟨i,h1,h2,h3,h4⟩;exact⟨i,⟨h1,h2,h3⟩,h4⟩
theorem uh(b:Bool)(l:List Pa)(R:Pa→Pa→Prop):(sOf b l l.length).Pairwise R:=by
 unfold sOf;rw[List.pairwise_map];have h1:((Kj l.length).filter fun j=>pO l j&&(gP l j).n==b).Pairwise (·< ·):=(List.pairwise_lt_range).filter _;refine h1.imp_of_mem fun{i j} hi hj hlt=>?_;simp only[KC,KD,Kf,beq_iff_eq] at hi hj;have:=Dv hi.1 hj.1 hi.2.1 hj.2.1 (hi.2.2.trans hj.2.2.symm);omega
theorem uc{l:List Pa}(h0:∀p∈l,0≤p.a):Eg l (oK l):=by
 refine⟨List.pairwise_append.2 ⟨uh _ _ _,uh _ _ _,fun x hx y hy=>?_⟩,fun p hp=>?_,fun p hp=>?_⟩
 ·obtain⟨i,hi,ki,ni,rfl⟩:=wT.1 hx;obtain⟨j,hj,kj,nj,rfl⟩:=wT.1 hy;refine⟨ni,nj,?_⟩;have:=zQ hj hi kj ki (fun e=>by subst e;rw[ni] at nj;cases nj);simp[Pa.le,nj] at this;exact this
 ·rcases List.mem_append.1 hp with hp|hp<;>obtain⟨i,hi,_,_,rfl⟩:=wT.1 hp<;>exact Ay hi
 obtain⟨i0,hi0,e0⟩:=List.getElem_of_mem hp;have eg:gP l i0=p:=by
  unfold gP;rw[Kd,Kb hi0];exact e0
 let M:Pa→Nat:=fun q=>2*q.a.toNat+(if q.n=true then 0 else 1)
 obtain⟨m,⟨i,hi,hle,rfl⟩,aVb⟩:=Dq (fun m=>∃i,i<l.length∧(gP l i).le p=true∧M (gP l i)*(l.length+1)+i=m) _ ⟨i0,hi0,by rw[eg];exact Pa.le_refl p,rfl⟩;have kp:pO l i=true:=by
  refine(zR l i).2 fun k hk=>?_;cases eb:AK l i k with
  |false=>rfl
  |true=>
   exfalso;unfold AK at eb;rw[Kf,KB,decide_eq_true_eq,decide_eq_true_eq] at eb;obtain⟨h1,h2⟩:=eb;have h3:=aVb _ ⟨k,hk,Pa.le_trans h1 hle,rfl⟩;by_cases e:gP l k=gP l i
   ·rw[e] at h3;rcases h2 with h2|h2
    ·exact h2 e
    omega
   have a1:=h0 _ (Ay hk);have a2:=h0 _ (Ay hi);have hM:M (gP l k)+1≤M (gP l i):=by
    simp only[M];revert h1 e a1 a2;generalize gP l k=q;generalize gP l i=r;obtain⟨n,a⟩:=q;obtain⟨o,c⟩:=r;intro h1 e a1 a2;cases n<;>cases o<;>simp[Pa.le] at*<;>omega
   have:=Nat.mul_le_mul_right (l.length+1) hM;rw[Nat.add_mul] at this;omega
 refine⟨gP l i,?_,hle⟩;cases en:(gP l i).n with
 |false=>exact List.mem_append_left _ (wT.2 ⟨i,hi,kp,en,rfl⟩)
 |true=>exact List.mem_append_right _ (wT.2 ⟨i,hi,kp,en,rfl⟩)
end Go.Proofs.YtecepaehmojpgaaGreat
namespace Go.Proofs.YtecepaehmojpgaaGreat
open Go.RowKit Go.Sort
attribute [local irreducible] Kg
theorem iN(p q:Pa)(h:Hp):aY Tryz.prog 155 [p.v,q.v] h (.bool (p.le q)):=by
 refine aR (fun L=>trivial) fun h' nx hh=>aF L.aVF fun hd=>?_;obtain⟨n,a⟩:=p;obtain⟨m,b⟩:=q;simp only[jL,jM,jA,jB,jN,jO,jP,jQ,V.undef];cases n<;>cases m<;>(repeat' (first|(with_reducible first|refine stp ?_|refine bJ ZM ?_|refine iQ (fun _=>?_) (fun _=>?_))|((first|(with_reducible refine fV ?_;first|refine eJ rfl ?_ ?_|refine Zx ?_)|(with_reducible refine fW ?_;first|refine cB rfl ?_ ?_|refine ZX ?_)|refine Zy ?_)<;>try simp only[Pa.v,go_sem,reduceIte,jA,jB,jC,jD,reduceCtorEq,jE,jF])|refine ZY ?_|omega))
 all_goals refine aG h' (by repeat (first|exact Ka _|refine aJ hd ?_ or _|refine aL hd ?_ or)) ⟨?_,rfl⟩
 all_goals simp[Pa.le]
theorem Fk{n m:Bool}{a b:Int}(h1:Pa.ok ⟨n,a⟩=true)(h2:Pa.ok ⟨m,b⟩=true):Pa.ok ⟨n,a+b⟩=decide (a+b≤1048576):=by
 simp only[Pa.ok,Kf,decide_eq_true_eq] at h1 h2⊢;by_cases e:a+b≤1048576
 ·simp[e];omega
 simp[e]
theorem uk(p q:Pa)(h:Hp):aY Tryz.prog 143 [p.v,q.v] h (.tup [(p.then q).1.v, .int .i64 (p.then q).2]):=by
 refine aR (fun L=>by simp[V.names,bU,Pa.v]) fun h' nx hh=>aF L.aVH fun hd=>?_;obtain⟨n,a⟩:=p;obtain⟨m,b⟩:=q;have hw:=mw ⟨n,a⟩ ⟨m,b⟩;simp only[jL,jM,jA,jB,jN,jO,jP,jQ,V.undef]
 (repeat' (first|(with_reducible first|refine stp ?_|refine bJ ZM ?_|refine iQ (fun _=>?_) (fun _=>?_))|((first|(with_reducible refine fV ?_;first|refine eJ rfl ?_ ?_|refine aQ (kB ⟨_,_⟩ _) rfl (aT _) ?_|refine Zx ?_)|(with_reducible refine fW ?_;first|refine cB rfl ?_ ?_|refine ZX ?_)|refine Zy ?_)<;>try simp only[Pa.v,go_sem,reduceIte,jA,jB,jC,jD,reduceCtorEq,jE,jF])|refine ZY ?_|omega))
 all_goals refine cN (by simp only[go_sem,reduceIte,jA,jB,jC,jD,reduceCtorEq,jE,jF]) h' (by repeat (first|exact Ka _|refine aJ hd ?_ or _|refine aL hd ?_ or)) ⟨?_,rfl⟩
 all_goals simp only[go_sem,reduceIte,jA,jB,jC,jD,reduceCtorEq,jE,jF]
 all_goals cases hp:Pa.ok ⟨n,a⟩<;>cases ht:Pa.ok ⟨m,b⟩<;>(try have aJE:=Fk hp ht)<;>simp_all [Pa.then,Pa.aAQ]
theorem pd(p q:Wy)(h:Hp):aY Tryz.prog 142 [p.v,q.v] h (.bool (p.less q)):=by
 refine aR (fun L=>trivial) fun h' nx hh=>aF L.aWu fun hd=>?_;obtain⟨f,t,n,a⟩:=p;obtain⟨f',t',m,b⟩:=q;simp only[jL,jM,jA,jB,jN,jO,jP,jQ,V.undef];cases n<;>cases m<;>(repeat' (first|(with_reducible first|refine stp ?_|refine bJ ZM ?_|refine iQ (fun _=>?_) (fun _=>?_))|((first|(with_reducible refine fV ?_;first|refine eJ rfl ?_ ?_|refine Zx ?_)|(with_reducible refine fW ?_;first|refine cB rfl ?_ ?_|refine ZX ?_)|refine Zy ?_)<;>try simp only[Wy.v,go_sem,reduceIte,jA,jB,jC,jD,reduceCtorEq,jE,jF])|refine ZY ?_|omega))
 all_goals refine aG h' (by repeat (first|exact Ka _|refine aJ hd ?_ or _|refine aL hd ?_ or)) ⟨?_,rfl⟩
 all_goals simp only[Wy.less,num,go_sem,reduceIte,jA,jB,jC,jD,reduceCtorEq,jE,jF]
 all_goals simp_all
 all_goals omega
theorem jk{h0:Hp}{x a d c:Nat}{aAR:List Nat}{aAL:List (Option Blk)}{cons:List (Option Con)}{b:Blk}(e:c=a+d)(hd:d∈aAR)(ha:aAL.getD d none=some b)(hu:cS (x+c) cons):iW h0 (x+a) aAR aAL cons (x+c) b:=⟨hu, .inr ⟨d,hd,or,ha⟩⟩
theorem BI(o:Own)(l:List Wy)(w:Wy)(hl:l.length≤100000)(h':Hp)(nx:Nat):
 bD Tryz.prog 114 [wys o l,w.v] h' nx fun v h'' nx2=>(v=wys o (oU Wy.less l w)∧h''=h'∧l≠ [])∨(∃id,nx≤id∧id<nx2∧v=wys (.tok id) (oU Wy.less l w)∧h''=h'.set id .tip):=by
 refine aF L.aW8 fun hd=>?_;simp only[jL,jM,jA,jB,jN,jO,jP,jQ,V.undef]
 (repeat' (first|(with_reducible first|refine stp ?_|refine bJ ZM ?_|refine iQ (fun _=>?_) (fun _=>?_))|((first|(with_reducible refine fV ?_;first|refine eJ rfl ?_ ?_|refine Zx ?_)|(with_reducible refine fW ?_;first|refine cB rfl ?_ ?_|refine ZX ?_)|refine Zy ?_)<;>try simp only[Wy.aAC w,go_sem,reduceIte,jA,jB,jC,jD,reduceCtorEq,jE,jF])|refine ZY ?_|omega))
 refine aO (fun i:Nat=>aB 45 0 [(0,wys o l),(3, .ptr nx (.agg 4) 0 0),(5, .int .i64 i)])
  (fun i hp nx1=>i≤l.length∧nx+1≤nx1∧aI hp nx1∧hp=h'.set nx (.arr (.agg 4) [w.v])∧∀j (hj:j<i) (hj':j<l.length),l[j].less w=true)
  (fun i=>l.length-i) 0 ⟨Kt _,Ku _,(by(try dsimp only);repeat (first|exact aI.up hd or|refine aI.aAh ?_ or _|refine aI.del ?_|refine aI.aAb ?_ _)),rfl,fun j hj=>absurd hj or⟩ ?_ ?_
 ·simp only[WkL,aB,jH,jI,jJ,wys,go_sem,reduceIte,jA,jB,jC,jD,reduceCtorEq,jE,jF]
 rintro i hp nx1 ⟨hi,hnx,hdm,rfl,aOc⟩;generalize hQ:bH _ _ _ _ _=Q0;have aEp:nx<nx1:=or;have hta:((l.map Wy.v).take i).length=i:=by simp;omega
 have htb:((l.map Wy.v).take i++[w.v]).length=i+1:=by simp;omega
 have hb1:(i+1)*32≤140737488355328:=or;have ca1:∀H,iW H (nx1+24) [0,1,2,3,4,5,6] [some Blk.tip,none,none,none,some Blk.tip,none,some Blk.tip] [none,none,none,none,some {n:=nx1+24,old:=Blk.tip,new:=none},none,none] (nx1+28) Blk.tip:=fun H=>jk (d:=4) rfl ZM rfl ⟨Zm,trivial⟩;have ca2:∀H,iW H (nx1+24) [0,1,2,3,4,5,6,7,8,9,10] [some Blk.tip,none,none,none,some Blk.tip,none,some Blk.tip,some Blk.tip,none,none,none] [none,none,none,none,some {n:=nx1+24,old:=Blk.tip,new:=none},none,none,some {n:=nx1+28,old:=Blk.tip,new:=none},none,none,none] (nx1+31) Blk.tip:=fun H=>jk (d:=7) rfl ZM rfl ⟨Zm,Zm,trivial⟩;simp only[aB,go_sem,reduceIte,jA,jB,jC,jD,reduceCtorEq,jE,jF];rcases Ko i l.length with hlt|hge
 ·have hc:decide ((i:Int)<(l.length:Int))=true:=by simpa using hlt
  have hg:=bO Wy.v l i hlt;have hw:IntKind.i64.wrap ((i:Int)+1)=((i+1:Nat):Int):=by rw[bB]<;>omega
  cases hls:l[i].less w with
  |true=>
   (repeat' (first|(with_reducible first|refine stp ?_|refine bJ ZM ?_|refine iQ (fun _=>?_) (fun _=>?_))|((first|(with_reducible refine fV ?_;first|refine eJ rfl ?_ ?_|refine Zx ?_)|(with_reducible refine fW ?_;first|refine cB rfl ?_ ?_|refine bK (pd l[i] w _) rfl (bM _) ?_|refine ZX ?_)|refine Zy ?_)<;>try simp only[hc,hg,hlt,hw,hls,aEp,Wy.aAC,jK,go_sem,reduceIte,jA,jB,jC,jD,reduceCtorEq,jE,jF])|refine ZY ?_|omega))
   rw[←hQ];refine aD (i+1) or ⟨hlt,or,(by(try dsimp only);repeat (first|exact aI.up hdm or|refine aI.aAh ?_ or _|refine aI.del ?_|refine aI.aAb ?_ _)),rfl,fun j hj hj'=>?_⟩ ?_
   ·rcases Ko j i with h|h
    ·exact aOc j h hj'
    have:j=i:=or;subst this;exact hls
   simp only[WkL,aB,jH,jI,jJ,wys,go_sem,reduceIte,jA,jB,jC,jD,reduceCtorEq,jE,jF]
  |false=>
   have aJI:=Bl (lt:=Wy.less) (w:=w) i hi aOc (fun _=>hls)
   (repeat' (first|(with_reducible first|refine stp ?_|refine bJ ZM ?_|refine iQ (fun _=>?_) (fun _=>?_))|((first|(with_reducible refine fV ?_;first|refine eJ rfl ?_ ?_|refine Zx ?_)|(with_reducible refine fW ?_;first|refine cB rfl ?_ ?_|refine bK (pd l[i] w _) rfl (bM _) ?_|refine ZX ?_)|refine Zy ?_)<;>try simp only[hc,hg,hlt,hw,hls,aEp,Wy.aAC,jK,go_sem,reduceIte,jA,jB,jC,jD,reduceCtorEq,jE,jF])|refine ZY ?_|omega))
   rw[←hQ]
   (repeat' (first|(with_reducible first|refine stp ?_|refine bJ ZM ?_|refine iQ (fun _=>?_) (fun _=>?_))|((first|(with_reducible refine fV ?_;first|refine eJ rfl ?_ ?_|refine Zx ?_)|(with_reducible refine fW ?_;first|refine cB rfl ?_ ?_|refine ZX ?_)|refine Zy ?_)<;>try simp only[hc,hg,hlt,hw,hls,aEp,Wy.aAC,yU,Ks,Kk,hta,htb,hb1,ca1,ca2,Kx,Ky,true_and,and_true,jK,go_sem,reduceIte,jA,jB,jC,jD,reduceCtorEq,jE,jF])|refine ZY ?_|omega))
   ·rename_i hx;refine aG h' (by repeat (first|exact Ka _|refine aJ hd ?_ or _|refine aL hd ?_ or)) (.inl ⟨?_,rfl,fun e=>by rw[e] at hlt;simp at hlt⟩);refine Zn ?_;rw[aJI,if_pos (by rw[Kb hlt,of_decide_eq_true hx])]
   rename_i hx;refine aG (h'.set (nx1+35) .tip) ?_ (.inr ⟨nx1+35,or,Zw,?_,rfl⟩)
   ·intro x b hx;by_cases e:x=nx1+35
    ·subst e;simp only[go_sem,reduceIte,jA,jB,jC,jD,reduceCtorEq,jE,jF] at hx⊢;exact hx
    have hx':h' x=some b:=by unfold Hp.set at hx;rwa [if_neg e] at hx
    have:=hd x b hx';have e1:(x=nx)=False:=eq_false or;have e2:(x=nx1+24)=False:=eq_false or;have e3:(x=nx1+28)=False:=eq_false or;have e4:(x=nx1+30)=False:=eq_false or;have e5:(x=nx1+31)=False:=eq_false or;simp only[e,e1,e2,e3,e4,e5,go_sem,reduceIte,jA,jB,jC,jD,reduceCtorEq,jE,jF];exact hx'
   refine Zn ?_;rw[aJI,if_neg (by rw[Kb hlt];intro e;injection e with e;exact of_decide_eq_false hx e)];have htl:KG l.length (l.map Wy.v)=l.map Wy.v:=Kh Zm;simp[htl]
 have hc:decide ((i:Int)<(l.length:Int))=false:=by simpa using hge
 have aJI:=Bl (lt:=Wy.less) (w:=w) i hi aOc (fun h=>absurd h or)
 (repeat' (first|(with_reducible first|refine stp ?_|refine bJ ZM ?_|refine iQ (fun _=>?_) (fun _=>?_))|((first|(with_reducible refine fV ?_;first|refine eJ rfl ?_ ?_|refine Zx ?_)|(with_reducible refine fW ?_;first|refine cB rfl ?_ ?_|refine ZX ?_)|refine Zy ?_)<;>try simp only[hc,jK,go_sem,reduceIte,jA,jB,jC,jD,reduceCtorEq,jE,jF])|refine ZY ?_|omega))
 rw[←hQ]
 (repeat' (first|(with_reducible first|refine stp ?_|refine bJ ZM ?_|refine iQ (fun _=>?_) (fun _=>?_))|((first|(with_reducible refine fV ?_;first|refine eJ rfl ?_ ?_|refine Zx ?_)|(with_reducible refine fW ?_;first|refine cB rfl ?_ ?_|refine ZX ?_)|refine Zy ?_)<;>try simp only[hc,aEp,Wy.aAC,yU,Ks,Kk,hta,htb,hb1,ca1,ca2,Kx,Ky,true_and,and_true,jK,go_sem,reduceIte,jA,jB,jC,jD,reduceCtorEq,jE,jF])|refine ZY ?_|omega))
 refine aG (h'.set (nx1+35) .tip) ?_ (.inr ⟨nx1+35,or,Zw,?_,rfl⟩)
 ·intro x b hx;by_cases e:x=nx1+35
  ·subst e;simp only[go_sem,reduceIte,jA,jB,jC,jD,reduceCtorEq,jE,jF] at hx⊢;exact hx
  have hx':h' x=some b:=by unfold Hp.set at hx;rwa [if_neg e] at hx
  have:=hd x b hx';have e1:(x=nx)=False:=eq_false or;have e2:(x=nx1+24)=False:=eq_false or;have e3:(x=nx1+28)=False:=eq_false or;have e4:(x=nx1+30)=False:=eq_false or;have e5:(x=nx1+31)=False:=eq_false or;simp only[e,e1,e2,e3,e4,e5,go_sem,reduceIte,jA,jB,jC,jD,reduceCtorEq,jE,jF];exact hx'
 refine Zn ?_;rw[aJI,if_neg (by rw[List.getElem?_eq_none or];simp)];have htl:KG l.length (l.map Wy.v)=l.map Wy.v:=Kh Zm;simp[htl]
end Go.Proofs.YtecepaehmojpgaaGreat
namespace Go.Proofs.YtecepaehmojpgaaGreat
open Go.RowKit
def V.aBK:V→V
 | .tup vs=> .tup (vs.map V.loose)
 |v=>v.loose
theorem VR.aBK{K:Ker}{v:V}{cv:Value}(r:VR K v cv):VR K v.aBK cv:=by
 cases v with
 |tup vs=>
  cases r with
  |tup _ ccs hl hv=>
   refine .tup _ ccs (by simpa using hl) fun i hi=>?_;have hi':i<vs.length:=by simpa using hi
   have:=hv i hi';simp only[Kd,List.getElem?_map,Kb hi',Option.map_some,Kk] at this⊢;exact this.loose
 |_=>exact r.loose
theorem bD.aVK{P:Program}{f:FuncId}{args:List V}{h:Hp}{nx:Nat}{R R':V→Hp→Nat→Prop}(c:bD P f args h nx R)(hc:∀v h' nx',nx≤nx'→aI h' nx'→R v h' nx'→∃h2,h2.le h'∧R' v.aBK h2 nx'):bD P f args h nx R':=by
 refine⟨c.1,fun K aAK hl hr hv=>(c.2 K aAK hl hr hv).mono ?_⟩;rintro e w' ⟨K',v,cv,h',nx',rfl,he,hle,hvr,aAV,hlv,hnx,hR⟩;obtain⟨h2,q1,q2⟩:=hc v h' nx' hnx (fun m b hm=>(hlv m (aAV.lt m b hm)).1) hR;exact⟨K',v.aBK,cv,h2,nx',rfl,he,hle,hvr.aBK,aAV.weaken q1,hlv,hnx,q2⟩
theorem kQ{P:Program}{f:FuncId}{args:List V}{h:Hp}{v:V}(hv:∀L,v.names L)(hc:∀h' nx,h.has h'→bD P f args h' nx fun v' h'' _=>v'.aBK=v∧h'.le h''):aY P f args h v:=
 aR hv fun h' nx hh=>(hc h' nx hh).aVK fun v' h'' nx' _ _ hq=>⟨h',hq.2,hq.1,rfl⟩
end Go.Proofs.YtecepaehmojpgaaGreat
