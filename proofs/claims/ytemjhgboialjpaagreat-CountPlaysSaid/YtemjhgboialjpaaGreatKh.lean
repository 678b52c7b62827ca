/-
Texts of this proof,one behind the other. No conditions.
-/
import Derived.Test.YtemjhgboialjpaaGreatKd
import Derived.Test.YtemjhgboialjpaaGreatKg
import Derived.Test.YtemjhgboialjpaaGreatKe
import Derived.Test.YtemjhgboialjpaaGreatKdb
set_option linter.unusedSimpArgs false
set_option linter.unusedVariables false
set_option linter.unusedSectionVars false
open Nat renaming reduceAdd→jA,reduceSub→jB,reduceLT→jC,reduceLeDiff→jD,reduceEqDiff→jE
open Int renaming reduceToNat→jF,toNat_natCast→jG,natCast_add→jH,natCast_one→jI,natCast_zero→jJ
open List renaming length_map→jK,length_cons→jL,length_nil→jM,replicate_succ→jN,replicate_zero→jO,cons_append→jP,nil_append→jQ
namespace Go.Proofs.YtemjhgboialjpaaGreat
open Go.RowKit Go.Sort
attribute [local irreducible] IntKind.wrap
noncomputable def mB(n:Nat)(l:List We)(a:Nat):V:= .sl .leaf .free ((kB n l a).map fun m=>lst (.agg 2) (m.map Pa.v))
theorem aCC(n:Nat)(l:List We)(a:Nat):(kB n l a).length=n:=by simp[kB]
theorem aIc(ow:Own)(n:Nat)(l:List We)(a:Nat)(hfit:wC n l)(ha:a<n)(hn:n≤200)(hl:l.length≤1000)(h:Hp):
 aW Tryz.prog 135 [.agg [.int .i64 n,wes ow l], .int .i64 a] h (mB n l a):=by
 refine aR (fun L=>?_) fun h' nx hh=>(mL (G:=fun ls=>ls=(kB n l a).map (List.map Pa.v)) (aIb ow n l a hfit ha hn hl h' nx)).mono ?_
 ·unfold mB
  simp only[V.names,true_and,and_true]
  refine⟨fun n e=>(by cases e),?_⟩
  exact bI (f:=fun m:List Pa=>lst (.agg 2) (m.map Pa.v)) (fun m=>cE (fun L=>bI (Pa.names_v L) m) L) _
 rintro v h'' nx2 hnx ⟨ls,rfl,rfl,rfl⟩
 refine⟨?_,rfl⟩
 simp only[mB,List.map_map]
 rfl
end Go.Proofs.YtemjhgboialjpaaGreat
namespace Go.Proofs.YtemjhgboialjpaaGreat
open Go.RowKit Go.Sort
attribute [local irreducible] IntKind.wrap
noncomputable def mK(n:Nat)(l:List We)(i:Nat):List V:=(List.range i).map (mB n l)
theorem aFG(o:Own){P:Int}{ws:List Wy}{n:Nat}{l:List We}(R:pD P ws n l)(hl:ws.length≤1000)(h':Hp)(nx:Nat):
 aX Tryz.prog 69 [mps o P ws] h' nx fun v h'' _=>∃o2,v= .sl .leaf o2 (mK n l n)∧Acc h'' nx o2 (mK n l n)∧Hp.same nx h' h'':=by
 have hr:gX P ws=true:=(kE P ws).2 ⟨n,l,R⟩
 have hn:=R.le
 have hmf:(mps o P ws).fits (.agg 2)=true:=by simp[mps,V.fits,V.leafy,wys]
 have hlw:l.length≤1000:=by have:=R.eq;rw[this] at hl;simpa using hl
 have hP:=R.pl
 subst hP
 have hm:mps o n ws= .agg [.int .i64 n,wes o l]:=by rw[R.eq];simp only[mps,wys,wes,List.map_map];rfl
 have hf:∀a',a'<n→∀h,aW Tryz.prog 135 [mps o n ws, .int .i64 a'] h (mB n l a'):=fun a' ha h=>by rw[hm];exact aIc o n l a' R.fit ha hn hlw h
 refine aD L.path_All_low fun hd=>?_
 simp only[jL,jM,jA,jB,jN,jO,jP,jQ,V.undef]
 have C1:=fun h=>mZ o n ws hl h
 refine aue (ee4 hmf hr decide_true decide_false) ?_
 refine aP (fun q:Nat×Own=>aB 21 0 [(1, .ptr nx (.agg 2) 0 0),(3, .sl .leaf q.2 (mK n l q.1)),(9, .int .i64 n),(10, .int .i64 q.1)])
  (fun q hp nx1=>q.1≤n∧nx+1≤nx1∧aH hp nx1∧Hp.same (nx+1) (h'.set nx (.arr (.agg 2) [mps o n ws])) hp∧Acc hp (nx+1) q.2 (mK n l q.1))
  (fun q=>n-q.1) (0, .nil) ⟨Nat.zero_le _,Nat.le_refl _,(by(try dsimp only);repeat (first|exact aH.up hd (by omega)|refine aH.set2 ?_ (by omega) _|refine aH.del ?_|refine aH.delO ?_ _)),Hp.same.rfl',Acc.nil⟩ ?_ ?_
 ·simp only[WkL,aB,jH,jI,jJ,mK,List.range_zero,List.map_nil,go_sem,reduceIte,jA,jB,jC,jD,reduceCtorEq,jE,jF]
 rintro⟨i,oo⟩ hp nx1 ⟨hi,hnx,hdm,hsm,hacc⟩
 generalize hQ:bG _ _ _ _ _=Q0
 dsimp only at hi hacc
 have c1:hp nx=some (.arr (.agg 2) [mps o n ws]):=by rw[hsm nx (by omega)];simp only[go_sem,reduceIte,jA,jB,jC,jD,reduceCtorEq,jE,jF]
 have hlt0:nx<nx1:=by omega
 have hlen:(mK n l i).length=i:=by simp[mK]
 simp only[aB,go_sem,reduceIte,jA,jB,jC,jD,reduceCtorEq,jE,jF]
 rcases Nat.lt_or_ge i n with hlt|hge
 ·have hc:decide ((i:Int)<(n:Int))=true:=by simpa using hlt
  have hw:IntKind.i64.wrap ((i:Int)+1)=((i+1:Nat):Int):=by rw[aV]<;>omega
  have hnn:mK n l (i+1)=mK n l i++[mB n l i]:=by simp[mK,List.range_succ]
  have hfl:(mB n l i).leafy=true:=rfl
  have C1:=fun h=>hf i hlt h
  refine aue (ee8 c1 hlt0 hc hlt hw hmf hfl hlen) ?_
  rw[←hQ]
  refine aC (i+1, .tok (nx1+1)) (by dsimp only;omega) ⟨hlt,by omega,(by(try dsimp only);repeat (first|exact aH.up hdm (by omega)|refine aH.set2 ?_ (by omega) _|refine aH.del ?_|refine aH.delO ?_ _)),(by(try dsimp only);repeat (first|exact hsm|refine aS ?_ (by omega) _|refine aT ?_ (by omega)|refine eN ?_ (fun id e=>by have:=(hacc).ge id e;omega))),?_⟩ ?_
  ·dsimp only;rw[hnn];exact Acc.new _ (by simp) (by omega)
  simp only[WkL,aB,jH,jI,jJ,hnn,go_sem,reduceIte,jA,jB,jC,jD,reduceCtorEq,jE,jF]
 have hc:decide ((i:Int)<(n:Int))=false:=by simpa using hge
 refine aue hc ?_
 rw[←hQ]
 refine aue hc ?_
 refine aF hp (Hp.le_refl _) ⟨oo,?_,?_,fun x hx=>by rw[hsm x (by omega)];unfold Hp.set;rw[if_neg (by omega)]⟩
 ·simp only[go_sem,reduceIte,jA,jB,jC,jD,reduceCtorEq,jE,jF]
  rw[show i=n by omega]
 rw[show i=n by omega] at hacc
 rcases hacc with h|⟨h1,id,h2,h3,h4⟩
 ·exact .inl h
 exact .inr ⟨h1,id,by omega,h3,h4⟩
end Go.Proofs.YtemjhgboialjpaaGreat
namespace Go.Proofs.YtemjhgboialjpaaGreat
open Go.RowKit Go.Sort
theorem aIU(S:Nat→Prop):∀n,S n→∃m,S m∧∀k,S k→m≤k:=by
 intro n
 induction n using Nat.strongRecOn with
 |ind n ih=>
  intro hn
  by_cases h:∃k,k<n∧S k
  ·obtain⟨k,h1,h2⟩:=h
   exact ih k h1 h2
  exact⟨n,hn,fun k hk=>Nat.le_of_not_lt fun hlt=>h ⟨k,hlt,hk⟩⟩
theorem sT(ws:List We)(a k:Nat)(b:Bool):(∀p,Val ws a k p→p.n≠b)∨∃q,Val ws a k q∧q.n=b∧∀p,Val ws a k p→p.n=b→q.a≤p.a:=by
 by_cases h:∃p,Val ws a k p∧p.n=b
 ·obtain⟨p,h1,h2⟩:=h
  obtain⟨m,⟨q,hq1,hq2,hq3⟩,hm⟩:=aIU (fun m=>∃q,Val ws a k q∧q.n=b∧q.a.toNat=m) _ ⟨p,h1,h2,rfl⟩
  refine .inr ⟨q,hq1,hq2,fun r hr hrb=>?_⟩
  have:=hm _ ⟨r,hr,hrb,rfl⟩
  have o1:=hr.ok
  have o2:=hq1.ok
  simp only[Pa.ok,Bool.and_eq_true,decide_eq_true_eq] at o1 o2
  omega
 exact .inl fun p hp e=>h ⟨p,hp,e⟩
theorem iS{p q:Pa}(h:p.n=q.n)(h2:p.a≤q.a):p.le q=true:=by
 obtain⟨n,a⟩:=p;obtain⟨m,b⟩:=q
 simp only at h h2
 subst h
 cases n<;>simp[Pa.le,h2]
theorem aIX(ws:List We)(a k:Nat):∃m,gT ws a k m:=by
 rcases sT ws a k false with hF|⟨f,f1,f2,f3⟩
 ·rcases sT ws a k true with hT|⟨t,t1,t2,t3⟩
  ·refine⟨[],List.Pairwise.nil,(fun p hp=>by cases hp),fun p hp=>?_⟩
   cases e:p.n with
   |false=>exact absurd e (hF p hp)
   |true=>exact absurd e (hT p hp)
  refine⟨[t],by simp[Can],(fun p hp=>by simp at hp;subst hp;exact t1),fun p hp=>⟨t,by simp,?_⟩⟩
  cases e:p.n with
  |false=>exact absurd e (hF p hp)
  |true=>exact iS (t2.trans e.symm) (t3 p hp e)
 rcases sT ws a k true with hT|⟨t,t1,t2,t3⟩
 ·refine⟨[f],by simp[Can],(fun p hp=>by simp at hp;subst hp;exact f1),fun p hp=>⟨f,by simp,?_⟩⟩
  cases e:p.n with
  |true=>exact absurd e (hT p hp)
  |false=>exact iS (f2.trans e.symm) (f3 p hp e)
 by_cases h:t.a≤f.a
 ·refine⟨[t],by simp[Can],(fun p hp=>by simp at hp;subst hp;exact t1),fun p hp=>⟨t,by simp,?_⟩⟩
  cases e:p.n with
  |true=>exact iS (t2.trans e.symm) (t3 p hp e)
  |false=>
   have:=f3 p hp e
   simp[Pa.le,t2,e]
   omega
 refine⟨[f,t],by simp[Can,f2,t2];omega,(fun p hp=>by simp at hp;rcases hp with rfl|rfl<;>assumption),fun p hp=>?_⟩
 cases e:p.n with
 |true=>exact⟨t,by simp,iS (t2.trans e.symm) (t3 p hp e)⟩
 |false=>exact⟨f,by simp,iS (f2.trans e.symm) (f3 p hp e)⟩
theorem aEP(ws:List We)(a k:Nat):gT ws a k (dB ws a k):=by
 obtain⟨m,hm⟩:=aIX ws a k
 rw[wV hm]
 exact hm
def adds(l:List We):Int:=(l.map fun w=>w.p.a).sum
theorem aDK{ws:List We}:∀{l:List We} {a k:Nat},iI ws a l k→∀w∈l,w∈ws
 | [],_,_,_,w,hw=>by cases hw
 |v::l,_,_,⟨h1,_,h3⟩,w,hw=>by
  rcases List.mem_cons.1 hw with rfl|hw
  ·exact h1
  exact aDK h3 w hw
theorem aFC(ws:List Wy):bT (bT ws)=bT ws:=
 Inc.unique Wy.ord (aBf _) (aBf _) fun x=>by rw[mG]
theorem aEG(P:Int)(ws:List Wy):cC P (bT ws)=cC P ws:=by
 have e:(∃w∈bT ws,w.fit P=false)↔∃w∈ws,w.fit P=false:=by simp only[mG]
 unfold cC
 rw[aFC]
 simp only[e]
theorem aGh{P:Int}{ws:List Wy}(h:(cC P ws).2=0):(cC P ws).1=(P,bT ws):=by
 unfold cC at h⊢
 split at h
 ·cases h
 rename_i h1
 split at h
 ·cases h
 rename_i h2
 split at h
 ·cases h
 rename_i h3
 rw[if_neg h1,if_neg h2,if_neg h3]
theorem aEF{P:Int}{ws:List Wy}(h:(cC P ws).2=0):∃n l,pD P (bT ws) n l:=by
 refine(kE P (bT ws)).1 ?_
 unfold gX
 rw[decide_eq_true_eq,aEG]
 exact⟨h,by rw[aGh h]⟩
theorem aIp(l:List We):eL (l.map We.wy)=adds l:=by
 unfold eL adds
 rw[List.map_map]
 rfl
end Go.Proofs.YtemjhgboialjpaaGreat
namespace Go.Proofs.YtemjhgboialjpaaGreat
open Go.Proofs.YtemjhgboialjpaaGreat renaming fE→uA,dU→uB,cM→uC,cN→uD,bV→uE,fF→uF,bQ→uG,cO→uH,cP→uI,bW→uJ,bX→uK,cG→uL,dP→uM,fG→uN,dG→uO,aZ→uP,gR→uQ,fS→uR,dA→uS
open Go.RowKit Go.Sort
attribute [local irreducible] IntKind.wrap
noncomputable def dL(P:Int)(ws:List Wy)(a b:Int):List Pa:=if gX P ws=true∧0≤a∧a<P∧0≤b∧b<P then dB (ws.map Wy.we) a.toNat b.toNat else []
theorem we_wy(l:List We):(l.map We.wy).map Wy.we=l:=by
 rw[List.map_map]
 have:l.map (Wy.we∘We.wy)=l.map id:=List.map_congr_left fun w _=>by obtain⟨f,t,p⟩:=w;simp[We.wy,Wy.we]
 rw[this,List.map_id]
theorem aGm(P:Int)(ws:List Wy)(a b:Int):Can (dL P ws a b):=by
 unfold dL
 split
 ·exact(aEP _ _ _).can
 exact List.Pairwise.nil
theorem aEB(n:Int)(h:Hp):aW Tryz.prog 13 [jZ n] h (.int .i64 n):=by
 refine aR (fun L=>trivial) fun h' nx hh=>aD L.corollarynum_Num_low fun hd=>?_
 simp only[jL,jM,jA,jB,jN,jO,jP,jQ,V.undef]
 by_cases hn:n=0
 ·subst hn
  refine aue aKU ?_
  refine aF h' (by repeat (first|exact Hp.le_refl _|refine aK hd ?_ (by omega) _|refine aL hd ?_ (by omega))) ⟨?_,rfl⟩
  simp only[go_sem,reduceIte,jA,jB,jC,jD,reduceCtorEq,jE,jF]
 have e:jZ n= .iface 48 (.int .i64 n):=by unfold jZ;rw[if_neg hn]
 have e2:(n != 0)=true:=by simpa using hn
 refine aue (ee2 e e2) ?_
 refine aF h' (by repeat (first|exact Hp.le_refl _|refine aK hd ?_ (by omega) _|refine aL hd ?_ (by omega))) ⟨?_,rfl⟩
 simp only[go_sem,reduceIte,jA,jB,jC,jD,reduceCtorEq,jE,jF]
def aAv(P:Int)(ws:List Wy):Bool:=(decide (14<P)&&decide (P≤200))||decide (40<(ws.length:Int))
theorem aGo(o:Own)(P:Int)(ws:List Wy)(h:Hp):aW Tryz.prog 16 [mps o P ws] h (.bool (aAv P ws)):=by
 have hmf:(mps o P ws).fits (.agg 2)=true:=by simp[mps,V.fits,V.leafy,wys]
 refine aR (fun L=>trivial) fun h' nx hh=>aD L.corollarylaw22_Large_low fun hd=>?_
 simp only[jL,jM,jA,jB,jN,jO,jP,jQ,V.undef]
 unfold aAv
 cases h1:decide (14<P)<;>cases h2:decide (P≤200)
 all_goals ((repeat' (first|(with_reducible first|refine stp ?_|refine uP (by decide) ?_|refine uQ (fun _=>?_) (fun _=>?_))|((first|(with_reducible refine uA ?_;first|refine uB rfl ?_ ?_|(first|refine uC rfl ?_|refine uD rfl ?_)|refine uE rfl ?_)|(with_reducible refine uF ?_;first|refine uG rfl ?_ ?_|(first|refine uH rfl ?_|refine uI rfl ?_)|refine uJ rfl ?_|refine uK (uL ?_)|refine uK (uM ?_))|(with_reducible refine uN ?_;refine uO rfl ?_))<;>try simp only[hmf,h1,h2,jK,go_sem,reduceIte,jA,jB,jC,jD,reduceCtorEq,jE,jF])|(with_reducible refine uR ?_;refine uS rfl ?_)|omega)))
 all_goals refine aF h' (by repeat (first|exact Hp.le_refl _|refine aK hd ?_ (by omega) _|refine aL hd ?_ (by omega))) ⟨?_,rfl⟩
 all_goals simp only[jK,Bool.false_or,Bool.true_or,go_sem,reduceIte,jA,jB,jC,jD,reduceCtorEq,jE,jF]
theorem aHM{P:Int}{ws:List Wy}(h:aAv P ws=false):ws.length≤40:=by
 unfold aAv at h
 rw[Bool.or_eq_false_iff] at h
 have:=of_decide_eq_false h.2
 omega
end Go.Proofs.YtemjhgboialjpaaGreat
namespace Go.Proofs.YtemjhgboialjpaaGreat
open Go.RowKit Go.Sort
attribute [local irreducible] IntKind.wrap
set_option maxRecDepth 100000 in
theorem aHl(o:Own)(l:List Wy)(hl:l.length≤100000)(h:Hp):aW Tryz.prog 66 [wys o l] h (lst (.agg 4) (l.map Wy.v)):=by
 refine cK (fun L=>cE (fun L=>bI (Wy.names_v L) _) L) fun h' nx hh=>aD L.corollarylaw22_Ways_low fun hd=>?_
 simp only[jL,jM,jA,jB,jN,jO,jP,jQ,V.undef]
 refine aue trivial ?_
 refine aP (fun q:Nat×Own=>aB 25 0 [(3,wys q.2 (l.take q.1)),(6,wys o l),(7, .int .i64 l.length),(8, .int .i64 q.1)])
  (fun q hp nx1=>q.1≤l.length∧nx≤nx1∧aH hp nx1∧Hp.same nx h' hp∧Acc hp nx q.2 ((l.take q.1).map Wy.v))
  (fun q=>l.length-q.1) (0, .nil) ⟨Nat.zero_le _,Nat.le_refl _,hd,Hp.same.rfl',Acc.nil⟩ ?_ ?_
 ·simp only[WkL,aB,jH,jI,jJ,wys,List.take_zero,List.map_nil,go_sem,reduceIte,jA,jB,jC,jD,reduceCtorEq,jE,jF]
 rintro⟨i,oo⟩ hp nx1 ⟨hi,hnx,hdm,hsm,hacc⟩
 generalize hQ:bG _ _ _ _ _=Q0
 dsimp only at hi hacc
 simp only[aB,go_sem,reduceIte,jA,jB,jC,jD,reduceCtorEq,jE,jF]
 rcases Nat.lt_or_ge i l.length with hlt|hge
 ·have hc:decide ((i:Int)<(l.length:Int))=true:=decide_eq_true (by omega)
  have hg:(l.map Wy.v).getD i (.tup [])= .agg [.int .i64 l[i].f, .int .i64 l[i].t, .bool l[i].p.n, .int .i64 l[i].p.a]:=bE Wy.v l i hlt
  have hw:IntKind.i64.wrap ((i:Int)+1)=((i+1:Nat):Int):=by rw[aV]<;>omega
  have htk:(l.take (i+1)).map Wy.v=(l.take i).map Wy.v++[.agg [.int .i64 l[i].f, .int .i64 l[i].t, .bool l[i].p.n, .int .i64 l[i].p.a]]:=by
   rw[List.take_succ_eq_append_getElem hlt,List.map_append];rfl
  have hlen:((l.take i).map Wy.v).length=i:=by simp;omega
  have hb1:(i+1)*32≤140737488355328:=by omega
  have hrp:∀h,aW Tryz.prog 134 [.agg [.bool l[i].p.n, .int .i64 l[i].p.a]] h (.agg [.bool l[i].p.n, .int .i64 l[i].p.a]):=fun h=>aGa l[i].p h
  rcases hacc with⟨he,rfl⟩|⟨hne,id,hid,rfl,htip⟩
  ·have hi0:i=0:=by rw[he] at hlen;simpa using hlen.symm
   have D1:=fun h=>hrp h
   refine aue (ee5 hc hg hlt hw he) ?_
   rw[←hQ]
   refine aC (i+1, .tok (nx1+12)) (by dsimp only;omega) ⟨hlt,by omega,(by(try dsimp only);repeat (first|exact aH.up hdm (by omega)|refine aH.set2 ?_ (by omega) _|refine aH.del ?_|refine aH.delO ?_ _)),(by(try dsimp only);repeat (first|exact hsm|refine aS ?_ (by omega) _|refine aT ?_ (by omega))),?_⟩ ?_
   ·dsimp only;rw[htk];exact Acc.new _ (by simp) (by omega)
   simp only[WkL,aB,jH,jI,jJ,wys,htk,he,go_sem,reduceIte,jA,jB,jC,jD,reduceCtorEq,jE,jF]
  have hidn:id<nx1:=hdm id _ htip
  have e1:(id=nx1)=False:=eq_false (by omega)
  have ca:iV ((hp.set nx1 (Blk.arr (Sh.agg 4) [V.agg [V.int IntKind.i64 0,V.int IntKind.i64 0,V.bool false,V.int IntKind.i64 0]])).set nx1 (Blk.arr (Sh.agg 4) [V.agg [V.int IntKind.i64 l[i].f,V.int IntKind.i64 l[i].t,V.bool l[i].p.n,V.int IntKind.i64 l[i].p.a]])) (nx1+2) [0,1,2,3,4,5,6,7,8,9] [none,none,none,none,none,none,none,none,none,some Blk.tip] [none,none,none,none,none,none,none,none,none,none] id Blk.tip:=
   ⟨by simp[cJ], .inl ⟨by omega,by simp only[htip,e1,go_sem,reduceIte,jA,jB,jC,jD,reduceCtorEq,jE,jF]⟩⟩
  have D1:=fun h=>hrp h
  refine aue (ee9 hc hg hlt hw hlen htip hidn hb1 ca) ?_
  rw[←hQ]
  refine aC (i+1, .tok (nx1+12)) (by dsimp only;omega) ⟨hlt,by omega,(by(try dsimp only);repeat (first|exact aH.up hdm (by omega)|refine aH.set2 ?_ (by omega) _|refine aH.del ?_|refine aH.delO ?_ _)),(by(try dsimp only);repeat (first|exact hsm|refine aS ?_ (by omega) _|refine aT ?_ (by omega))),?_⟩ ?_
  ·dsimp only;rw[htk];exact(Acc.new _ (by simp) (by omega)).del (fun e=>by injection e;omega)
  simp only[WkL,aB,jH,jI,jJ,wys,htk,go_sem,reduceIte,jA,jB,jC,jD,reduceCtorEq,jE,jF]
 have hc:decide ((i:Int)<(l.length:Int))=false:=decide_eq_false (by omega)
 refine aue hc ?_
 rw[←hQ]
 refine au ?_
 have htl:l.take i=l:=List.take_of_length_le (by omega)
 rw[htl] at hacc
 refine aF h' (hsm.le hd (Hp.le_refl _)) ⟨?_,Hp.le_refl _⟩
 simp only[htl,go_sem,reduceIte,jA,jB,jC,jD,reduceCtorEq,jE,jF]
 rw[hacc.loose]
 rfl
theorem zH(o:Own)(P:Int)(ws:List Wy)(hl:ws.length≤100000)(h:Hp):aW Tryz.prog 17 [mps o P ws] h (wP P ws):=by
 refine aR (fun L=>sQ P ws L) fun h' nx hh=>aD L.corollarylaw22_Document_low fun hd=>?_
 have hmf:(mps o P ws).fits (.agg 2)=true:=by simp[mps,V.fits,V.leafy,wys]
 simp only[jL,jM,jA,jB,jN,jO,jP,jQ,V.undef]
 unfold wP
 obtain⟨o2,ho2⟩:=gY (.agg 4) (ws.map Wy.v)
 have hmf2:(V.agg [.int .i64 P,wys o2 ws]).fits (.agg 2)=true:=by simp[V.fits,V.leafy]
 rw[ho2]
 have hwp:∀h,aW Tryz.prog 66 [wys o ws] h (wys o2 ws):=fun h=>by
  have e:=aHl o ws hl h
  rw[ho2] at e
  exact e
 have D1:=fun h=>hwp h
 refine aue (ee2 hmf hmf2) ?_
 refine pV (by simp only[go_sem,reduceIte,jA,jB,jC,jD,reduceCtorEq,jE,jF]) h' (by repeat (first|exact Hp.le_refl _|refine aK hd ?_ (by omega) _|refine aL hd ?_ (by omega))) ⟨?_,rfl⟩
 simp only[go_sem,reduceIte,jA,jB,jC,jD,reduceCtorEq,jE,jF]
end Go.Proofs.YtemjhgboialjpaaGreat
namespace Go.Proofs.YtemjhgboialjpaaGreat
open Go.RowKit Go.Sort
def upd(T:Nat→Nat→Bool)(i j:Nat)(b:Bool):Nat→Nat→Bool:=fun x y=>if x=i∧y=j then b else T x y
def Wsh(E:Nat→Nat→Prop)(n k i j:Nat)(T:Nat→Nat→Bool):Prop:=∀x y,x<n→y<n→(T x y=true↔if x<i∨(x=i∧y<j) then Via E (k+1) x y else Via E k x y)
section
variable{E:Nat→Nat→Prop}{n k i j:Nat}{T:Nat→Nat→Bool}
theorem Wsh.first(h:∀x y,x<n→y<n→(T x y=true↔E x y)):Wsh E n 0 0 0 T:=fun x y hx hy=>by
 rw[if_neg (by omega)];exact h x y hx hy
theorem Wsh.rowEnd(W:Wsh E n k i n T):Wsh E n k (i+1) 0 T:=fun x y hx hy=>by
 rw[W x y hx hy]
 by_cases e:x<i∨(x=i∧y<n)
 ·rw[if_pos e,if_pos (by omega)]
 rw[if_neg e,if_neg (by omega)]
theorem aJQ(x k':Nat):Via E (k'+1) x k'↔Via E k' x k':=by
 constructor
 ·rintro(h|⟨h,_⟩)<;>exact h
 exact .inl
theorem aJP(y k':Nat):Via E (k'+1) k' y↔Via E k' k' y:=by
 constructor
 ·rintro(h|⟨_,h⟩)<;>exact h
 exact .inl
theorem Wsh.col(W:Wsh E n k i j T)(hk:k<n)(x:Nat)(hx:x<n):T x k=true↔Via E k x k:=by
 rw[W x k hx hk];split
 ·exact aJQ x k
 exact Iff.rfl
theorem Wsh.row(W:Wsh E n k i j T)(hk:k<n)(y:Nat)(hy:y<n):T k y=true↔Via E k k y:=by
 rw[W k y hk hy];split
 ·exact aJP y k
 exact Iff.rfl
theorem Wsh.no(W:Wsh E n k i j T)(hk:k<n)(hi:i<n)(h:T i k=false):Wsh E n k (i+1) 0 T:=fun x y hx hy=>by
 have hn:¬Via E k i k:=fun hv=>by rw[(W.col hk i hi).2 hv] at h;cases h
 rw[W x y hx hy]
 by_cases e:x=i
 ·subst e
  have he:Via E (k+1) x y↔Via E k x y:=⟨fun hv=>hv.elim id fun hv=>absurd hv.1 hn, .inl⟩
  rw[if_pos (show x<x+1∨_ from .inl (by omega))]
  split
  ·exact Iff.rfl
  exact he.symm
 by_cases e2:x<i
 ·rw[if_pos (.inl e2),if_pos (.inl (by omega))]
 rw[if_neg (by omega),if_neg (by omega)]
theorem Wsh.step(W:Wsh E n k i j T)(hk:k<n)(hi:i<n)(hj:j<n)(h:T i k=true):Wsh E n k i (j+1) (upd T i j (T i j||T k j)):=fun x y hx hy=>by
 have hv:=(W.col hk i hi).1 h
 by_cases e:x=i∧y=j
 ·obtain⟨rfl,rfl⟩:=e
  have h1:=W x y hx hy
  rw[if_neg (by omega)] at h1
  have h2:=W.row hk y hy
  rw[if_pos (.inr ⟨rfl,by omega⟩)]
  unfold upd
  rw[if_pos ⟨rfl,rfl⟩,Bool.or_eq_true,h1,h2]
  constructor
  ·rintro(h|h)
   ·exact .inl h
   exact .inr ⟨hv,h⟩
  rintro(h|h)
  ·exact .inl h
  exact .inr h.2
 unfold upd
 rw[if_neg e,W x y hx hy]
 by_cases e2:x<i∨(x=i∧y<j)
 ·rw[if_pos e2,if_pos (by omega)]
 rw[if_neg e2,if_neg (by omega)]
theorem Wsh.next(W:Wsh E n k n 0 T):Wsh E n (k+1) 0 0 T:=fun x y hx hy=>by
 rw[W x y hx hy,if_pos (.inl hx),if_neg (by omega)]
theorem Wsh.done(W:Wsh E n n 0 0 T)(hE:∀i j,E i j→i<n∧j<n)(x y:Nat)(hx:x<n)(hy:y<n):T x y=true↔eY E x y:=by
 rw[W x y hx hy,if_neg (by omega)]
 exact Via.iff hE x y
end
def fD{α:Type}(n:Nat)(f:Nat→α):List α:=(List.range n).map f
theorem eR{α:Type}(n:Nat)(f:Nat→α):(fD n f).length=n:=by simp[fD]
theorem wH{n i:Nat}(f:Nat→V)(h:i<n):(fD n f).getD i (.tup [])=f i:=by
 unfold fD
 rw[List.getD_eq_getElem?_getD,List.getElem?_eq_getElem (by simpa using h)]
 simp
theorem pQ{α:Type}{n i:Nat}(f:Nat→α)(v:α):(fD n f).set i v=fD n fun x=>if x=i then v else f x:=by
 refine List.ext_getElem (by simp[fD]) fun j h1 h2=>?_
 rw[List.getElem_set]
 simp only[fD,List.getElem_map,List.getElem_range]
 by_cases e:i=j
 ·simp[e]
 have:¬j=i:=fun h=>e h.symm
 simp[e,this]
theorem lQ{α:Type}(n:Nat)(v:α):List.replicate n v=fD n fun _=>v:=by
 refine List.ext_getElem (by simp[fD]) fun j h1 h2=>?_
 simp[fD]
theorem iP{α:Type}{n:Nat}{f g:Nat→α}(h:∀i,i<n→f i=g i):fD n f=fD n g:=by
 unfold fD
 exact List.map_congr_left fun i hi=>h i (by simpa using hi)
def gP(l:List Pa)(i:Nat):Pa:=l.getD i Pa.nought
def aGF(l:List Pa)(i k:Nat):Bool:=(gP l k).le (gP l i)&&(decide (gP l k≠gP l i)||decide (k<i))
def mT(l:List Pa)(i m:Nat):Bool:= !((List.range m).any (aGF l i))
def nT(l:List Pa)(i:Nat):Bool:=mT l i l.length
theorem aGr(l:List Pa)(i:Nat):mT l i 0=true:=rfl
theorem aGs(l:List Pa)(i m:Nat):mT l i (m+1)=(mT l i m&& !(aGF l i m)):=by
 simp[mT,List.range_succ,List.any_append]
def sOf(b:Bool)(l:List Pa)(i:Nat):List Pa:=((List.range i).filter fun j=>nT l j&&(gP l j).n==b).map (gP l)
theorem aIN(b:Bool)(l:List Pa):sOf b l 0=[]:=rfl
theorem aEd(b:Bool)(l:List Pa)(i:Nat):sOf b l (i+1)=sOf b l i++(if (nT l i&&(gP l i).n==b)=true then [gP l i] else []):=by
 unfold sOf
 rw[List.range_succ,List.filter_append,List.map_append]
 congr 1
 split
 ·rename_i h;rw[List.filter_cons,if_pos h];rfl
 rename_i h;rw[List.filter_cons,if_neg h];rfl
def mX(l:List Pa):List Pa:=sOf false l l.length++sOf true l l.length
theorem aGO(b:Bool)(l:List Pa)(i:Nat):(sOf b l i).length≤i:=by
 unfold sOf
 rw[List.length_map]
 exact Nat.le_trans (List.length_filter_le _ _) (by simp)
theorem aGx{l:List Pa}{i:Nat}(h:i<l.length):gP l i∈l:=by
 unfold gP
 rw[List.getD_eq_getElem?_getD,List.getElem?_eq_getElem h]
 exact List.getElem_mem _
theorem wY(l:List Pa)(i:Nat):nT l i=true↔∀k,k<l.length→aGF l i k=false:=by
 unfold nT mT
 simp
theorem wX{l:List Pa}{i j:Nat}(hi:i<l.length)(hj:j<l.length)(ki:nT l i=true)(kj:nT l j=true)(hij:i≠j):(gP l i).le (gP l j)=false:=by
 cases e:(gP l i).le (gP l j) with
 |false=>rfl
 |true=>
  have h1:=(wY l j).1 kj i hi
  have h2:=(wY l i).1 ki j hj
  unfold aGF at h1 h2
  rw[e,Bool.true_and,Bool.or_eq_false_iff] at h1
  have h3:gP l i=gP l j:=by
   have:=of_decide_eq_false h1.1
   exact Classical.byContradiction this
  have h4:=of_decide_eq_false h1.2
  rw[h3,Pa.le_refl,Bool.true_and,Bool.or_eq_false_iff] at h2
  have:=of_decide_eq_false h2.2
  omega
theorem aIZ{l:List Pa}{i j:Nat}(hi:i<l.length)(hj:j<l.length)(ki:nT l i=true)(kj:nT l j=true)(hn:(gP l i).n=(gP l j).n):i=j:=by
 refine Classical.byContradiction fun hij=>?_
 rcases Int.le_total (gP l i).a (gP l j).a with h|h
 ·have:=iS hn h
  rw[wX hi hj ki kj hij] at this
  cases this
 have:=iS hn.symm h
 rw[wX hj hi kj ki (fun e=>hij e.symm)] at this
 cases this
theorem tR{b:Bool}{l:List Pa}{x:Pa}:x∈sOf b l l.length↔∃i,i<l.length∧nT l i=true∧(gP l i).n=b∧gP l i=x:=by
 unfold sOf
 simp only[List.mem_map,List.mem_filter,List.mem_range,Bool.and_eq_true,beq_iff_eq]
 constructor
 ·rintro⟨i,⟨h1,h2,h3⟩,h4⟩;exact⟨i,h1,h2,h3,h4⟩
 rintro⟨i,h1,h2,h3,h4⟩;exact⟨i,⟨h1,h2,h3⟩,h4⟩
theorem aEe(b:Bool)(l:List Pa)(R:Pa→Pa→Prop):(sOf b l l.length).Pairwise R:=by
 unfold sOf
 rw[List.pairwise_map]
 have h1:((List.range l.length).filter fun j=>nT l j&&(gP l j).n==b).Pairwise (·< ·):=(List.pairwise_lt_range).filter _
 refine h1.imp_of_mem fun{i j} hi hj hlt=>?_
 simp only[List.mem_filter,List.mem_range,Bool.and_eq_true,beq_iff_eq] at hi hj
 have:=aIZ hi.1 hj.1 hi.2.1 hj.2.1 (hi.2.2.trans hj.2.2.symm)
 omega
theorem aEa{l:List Pa}(h0:∀p∈l,0≤p.a):aJM l (mX l):=by
 refine⟨List.pairwise_append.2 ⟨aEe _ _ _,aEe _ _ _,fun x hx y hy=>?_⟩,fun p hp=>?_,fun p hp=>?_⟩
 ·obtain⟨i,hi,ki,ni,rfl⟩:=tR.1 hx
  obtain⟨j,hj,kj,nj,rfl⟩:=tR.1 hy
  refine⟨ni,nj,?_⟩
  have:=wX hj hi kj ki (fun e=>by subst e;rw[ni] at nj;cases nj)
  simp[Pa.le,nj] at this
  exact this
 ·rcases List.mem_append.1 hp with hp|hp<;>obtain⟨i,hi,_,_,rfl⟩:=tR.1 hp<;>exact aGx hi
 obtain⟨i0,hi0,e0⟩:=List.getElem_of_mem hp
 have eg:gP l i0=p:=by
  unfold gP
  rw[List.getD_eq_getElem?_getD,List.getElem?_eq_getElem hi0]
  exact e0
 let M:Pa→Nat:=fun q=>2*q.a.toNat+(if q.n=true then 0 else 1)
 obtain⟨m,⟨i,hi,hle,rfl⟩,hmin⟩:=aIU (fun m=>∃i,i<l.length∧(gP l i).le p=true∧M (gP l i)*(l.length+1)+i=m) _ ⟨i0,hi0,by rw[eg];exact Pa.le_refl p,rfl⟩
 have kp:nT l i=true:=by
  refine(wY l i).2 fun k hk=>?_
  cases eb:aGF l i k with
  |false=>rfl
  |true=>
   exfalso
   unfold aGF at eb
   rw[Bool.and_eq_true,Bool.or_eq_true,decide_eq_true_eq,decide_eq_true_eq] at eb
   obtain⟨h1,h2⟩:=eb
   have h3:=hmin _ ⟨k,hk,Pa.le_trans h1 hle,rfl⟩
   by_cases e:gP l k=gP l i
   ·rw[e] at h3
    rcases h2 with h2|h2
    ·exact h2 e
    omega
   have a1:=h0 _ (aGx hk)
   have a2:=h0 _ (aGx hi)
   have hM:M (gP l k)+1≤M (gP l i):=by
    simp only[M]
    revert h1 e a1 a2
    generalize gP l k=q
    generalize gP l i=r
    obtain⟨n,a⟩:=q;obtain⟨o,c⟩:=r
    intro h1 e a1 a2
    cases n<;>cases o<;>simp[Pa.le] at*<;>omega
   have:=Nat.mul_le_mul_right (l.length+1) hM
   rw[Nat.add_mul] at this
   omega
 refine⟨gP l i,?_,hle⟩
 cases en:(gP l i).n with
 |false=>exact List.mem_append_left _ (tR.2 ⟨i,hi,kp,en,rfl⟩)
 |true=>exact List.mem_append_right _ (tR.2 ⟨i,hi,kp,en,rfl⟩)
end Go.Proofs.YtemjhgboialjpaaGreat
namespace Go.Proofs.YtemjhgboialjpaaGreat
open Go.Proofs.YtemjhgboialjpaaGreat renaming fE→uA,dU→uB,cM→uC,cN→uD,bV→uE,fF→uF,bQ→uG,cO→uH,cP→uI,bW→uJ,bX→uK,cG→uL,dP→uM,fG→uN,dG→uO,aZ→uP,gR→uQ,fS→uR,dA→uS
open Go.RowKit Go.Sort
attribute [local irreducible] IntKind.wrap
theorem gQ(p q:Pa)(h:Hp):aW Tryz.prog 259 [p.v,q.v] h (.bool (p.le q)):=by
 refine aR (fun L=>trivial) fun h' nx hh=>aD L.corollaryref20_PathAtMost_low fun hd=>?_
 obtain⟨n,a⟩:=p
 obtain⟨m,b⟩:=q
 simp only[jL,jM,jA,jB,jN,jO,jP,jQ,V.undef]
 cases n<;>cases m<;>(repeat' (first|(with_reducible first|refine stp ?_|refine uP (by decide) ?_|refine uQ (fun _=>?_) (fun _=>?_))|((first|(with_reducible refine uA ?_;first|refine uB rfl ?_ ?_|(first|refine uC rfl ?_|refine uD rfl ?_)|refine uE rfl ?_)|(with_reducible refine uF ?_;first|refine uG rfl ?_ ?_|(first|refine uH rfl ?_|refine uI rfl ?_)|refine uJ rfl ?_|refine uK (uL ?_)|refine uK (uM ?_))|(with_reducible refine uN ?_;refine uO rfl ?_))<;>try simp only[Pa.v,go_sem,reduceIte,jA,jB,jC,jD,reduceCtorEq,jE,jF])|(with_reducible refine uR ?_;refine uS rfl ?_)|omega))
 all_goals refine aF h' (by repeat (first|exact Hp.le_refl _|refine aK hd ?_ (by omega) _|refine aL hd ?_ (by omega))) ⟨?_,rfl⟩
 all_goals simp[Pa.le]
theorem aKN{n m:Bool}{a b:Int}(h1:Pa.ok ⟨n,a⟩=true)(h2:Pa.ok ⟨m,b⟩=true):Pa.ok ⟨n,a+b⟩=decide (a+b≤1048576):=by
 simp only[Pa.ok,Bool.and_eq_true,decide_eq_true_eq] at h1 h2⊢
 by_cases e:a+b≤1048576
 ·simp[e];omega
 simp[e]
theorem aEh(p q:Pa)(h:Hp):aW Tryz.prog 225 [p.v,q.v] h (.tup [(p.then q).1.v, .int .i64 (p.then q).2]):=by
 refine aR (fun L=>by simp[V.names,bP,Pa.v]) fun h' nx hh=>aD L.corollaryref20_Then_low fun hd=>?_
 obtain⟨n,a⟩:=p
 obtain⟨m,b⟩:=q
 have hw:=aBV ⟨n,a⟩ ⟨m,b⟩
 simp only[jL,jM,jA,jB,jN,jO,jP,jQ,V.undef]
 (repeat' (first|(with_reducible first|refine stp ?_|refine uP (by decide) ?_|refine uQ (fun _=>?_) (fun _=>?_))|((first|(with_reducible refine uA ?_;first|refine uB rfl ?_ ?_|refine aM (iM ⟨_,_⟩ _) rfl (aO _) ?_|(first|refine uC rfl ?_|refine uD rfl ?_)|refine uE rfl ?_)|(with_reducible refine uF ?_;first|refine uG rfl ?_ ?_|(first|refine uH rfl ?_|refine uI rfl ?_)|refine uJ rfl ?_|refine uK (uL ?_)|refine uK (uM ?_))|(with_reducible refine uN ?_;refine uO rfl ?_))<;>try simp only[Pa.v,go_sem,reduceIte,jA,jB,jC,jD,reduceCtorEq,jE,jF])|(with_reducible refine uR ?_;refine uS rfl ?_)|omega))
 all_goals refine cA (by simp only[go_sem,reduceIte,jA,jB,jC,jD,reduceCtorEq,jE,jF]) h' (by repeat (first|exact Hp.le_refl _|refine aK hd ?_ (by omega) _|refine aL hd ?_ (by omega))) ⟨?_,rfl⟩
 all_goals simp only[go_sem,reduceIte,jA,jB,jC,jD,reduceCtorEq,jE,jF]
 all_goals cases hp:Pa.ok ⟨n,a⟩<;>cases ht:Pa.ok ⟨m,b⟩<;>(try have hsum:=aKN hp ht)<;>simp_all [Pa.then,Pa.nought]
theorem aCs(p q:Wy)(h:Hp):aW Tryz.prog 188 [p.v,q.v] h (.bool (p.less q)):=by
 refine aR (fun L=>trivial) fun h' nx hh=>aD L.corollaryref22_Less_low fun hd=>?_
 obtain⟨f,t,n,a⟩:=p
 obtain⟨f',t',m,b⟩:=q
 simp only[jL,jM,jA,jB,jN,jO,jP,jQ,V.undef]
 cases n<;>cases m<;>(repeat' (first|(with_reducible first|refine stp ?_|refine uP (by decide) ?_|refine uQ (fun _=>?_) (fun _=>?_))|((first|(with_reducible refine uA ?_;first|refine uB rfl ?_ ?_|(first|refine uC rfl ?_|refine uD rfl ?_)|refine uE rfl ?_)|(with_reducible refine uF ?_;first|refine uG rfl ?_ ?_|(first|refine uH rfl ?_|refine uI rfl ?_)|refine uJ rfl ?_|refine uK (uL ?_)|refine uK (uM ?_))|(with_reducible refine uN ?_;refine uO rfl ?_))<;>try simp only[Wy.v,go_sem,reduceIte,jA,jB,jC,jD,reduceCtorEq,jE,jF])|(with_reducible refine uR ?_;refine uS rfl ?_)|omega))
 all_goals refine aF h' (by repeat (first|exact Hp.le_refl _|refine aK hd ?_ (by omega) _|refine aL hd ?_ (by omega))) ⟨?_,rfl⟩
 all_goals simp only[Wy.less,num,go_sem,reduceIte,jA,jB,jC,jD,reduceCtorEq,jE,jF]
 all_goals simp_all
 all_goals omega
theorem aAZ{h0:Hp}{x a d c:Nat}{deps:List Nat}{adds:List (Option Blk)}{cons:List (Option Con)}{b:Blk}(e:c=a+d)(hd:d∈deps)(ha:adds.getD d none=some b)(hu:cJ (x+c) cons):iV h0 (x+a) deps adds cons (x+c) b:=⟨hu, .inr ⟨d,hd,by omega,ha⟩⟩
theorem aHr(o:Own)(l:List Wy)(w:Wy)(hl:l.length≤100000)(h':Hp)(nx:Nat):
 aX Tryz.prog 137 [wys o l,w.v] h' nx fun v h'' nx2=>(v=wys o (nF Wy.less l w)∧h''=h'∧l≠ [])∨(∃id,nx≤id∧id<nx2∧v=wys (.tok id) (nF Wy.less l w)∧h''=h'.set id .tip):=by
 refine aD L.corollaryref22_Put_low fun hd=>?_
 simp only[jL,jM,jA,jB,jN,jO,jP,jQ,V.undef]
 (repeat' (first|(with_reducible first|refine stp ?_|refine uP (by decide) ?_|refine uQ (fun _=>?_) (fun _=>?_))|((first|(with_reducible refine uA ?_;first|refine uB rfl ?_ ?_|(first|refine uC rfl ?_|refine uD rfl ?_)|refine uE rfl ?_)|(with_reducible refine uF ?_;first|refine uG rfl ?_ ?_|(first|refine uH rfl ?_|refine uI rfl ?_)|refine uJ rfl ?_|refine uK (uL ?_)|refine uK (uM ?_))|(with_reducible refine uN ?_;refine uO rfl ?_))<;>try simp only[Wy.fits_v w,go_sem,reduceIte,jA,jB,jC,jD,reduceCtorEq,jE,jF])|(with_reducible refine uR ?_;refine uS rfl ?_)|omega))
 refine aP (fun i:Nat=>aB 45 0 [(0,wys o l),(3, .ptr nx (.agg 4) 0 0),(5, .int .i64 i)])
  (fun i hp nx1=>i≤l.length∧nx+1≤nx1∧aH hp nx1∧hp=h'.set nx (.arr (.agg 4) [w.v])∧∀j (hj:j<i) (hj':j<l.length),l[j].less w=true)
  (fun i=>l.length-i) 0 ⟨Nat.zero_le _,Nat.le_refl _,(by(try dsimp only);repeat (first|exact aH.up hd (by omega)|refine aH.set2 ?_ (by omega) _|refine aH.del ?_|refine aH.delO ?_ _)),rfl,fun j hj=>absurd hj (by omega)⟩ ?_ ?_
 ·simp only[WkL,aB,jH,jI,jJ,wys,go_sem,reduceIte,jA,jB,jC,jD,reduceCtorEq,jE,jF]
 rintro i hp nx1 ⟨hi,hnx,hdm,rfl,hles⟩
 generalize hQ:bG _ _ _ _ _=Q0
 have hlt0:nx<nx1:=by omega
 have hta:((l.map Wy.v).take i).length=i:=by simp;omega
 have htb:((l.map Wy.v).take i++[w.v]).length=i+1:=by simp;omega
 have hb1:(i+1)*32≤140737488355328:=by omega
 have ca1:∀H,iV H (nx1+24) [0,1,2,3,4,5,6] [some Blk.tip,none,none,none,some Blk.tip,none,some Blk.tip] [none,none,none,none,some {n:=nx1+24,old:=Blk.tip,new:=none},none,none] (nx1+28) Blk.tip:=fun H=>aAZ (d:=4) rfl (by decide) rfl ⟨by simp,trivial⟩
 have ca2:∀H,iV H (nx1+24) [0,1,2,3,4,5,6,7,8,9,10] [some Blk.tip,none,none,none,some Blk.tip,none,some Blk.tip,some Blk.tip,none,none,none] [none,none,none,none,some {n:=nx1+24,old:=Blk.tip,new:=none},none,none,some {n:=nx1+28,old:=Blk.tip,new:=none},none,none,none] (nx1+31) Blk.tip:=fun H=>aAZ (d:=7) rfl (by decide) rfl ⟨by simp,by simp,trivial⟩
 simp only[aB,go_sem,reduceIte,jA,jB,jC,jD,reduceCtorEq,jE,jF]
 rcases Nat.lt_or_ge i l.length with hlt|hge
 ·have hc:decide ((i:Int)<(l.length:Int))=true:=by simpa using hlt
  have hg:=bE Wy.v l i hlt
  have hw:IntKind.i64.wrap ((i:Int)+1)=((i+1:Nat):Int):=by rw[aV]<;>omega
  cases hls:l[i].less w with
  |true=>
   (repeat' (first|(with_reducible first|refine stp ?_|refine uP (by decide) ?_|refine uQ (fun _=>?_) (fun _=>?_))|((first|(with_reducible refine uA ?_;first|refine uB rfl ?_ ?_|(first|refine uC rfl ?_|refine uD rfl ?_)|refine uE rfl ?_)|(with_reducible refine uF ?_;first|refine uG rfl ?_ ?_|refine bF (aCs l[i] w _) rfl (bH _) ?_|(first|refine uH rfl ?_|refine uI rfl ?_)|refine uJ rfl ?_|refine uK (uL ?_)|refine uK (uM ?_))|(with_reducible refine uN ?_;refine uO rfl ?_))<;>try simp only[hc,hg,hlt,hw,hls,hlt0,Wy.fits_v,jK,go_sem,reduceIte,jA,jB,jC,jD,reduceCtorEq,jE,jF])|(with_reducible refine uR ?_;refine uS rfl ?_)|omega))
   rw[←hQ]
   refine aC (i+1) (by omega) ⟨hlt,by omega,(by(try dsimp only);repeat (first|exact aH.up hdm (by omega)|refine aH.set2 ?_ (by omega) _|refine aH.del ?_|refine aH.delO ?_ _)),rfl,fun j hj hj'=>?_⟩ ?_
   ·rcases Nat.lt_or_ge j i with h|h
    ·exact hles j h hj'
    have:j=i:=by omega
    subst this;exact hls
   simp only[WkL,aB,jH,jI,jJ,wys,go_sem,reduceIte,jA,jB,jC,jD,reduceCtorEq,jE,jF]
  |false=>
   have hput:=aHd (lt:=Wy.less) (w:=w) i hi hles (fun _=>hls)
   (repeat' (first|(with_reducible first|refine stp ?_|refine uP (by decide) ?_|refine uQ (fun _=>?_) (fun _=>?_))|((first|(with_reducible refine uA ?_;first|refine uB rfl ?_ ?_|(first|refine uC rfl ?_|refine uD rfl ?_)|refine uE rfl ?_)|(with_reducible refine uF ?_;first|refine uG rfl ?_ ?_|refine bF (aCs l[i] w _) rfl (bH _) ?_|(first|refine uH rfl ?_|refine uI rfl ?_)|refine uJ rfl ?_|refine uK (uL ?_)|refine uK (uM ?_))|(with_reducible refine uN ?_;refine uO rfl ?_))<;>try simp only[hc,hg,hlt,hw,hls,hlt0,Wy.fits_v,jK,go_sem,reduceIte,jA,jB,jC,jD,reduceCtorEq,jE,jF])|(with_reducible refine uR ?_;refine uS rfl ?_)|omega))
   rw[←hQ]
   (repeat' (first|(with_reducible first|refine stp ?_|refine uP (by decide) ?_|refine uQ (fun _=>?_) (fun _=>?_))|((first|(with_reducible refine uA ?_;first|refine uB rfl ?_ ?_|(first|refine uC rfl ?_|refine uD rfl ?_)|refine uE rfl ?_)|(with_reducible refine uF ?_;first|refine uG rfl ?_ ?_|(first|refine uH rfl ?_|refine uI rfl ?_)|refine uJ rfl ?_|refine uK (uL ?_)|refine uK (uM ?_))|(with_reducible refine uN ?_;refine uO rfl ?_))<;>try simp only[hc,hg,hlt,hw,hls,hlt0,Wy.fits_v,sF,Option.isSome_some,Option.getD_some,hta,htb,hb1,ca1,ca2,List.length_drop,List.length_take,true_and,and_true,jK,go_sem,reduceIte,jA,jB,jC,jD,reduceCtorEq,jE,jF])|(with_reducible refine uR ?_;refine uS rfl ?_)|omega))
   ·rename_i hx
    refine aF h' (by repeat (first|exact Hp.le_refl _|refine aK hd ?_ (by omega) _|refine aL hd ?_ (by omega))) (.inl ⟨?_,rfl,fun e=>by rw[e] at hlt;simp at hlt⟩)
    simp only[go_sem,reduceIte,jA,jB,jC,jD,reduceCtorEq,jE,jF]
    rw[hput,if_pos (by rw[List.getElem?_eq_getElem hlt,of_decide_eq_true hx])]
   rename_i hx
   refine aF (h'.set (nx1+35) .tip) ?_ (.inr ⟨nx1+35,by omega,by dsimp only;omega,?_,rfl⟩)
   ·intro x b hx
    by_cases e:x=nx1+35
    ·subst e;simp only[go_sem,reduceIte,jA,jB,jC,jD,reduceCtorEq,jE,jF] at hx⊢;exact hx
    have hx':h' x=some b:=by unfold Hp.set at hx;rwa [if_neg e] at hx
    have:=hd x b hx'
    have e1:(x=nx)=False:=eq_false (by omega)
    have e2:(x=nx1+24)=False:=eq_false (by omega)
    have e3:(x=nx1+28)=False:=eq_false (by omega)
    have e4:(x=nx1+30)=False:=eq_false (by omega)
    have e5:(x=nx1+31)=False:=eq_false (by omega)
    simp only[e,e1,e2,e3,e4,e5,go_sem,reduceIte,jA,jB,jC,jD,reduceCtorEq,jE,jF];exact hx'
   simp only[go_sem,reduceIte,jA,jB,jC,jD,reduceCtorEq,jE,jF]
   rw[hput,if_neg (by rw[List.getElem?_eq_getElem hlt];intro e;injection e with e;exact of_decide_eq_false hx e)]
   have htl:List.take l.length (l.map Wy.v)=l.map Wy.v:=List.take_of_length_le (by simp)
   simp[htl]
 have hc:decide ((i:Int)<(l.length:Int))=false:=by simpa using hge
 have hput:=aHd (lt:=Wy.less) (w:=w) i hi hles (fun h=>absurd h (by omega))
 (repeat' (first|(with_reducible first|refine stp ?_|refine uP (by decide) ?_|refine uQ (fun _=>?_) (fun _=>?_))|((first|(with_reducible refine uA ?_;first|refine uB rfl ?_ ?_|(first|refine uC rfl ?_|refine uD rfl ?_)|refine uE rfl ?_)|(with_reducible refine uF ?_;first|refine uG rfl ?_ ?_|(first|refine uH rfl ?_|refine uI rfl ?_)|refine uJ rfl ?_|refine uK (uL ?_)|refine uK (uM ?_))|(with_reducible refine uN ?_;refine uO rfl ?_))<;>try simp only[hc,jK,go_sem,reduceIte,jA,jB,jC,jD,reduceCtorEq,jE,jF])|(with_reducible refine uR ?_;refine uS rfl ?_)|omega))
 rw[←hQ]
 (repeat' (first|(with_reducible first|refine stp ?_|refine uP (by decide) ?_|refine uQ (fun _=>?_) (fun _=>?_))|((first|(with_reducible refine uA ?_;first|refine uB rfl ?_ ?_|(first|refine uC rfl ?_|refine uD rfl ?_)|refine uE rfl ?_)|(with_reducible refine uF ?_;first|refine uG rfl ?_ ?_|(first|refine uH rfl ?_|refine uI rfl ?_)|refine uJ rfl ?_|refine uK (uL ?_)|refine uK (uM ?_))|(with_reducible refine uN ?_;refine uO rfl ?_))<;>try simp only[hc,hlt0,Wy.fits_v,sF,Option.isSome_some,Option.getD_some,hta,htb,hb1,ca1,ca2,List.length_drop,List.length_take,true_and,and_true,jK,go_sem,reduceIte,jA,jB,jC,jD,reduceCtorEq,jE,jF])|(with_reducible refine uR ?_;refine uS rfl ?_)|omega))
 refine aF (h'.set (nx1+35) .tip) ?_ (.inr ⟨nx1+35,by omega,by dsimp only;omega,?_,rfl⟩)
 ·intro x b hx
  by_cases e:x=nx1+35
  ·subst e;simp only[go_sem,reduceIte,jA,jB,jC,jD,reduceCtorEq,jE,jF] at hx⊢;exact hx
  have hx':h' x=some b:=by unfold Hp.set at hx;rwa [if_neg e] at hx
  have:=hd x b hx'
  have e1:(x=nx)=False:=eq_false (by omega)
  have e2:(x=nx1+24)=False:=eq_false (by omega)
  have e3:(x=nx1+28)=False:=eq_false (by omega)
  have e4:(x=nx1+30)=False:=eq_false (by omega)
  have e5:(x=nx1+31)=False:=eq_false (by omega)
  simp only[e,e1,e2,e3,e4,e5,go_sem,reduceIte,jA,jB,jC,jD,reduceCtorEq,jE,jF];exact hx'
 simp only[go_sem,reduceIte,jA,jB,jC,jD,reduceCtorEq,jE,jF]
 rw[hput,if_neg (by rw[List.getElem?_eq_none (by omega)];simp)]
 have htl:List.take l.length (l.map Wy.v)=l.map Wy.v:=List.take_of_length_le (by simp)
 simp[htl]
end Go.Proofs.YtemjhgboialjpaaGreat
namespace Go.Proofs.YtemjhgboialjpaaGreat
open Go.RowKit
def V.loose2:V→V
 | .tup vs=> .tup (vs.map V.loose)
 |v=>v.loose
theorem VR.loose2{K:Ker}{v:V}{cv:Value}(r:VR K v cv):VR K v.loose2 cv:=by
 cases v with
 |tup vs=>
  cases r with
  |tup _ ccs hl hv=>
   refine .tup _ ccs (by simpa using hl) fun i hi=>?_
   have hi':i<vs.length:=by simpa using hi
   have:=hv i hi'
   simp only[List.getD_eq_getElem?_getD,List.getElem?_map,List.getElem?_eq_getElem hi',Option.map_some,Option.getD_some] at this⊢
   exact this.loose
 |_=>exact r.loose
theorem aX.conv2{P:Program}{f:FuncId}{args:List V}{h:Hp}{nx:Nat}{R R':V→Hp→Nat→Prop}(c:aX P f args h nx R)(hc:∀v h' nx',nx≤nx'→aH h' nx'→R v h' nx'→∃h2,h2.le h'∧R' v.loose2 h2 nx'):aX P f args h nx R':=by
 refine⟨c.1,fun K cargs hl hr hv=>(c.2 K cargs hl hr hv).mono ?_⟩
 rintro e w' ⟨K',v,cv,h',nx',rfl,he,hle,hvr,hrel,hlv,hnx,hR⟩
 obtain⟨h2,q1,q2⟩:=hc v h' nx' hnx (fun m b hm=>(hlv m (hrel.lt m b hm)).1) hR
 exact⟨K',v.loose2,cv,h2,nx',rfl,he,hle,hvr.loose2,hrel.weaken q1,hlv,hnx,q2⟩
theorem zZ{P:Program}{f:FuncId}{args:List V}{h:Hp}{v:V}(hv:∀L,v.names L)(hc:∀h' nx,h.has h'→aX P f args h' nx fun v' h'' _=>v'.loose2=v∧h'.le h''):aW P f args h v:=
 aR hv fun h' nx hh=>(hc h' nx hh).conv2 fun v' h'' nx' _ _ hq=>⟨h',hq.2,hq.1,rfl⟩
end Go.Proofs.YtemjhgboialjpaaGreat
