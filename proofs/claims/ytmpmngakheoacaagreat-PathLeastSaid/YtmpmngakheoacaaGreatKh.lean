/-
Texts of this proof,one behind the other. No conditions.
-/
import Derived.Test.YtmpmngakheoacaaGreatKe
import Derived.Test.YtmpmngakheoacaaGreatKg
import Derived.Test.YtmpmngakheoacaaGreatKdb
/-
Contracts of package path,last part:from as a value,Least,All. No conditions.
-/
namespace Go.Proofs.YtmpmngakheoacaaGreat
open Go.Proofs.YtmpmngakheoacaaGreat renaming kU→uA,iZ→uB,fT→uC,fU→uD,eL→uE,kW→uF,dH→uG,fV→uH,fW→uI,eM→uJ,eS→uK,fK→uL,iR→uM,kX→uN,gV→uO,bG→uP,kY→uQ,kV→uR,gC→uS
open Nat renaming reduceAdd→jA,reduceSub→jB,reduceLT→jC,reduceLeDiff→jD,reduceEqDiff→jE
open Int renaming reduceToNat→jF,toNat_natCast→jG,natCast_add→jH,natCast_one→jI,natCast_zero→jJ
open List renaming length_map→jK,length_cons→jL,length_nil→jM,replicate_succ→jN,replicate_zero→jO,cons_append→jP,nil_append→jQ
set_option linter.unusedSimpArgs false
set_option linter.unusedVariables false
set_option linter.unusedSectionVars false
open Go.RowKit Go.Sort
attribute [local irreducible] IntKind.wrap
attribute [local go_sem] Option.some.injEq Prod.mk.injEq false_and and_false Bool.true_eq_false kA iE kD gA gK if_true Bool.true_and lT dN jX gU dY aA.ok aA.next LOp.ok LOp.next bH.ok bH.out aU.ev bR jY cO bZ dI V.undef Sh.size gS gG cG aA.dok aA.dres LOp.dok LOp.dout mB jT gQ fM List.take_succ_cons List.take_zero List.take_nil List.drop_succ_cons List.drop_zero List.drop_nil List.set_cons_succ List.set_cons_zero List.getD_cons_succ List.getD_cons_zero jL jM List.map_cons List.map_nil List.all_cons List.all_nil List.mem_cons List.not_mem_nil jN jO jP jQ List.append_nil List.isEmpty_cons List.isEmpty_nil eH fQ iU Option.getD_some Option.isSome_some Option.isSome_none Nat.add_eq Nat.zero_add Nat.add_zero true_and and_true and_self true_implies implies_true false_implies forall_const forall_eq forall_eq_or_imp ne_eq not_false_eq_true not_true_eq_false Bool.not_true Bool.not_false decide_true decide_false Bool.and_true Bool.true_and Bool.and_false Bool.false_and true_or or_true false_or or_false eq_self Bool.false_eq_true nJ kE gJ aD fN eR eP eK dE eJ bJ bC dC jG Int.toNat_zero List.take_length Hp.set_app Hp.del_app iP gI aA.plain LOp.isCall aA.dplain LOp.isStop fE lM iQ mT fX V.gd_true V.gd_false gF fC fD gE bS bI aW fY fJ beq_true beq_false dV dW dX cW cX bU bV dL fI cZ eD eA bW eB eE fF fG bX eC bM cY fH cB dZ cE bL iC iA iB hZ eF dB eG dM eY eX eW eV eU cQ cP dR dQ dP cU cT cS fB fA eZ dU dT dS dJ dA bT lH Hp.turn fZ Option.isNone_some Option.isNone_none sC iO gO aA.plain2 LOp.isApp sE nQ nR lP gZ gY
noncomputable def sM(n:Nat)(l:List We)(a:Nat):V:= .sl .leaf .free ((mV n l a).map fun m=>lst (.agg 2) (m.map Pa.v))
theorem rX(n:Nat)(l:List We)(a:Nat):(mV n l a).length=n:=by simp[mV]
theorem aEZ(ow:Own)(n:Nat)(l:List We)(a:Nat)(hfit:vT n l)(ha:a<n)(hn:n≤200)(hl:l.length≤1000)(h:Hp):
 bP Tryz.prog 73 [.agg [.int .i64 n,wes ow l], .int .i64 a] h (sM n l a):=by
 refine aZ (fun L=>?_) fun h' nx hh=>(oT (G:=fun ls=>ls=(mV n l a).map (List.map Pa.v)) (aEY ow n l a hfit ha hn hl h' nx)).mono ?_
 ·unfold sM
  simp only[V.names,true_and,and_true]
  refine⟨fun n e=>(by cases e),?_⟩
  exact cV (f:=fun m:List Pa=>lst (.agg 2) (m.map Pa.v)) (fun m=>gD (fun L=>cV (Pa.names_v L) m) L) _
 rintro v h'' nx2 hnx ⟨ls,rfl,rfl,rfl⟩
 refine⟨?_,rfl⟩
 simp only[sM,List.map_map]
 rfl
theorem zN(o:Own){P:Int}{ws:List Wy}{n:Nat}{l:List We}(R:aBU P ws n l)(hl:ws.length≤1000)(a b:Int)(h:Hp):
 bP Tryz.prog 17 [mps o P ws, .int .i64 a, .int .i64 b] h (if 0≤a∧a<n∧0≤b∧b<n then lst (.agg 2) ((mL l a.toNat b.toNat).map Pa.v) else .sl (.agg 2) .nil []):=by
 have hr:mZ P ws=true:=(pW P ws).2 ⟨n,l,R⟩
 have hP:=R.pl
 have hn:=R.le
 have hmf:(mps o P ws).fits (.agg 2)=true:=by simp[mps,V.fits,V.leafy,wys]
 have hcell:(mps o P ws).cell 0= .int .i64 P:=rfl
 have hlw:l.length≤1000:=by have:=R.eq;rw[this] at hl;simpa using hl
 refine aZ (fun L=>?_) fun h' nx hh=>aK L.path_Least_low fun hd=>?_
 ·split
  ·exact gD (fun L=>cV (Pa.names_v L) _) L
  simp[V.names,dG]
 simp only[jL,jM,jA,jB,jN,jO,jP,jQ,V.undef]
 have out:∀(hn':¬(0≤a∧a<n∧0≤b∧b<n)) (sl:List V) (nx2:Nat),sl.getD 6 V.undef= .sl (.agg 2) .nil []→tY [wS.slot 6] (fun v' h'' x=>(v'=if 0≤a∧a<n∧0≤b∧b<n then lst (.agg 2) ((mL l a.toNat b.toNat).map Pa.v) else .sl (.agg 2) .nil [])∧h''=h') eO.ret ⟨sl,h'.set nx (.arr (.agg 2) [mps o P ws]),nx2⟩:=fun hn' sl nx2 e=>by
  refine aO h' (by repeat (first|exact Hp.le_refl _|refine aQ hd ?_ (by omega) _|refine aV hd ?_ (by omega))) ⟨by rw[if_neg hn'];exact e,rfl⟩
 subst hP
 by_cases h1:a<0
 ·(repeat' (first|(with_reducible first|refine stp ?_|refine uP (by decide) ?_|refine uQ (fun _=>?_) (fun _=>?_))|((first|(with_reducible refine uA ?_;first|refine uB rfl ?_ ?_|refine aN (kO o n ws hl _) rfl (aR _) ?_|(first|refine uC rfl ?_|refine uD rfl ?_)|refine uE rfl ?_)|(with_reducible refine uF ?_;first|refine uG rfl ?_ ?_|(first|refine uH rfl ?_|refine uI rfl ?_)|refine uJ rfl ?_|refine uK (uL ?_)|refine uK (uM ?_))|(with_reducible refine uN ?_;refine uO rfl ?_))<;>try simp only[hmf,hcell,hr,h1,decide_true,decide_false,go_sem,reduceIte,jA,jB,jC,jD,reduceCtorEq,jE,jF])|(with_reducible refine uR ?_;refine uS rfl ?_)|omega))
  exact out (by omega) _ _ rfl
 by_cases h2:a≥n
 ·(repeat' (first|(with_reducible first|refine stp ?_|refine uP (by decide) ?_|refine uQ (fun _=>?_) (fun _=>?_))|((first|(with_reducible refine uA ?_;first|refine uB rfl ?_ ?_|refine aN (kO o n ws hl _) rfl (aR _) ?_|(first|refine uC rfl ?_|refine uD rfl ?_)|refine uE rfl ?_)|(with_reducible refine uF ?_;first|refine uG rfl ?_ ?_|(first|refine uH rfl ?_|refine uI rfl ?_)|refine uJ rfl ?_|refine uK (uL ?_)|refine uK (uM ?_))|(with_reducible refine uN ?_;refine uO rfl ?_))<;>try simp only[hmf,hcell,hr,h1,h2,decide_true,decide_false,go_sem,reduceIte,jA,jB,jC,jD,reduceCtorEq,jE,jF])|(with_reducible refine uR ?_;refine uS rfl ?_)|omega))
  exact out (by omega) _ _ rfl
 by_cases h3:b<0
 ·(repeat' (first|(with_reducible first|refine stp ?_|refine uP (by decide) ?_|refine uQ (fun _=>?_) (fun _=>?_))|((first|(with_reducible refine uA ?_;first|refine uB rfl ?_ ?_|refine aN (kO o n ws hl _) rfl (aR _) ?_|(first|refine uC rfl ?_|refine uD rfl ?_)|refine uE rfl ?_)|(with_reducible refine uF ?_;first|refine uG rfl ?_ ?_|(first|refine uH rfl ?_|refine uI rfl ?_)|refine uJ rfl ?_|refine uK (uL ?_)|refine uK (uM ?_))|(with_reducible refine uN ?_;refine uO rfl ?_))<;>try simp only[hmf,hcell,hr,h1,h2,h3,decide_true,decide_false,go_sem,reduceIte,jA,jB,jC,jD,reduceCtorEq,jE,jF])|(with_reducible refine uR ?_;refine uS rfl ?_)|omega))
  exact out (by omega) _ _ rfl
 by_cases h4:b≥n
 ·(repeat' (first|(with_reducible first|refine stp ?_|refine uP (by decide) ?_|refine uQ (fun _=>?_) (fun _=>?_))|((first|(with_reducible refine uA ?_;first|refine uB rfl ?_ ?_|refine aN (kO o n ws hl _) rfl (aR _) ?_|(first|refine uC rfl ?_|refine uD rfl ?_)|refine uE rfl ?_)|(with_reducible refine uF ?_;first|refine uG rfl ?_ ?_|(first|refine uH rfl ?_|refine uI rfl ?_)|refine uJ rfl ?_|refine uK (uL ?_)|refine uK (uM ?_))|(with_reducible refine uN ?_;refine uO rfl ?_))<;>try simp only[hmf,hcell,hr,h1,h2,h3,h4,decide_true,decide_false,go_sem,reduceIte,jA,jB,jC,jD,reduceCtorEq,jE,jF])|(with_reducible refine uR ?_;refine uS rfl ?_)|omega))
  exact out (by omega) _ _ rfl
 obtain⟨a',rfl⟩:∃a':Nat,a=a':=⟨a.toNat,by omega⟩
 obtain⟨b',rfl⟩:∃b':Nat,b=b':=⟨b.toNat,by omega⟩
 have hm:mps o n ws= .agg [.int .i64 n,wes o l]:=by rw[R.eq];simp only[mps,wys,wes,List.map_map];rfl
 have hf:∀h,bP Tryz.prog 73 [mps o n ws, .int .i64 a'] h (sM n l a'):=fun h=>by rw[hm];exact aEZ o n l a' R.fit (by omega) hn hlw h
 have hbn:b'<(mV n l a').length:=by rw[rX];omega
 have hgd:((mV n l a').map fun m:List Pa=>lst (.agg 2) (m.map Pa.v)).getD b' (.tup [])=lst (.agg 2) ((mL l a' b').map Pa.v):=by
  rw[bB _ _ _ hbn];simp[mV]
 have hll:(lst (.agg 2) ((mL l a' b').map Pa.v)).leafy=true:=by unfold lst;split<;>rfl
 have hb':((b':Int)<(n:Int))=True:=eq_true (by omega)
 have hb0:((0:Int)≤(b':Int))=True:=eq_true (by omega)
 (repeat' (first|(with_reducible first|refine stp ?_|refine uP (by decide) ?_|refine uQ (fun _=>?_) (fun _=>?_))|((first|(with_reducible refine uA ?_;first|refine uB rfl ?_ ?_|refine aN (kO o n ws hl _) rfl (aR _) ?_|refine aN (hf _) rfl (aR _) ?_|(first|refine uC rfl ?_|refine uD rfl ?_)|refine uE rfl ?_)|(with_reducible refine uF ?_;first|refine uG rfl ?_ ?_|(first|refine uH rfl ?_|refine uI rfl ?_)|refine uJ rfl ?_|refine uK (uL ?_)|refine uK (uM ?_))|(with_reducible refine uN ?_;refine uO rfl ?_))<;>try simp only[hmf,hcell,hr,h1,h2,h3,h4,sM,hgd,hll,hb',hb0,jK,rX,and_self,decide_true,decide_false,go_sem,reduceIte,jA,jB,jC,jD,reduceCtorEq,jE,jF])|(with_reducible refine uR ?_;refine uS rfl ?_)|omega))
 refine aO h' (by repeat (first|exact Hp.le_refl _|refine aQ hd ?_ (by omega) _|refine aV hd ?_ (by omega))) ⟨?_,rfl⟩
 rw[if_pos (by omega)]
 simp only[jG,go_sem,reduceIte,jA,jB,jC,jD,reduceCtorEq,jE,jF]
end Go.Proofs.YtmpmngakheoacaaGreat
/-
Least paths:they are there;one behind the other;with more ways none is farther. Plain laws. No conditions.
-/
namespace Go.Proofs.YtmpmngakheoacaaGreat
set_option linter.unusedSimpArgs false
set_option linter.unusedVariables false
set_option linter.unusedSectionVars false
open Go.RowKit Go.Sort
theorem aFB(S:Nat→Prop):∀n,S n→∃m,S m∧∀k,S k→m≤k:=by
 intro n
 induction n using Nat.strongRecOn with
 |ind n ih=>
  intro hn
  by_cases h:∃k,k<n∧S k
  ·obtain⟨k,h1,h2⟩:=h
   exact ih k h1 h2
  exact⟨n,hn,fun k hk=>Nat.le_of_not_lt fun hlt=>h ⟨k,hlt,hk⟩⟩
theorem tC(ws:List We)(a k:Nat)(b:Bool):(∀p,Val ws a k p→p.n≠b)∨∃q,Val ws a k q∧q.n=b∧∀p,Val ws a k p→p.n=b→q.a≤p.a:=by
 by_cases h:∃p,Val ws a k p∧p.n=b
 ·obtain⟨p,h1,h2⟩:=h
  obtain⟨m,⟨q,hq1,hq2,hq3⟩,hm⟩:=aFB (fun m=>∃q,Val ws a k q∧q.n=b∧q.a.toNat=m) _ ⟨p,h1,h2,rfl⟩
  refine .inr ⟨q,hq1,hq2,fun r hr hrb=>?_⟩
  have:=hm _ ⟨r,hr,hrb,rfl⟩
  have o1:=hr.ok
  have o2:=hq1.ok
  simp only[Pa.ok,Bool.and_eq_true,decide_eq_true_eq] at o1 o2
  omega
 exact .inl fun p hp e=>h ⟨p,hp,e⟩
theorem mA{p q:Pa}(h:p.n=q.n)(h2:p.a≤q.a):p.le q=true:=by
 obtain⟨n,a⟩:=p;obtain⟨m,b⟩:=q
 simp only at h h2
 subst h
 cases n<;>simp[Pa.le,h2]
theorem aFD(ws:List We)(a k:Nat):∃m,lO ws a k m:=by
 rcases tC ws a k false with hF|⟨f,f1,f2,f3⟩
 ·rcases tC ws a k true with hT|⟨t,t1,t2,t3⟩
  ·refine⟨[],List.Pairwise.nil,(fun p hp=>by cases hp),fun p hp=>?_⟩
   cases e:p.n with
   |false=>exact absurd e (hF p hp)
   |true=>exact absurd e (hT p hp)
  refine⟨[t],by simp[Can],(fun p hp=>by simp at hp;subst hp;exact t1),fun p hp=>⟨t,by simp,?_⟩⟩
  cases e:p.n with
  |false=>exact absurd e (hF p hp)
  |true=>exact mA (t2.trans e.symm) (t3 p hp e)
 rcases tC ws a k true with hT|⟨t,t1,t2,t3⟩
 ·refine⟨[f],by simp[Can],(fun p hp=>by simp at hp;subst hp;exact f1),fun p hp=>⟨f,by simp,?_⟩⟩
  cases e:p.n with
  |true=>exact absurd e (hT p hp)
  |false=>exact mA (f2.trans e.symm) (f3 p hp e)
 by_cases h:t.a≤f.a
 ·refine⟨[t],by simp[Can],(fun p hp=>by simp at hp;subst hp;exact t1),fun p hp=>⟨t,by simp,?_⟩⟩
  cases e:p.n with
  |true=>exact mA (t2.trans e.symm) (t3 p hp e)
  |false=>
   have:=f3 p hp e
   simp[Pa.le,t2,e]
   omega
 refine⟨[f,t],by simp[Can,f2,t2];omega,(fun p hp=>by simp at hp;rcases hp with rfl|rfl<;>assumption),fun p hp=>?_⟩
 cases e:p.n with
 |true=>exact⟨t,by simp,mA (t2.trans e.symm) (t3 p hp e)⟩
 |false=>exact⟨f,by simp,mA (f2.trans e.symm) (f3 p hp e)⟩
theorem aCF(ws:List We)(a k:Nat):lO ws a k (mL ws a k):=by
 obtain⟨m,hm⟩:=aFD ws a k
 rw[wG hm]
 exact hm
def adds(l:List We):Int:=(l.map fun w=>w.p.a).sum
theorem aBZ{ws:List We}:∀{l:List We} {a k:Nat},lU ws a l k→∀w∈l,w∈ws
 | [],_,_,_,w,hw=>by cases hw
 |v::l,_,_,⟨h1,_,h3⟩,w,hw=>by
  rcases List.mem_cons.1 hw with rfl|hw
  ·exact h1
  exact aBZ h3 w hw
theorem aDf(ws:List Wy):dF (dF ws)=dF ws:=
 Inc.unique Wy.ord (aAm _) (aAm _) fun x=>by rw[oP]
theorem aCz(P:Int)(ws:List Wy):eI P (dF ws)=eI P ws:=by
 have e:(∃w∈dF ws,w.fit P=false)↔∃w∈ws,w.fit P=false:=by simp only[oP]
 unfold eI
 rw[aDf]
 simp only[e]
theorem aDI{P:Int}{ws:List Wy}(h:(eI P ws).2=0):(eI P ws).1=(P,dF ws):=by
 unfold eI at h⊢
 split at h
 ·cases h
 rename_i h1
 split at h
 ·cases h
 rename_i h2
 split at h
 ·cases h
 rename_i h3
 rw[if_neg h1,if_neg h2,if_neg h3]
theorem aCy{P:Int}{ws:List Wy}(h:(eI P ws).2=0):∃n l,aBU P (dF ws) n l:=by
 refine(pW P (dF ws)).1 ?_
 unfold mZ
 rw[decide_eq_true_eq,aCz]
 exact⟨h,by rw[aDI h]⟩
theorem aFj(l:List We):iV (l.map We.wy)=adds l:=by
 unfold iV adds
 rw[List.map_map]
 rfl
def wQ:List We:=[⟨0,1,⟨false,0⟩⟩,⟨1,0,⟨false,1⟩⟩]
def lD:List Wy:=[⟨0,1,⟨false,0⟩⟩,⟨1,0,⟨false,1⟩⟩]
theorem xQ:dF lD=lD:=by rw[oR];decide
theorem aBn:eI 2 lD=((2,lD),0):=by
 have h1:¬((2:Int)<0∨(200:Int)<2∨∃w∈lD,w.fit 2=false):=by decide
 have h2:¬(1048576:Int)<iV lD:=by decide
 have h3:¬(aAQ (lD.map Wy.we)∨rM (lD.map Wy.we)):=by
  rintro(⟨y,hy⟩|⟨w,hw,hn,_⟩)
  ·have e1:∀a b,(a,b)∈zE (lD.map Wy.we)→a=0∧b=1:=by
    intro a b h
    have h:(a,b)∈ [((0:Nat),(1:Nat))]:=h
    simpa using h
   cases hy with
   |one h=>have:=e1 _ _ h;omega
   |cons h k=>
    have h1:=e1 _ _ h
    have:=k.closed (S:=fun x=>x=1) (fun a b ha hb=>(e1 _ _ hb).2) h1.2
    omega
  simp[lD,Wy.we] at hw
  rcases hw with rfl|rfl<;>cases hn
 unfold eI
 rw[if_neg h1,xQ,if_neg h2,if_neg h3]
theorem aDk:aBU 2 lD 2 wQ:=by
 have h:(eI 2 lD).2=0:=by rw[aBn]
 obtain⟨n,l,R⟩:=aCy h
 rw[xQ] at R
 have hn:n=2:=by have:=R.pl;omega
 have hl:l=wQ:=by
  have h1:lD=wQ.map We.wy:=rfl
  have h2:=R.eq
  rw[h1] at h2
  have inj:∀a b:We,a.wy=b.wy→a=b:=by
   rintro⟨f,t,p⟩ ⟨f',t',p'⟩ h
   simp only[We.wy,Wy.mk.injEq] at h
   simp only[We.mk.injEq]
   exact⟨by omega,by omega,h.2.2⟩
  have:∀{x y:List We},x.map We.wy=y.map We.wy→x=y:=by
   intro x
   induction x with
   |nil=>intro y h;cases y with
    |nil=>rfl
    |cons=>cases h
   |cons a x ih=>intro y h;cases y with
    |nil=>cases h
    |cons b y=>
     simp only[List.map_cons,List.cons.injEq] at h
     rw[inj a b h.1,ih h.2]
  exact(this h2).symm
 subst hn hl
 exact R
theorem aDl:mL wQ 0 0=[Pa.nought]:=
 wG ⟨by simp[Can],(fun p hp=>by simp at hp;subst hp;exact Val.nought _ _),fun p ⟨l,h1,h2⟩=>⟨Pa.nought,by simp,aDx l (fun w hw=>by
  have:=aBZ h1 w hw
  simp[wQ] at this
  rcases this with rfl|rfl<;>rfl) h2⟩⟩
end Go.Proofs.YtmpmngakheoacaaGreat
/-
corollarylaw22's alive and Large,corollarynum.Num;Least,whatever the map. No conditions.
-/
namespace Go.Proofs.YtmpmngakheoacaaGreat
open Go.Proofs.YtmpmngakheoacaaGreat renaming kU→uA,iZ→uB,fT→uC,fU→uD,eL→uE,kW→uF,dH→uG,fV→uH,fW→uI,eM→uJ,eS→uK,fK→uL,iR→uM,kX→uN,gV→uO,bG→uP,kY→uQ,kV→uR,gC→uS
open Nat renaming reduceAdd→jA,reduceSub→jB,reduceLT→jC,reduceLeDiff→jD,reduceEqDiff→jE
open Int renaming reduceToNat→jF,toNat_natCast→jG,natCast_add→jH,natCast_one→jI,natCast_zero→jJ
open List renaming length_map→jK,length_cons→jL,length_nil→jM,replicate_succ→jN,replicate_zero→jO,cons_append→jP,nil_append→jQ
set_option linter.unusedSimpArgs false
set_option linter.unusedVariables false
set_option linter.unusedSectionVars false
open Go.RowKit Go.Sort
attribute [local irreducible] IntKind.wrap
attribute [local go_sem] Option.some.injEq Prod.mk.injEq false_and and_false Bool.true_eq_false kA iE kD gA gK if_true Bool.true_and lT dN jX gU dY aA.ok aA.next LOp.ok LOp.next bH.ok bH.out aU.ev bR jY cO bZ dI V.undef Sh.size gS gG cG aA.dok aA.dres LOp.dok LOp.dout mB jT gQ fM List.take_succ_cons List.take_zero List.take_nil List.drop_succ_cons List.drop_zero List.drop_nil List.set_cons_succ List.set_cons_zero List.getD_cons_succ List.getD_cons_zero jL jM List.map_cons List.map_nil List.all_cons List.all_nil List.mem_cons List.not_mem_nil jN jO jP jQ List.append_nil List.isEmpty_cons List.isEmpty_nil eH fQ iU Option.getD_some Option.isSome_some Option.isSome_none Nat.add_eq Nat.zero_add Nat.add_zero true_and and_true and_self true_implies implies_true false_implies forall_const forall_eq forall_eq_or_imp ne_eq not_false_eq_true not_true_eq_false Bool.not_true Bool.not_false decide_true decide_false Bool.and_true Bool.true_and Bool.and_false Bool.false_and true_or or_true false_or or_false eq_self Bool.false_eq_true nJ kE gJ aD fN eR eP eK dE eJ bJ bC dC jG Int.toNat_zero List.take_length Hp.set_app Hp.del_app iP gI aA.plain LOp.isCall aA.dplain LOp.isStop fE lM iQ mT fX V.gd_true V.gd_false gF fC fD gE bS bI aW fY fJ beq_true beq_false dV dW dX cW cX bU bV dL fI cZ eD eA bW eB eE fF fG bX eC bM cY fH cB dZ cE bL iC iA iB hZ eF dB eG dM eY eX eW eV eU cQ cP dR dQ dP cU cT cS fB fA eZ dU dT dS dJ dA bT lH Hp.turn fZ Option.isNone_some Option.isNone_none sC iO gO aA.plain2 LOp.isApp sE nQ nR lP gZ gY
theorem aEP(o:Own){P:Int}{ws:List Wy}(hr:mZ P ws=false)(hl:ws.length≤1000)(a b:Int)(h:Hp):
 bP Tryz.prog 17 [mps o P ws, .int .i64 a, .int .i64 b] h (.sl (.agg 2) .nil []):=by
 have hmf:(mps o P ws).fits (.agg 2)=true:=by simp[mps,V.fits,V.leafy,wys]
 refine aZ (fun L=>by simp[V.names,dG]) fun h' nx hh=>aK L.path_Least_low fun hd=>?_
 simp only[jL,jM,jA,jB,jN,jO,jP,jQ,V.undef]
 (repeat' (first|(with_reducible first|refine stp ?_|refine uP (by decide) ?_|refine uQ (fun _=>?_) (fun _=>?_))|((first|(with_reducible refine uA ?_;first|refine uB rfl ?_ ?_|refine aN (kO o P ws hl _) rfl (aR _) ?_|(first|refine uC rfl ?_|refine uD rfl ?_)|refine uE rfl ?_)|(with_reducible refine uF ?_;first|refine uG rfl ?_ ?_|(first|refine uH rfl ?_|refine uI rfl ?_)|refine uJ rfl ?_|refine uK (uL ?_)|refine uK (uM ?_))|(with_reducible refine uN ?_;refine uO rfl ?_))<;>try simp only[hmf,hr,decide_true,decide_false,go_sem,reduceIte,jA,jB,jC,jD,reduceCtorEq,jE,jF])|(with_reducible refine uR ?_;refine uS rfl ?_)|omega))
 refine aO h' (by repeat (first|exact Hp.le_refl _|refine aQ hd ?_ (by omega) _|refine aV hd ?_ (by omega))) ⟨?_,rfl⟩
 simp only[go_sem,reduceIte,jA,jB,jC,jD,reduceCtorEq,jE,jF]
noncomputable def kC(P:Int)(ws:List Wy)(a b:Int):List Pa:=if mZ P ws=true∧0≤a∧a<P∧0≤b∧b<P then mL (ws.map Wy.we) a.toNat b.toNat else []
theorem we_wy(l:List We):(l.map We.wy).map Wy.we=l:=by
 rw[List.map_map]
 have:l.map (Wy.we∘We.wy)=l.map id:=List.map_congr_left fun w _=>by obtain⟨f,t,p⟩:=w;simp[We.wy,Wy.we]
 rw[this,List.map_id]
theorem wY(o:Own)(P:Int)(ws:List Wy)(hl:ws.length≤1000)(a b:Int)(h:Hp):
 bP Tryz.prog 17 [mps o P ws, .int .i64 a, .int .i64 b] h (lst (.agg 2) ((kC P ws a b).map Pa.v)):=by
 unfold kC
 cases hr:mZ P ws with
 |false=>
  rw[if_neg (by simp)]
  exact aEP o hr hl a b h
 |true=>
  obtain⟨n,l,R⟩:=(pW P ws).1 hr
  have:=zN o R hl a b h
  have e1:ws.map Wy.we=l:=by rw[R.eq,we_wy]
  have e2:=R.pl
  rw[e1,e2]
  rw[e2] at this
  by_cases hc:0≤a∧a<(n:Int)∧0≤b∧b<(n:Int)
  ·rw[if_pos hc] at this
   rw[if_pos ⟨rfl,hc⟩]
   exact this
  rw[if_neg hc] at this
  rw[if_neg (fun h=>hc h.2)]
  exact this
theorem aDP(P:Int)(ws:List Wy)(a b:Int):Can (kC P ws a b):=by
 unfold kC
 split
 ·exact(aCF _ _ _).can
 exact List.Pairwise.nil
theorem vO(h:Hp):bP Tryz.prog 13 [] h (.bool true):=by
 refine aZ (fun L=>trivial) fun h' nx hh=>aK L.corollarylaw22_alive_low fun hd=>?_
 simp only[jL,jM,jA,jB,jN,jO,jP,jQ,V.undef]
 have hnew:∀o h,bP Tryz.prog 69 [.int .i64 2, .sl (.agg 4) o [.agg [.int .i64 0, .int .i64 1, .bool false, .int .i64 0], .agg [.int .i64 1, .int .i64 0, .bool false, .int .i64 1]]] h (.tup [.agg [.int .i64 2, .sl (.agg 4) .free (lD.map Wy.v)], .nilIface]):=fun o h=>by
  have:=aCx o 2 lD (by decide) h
  rw[aBn] at this
  exact this
 have hleast:∀h,bP Tryz.prog 17 [mps .free 2 lD, .int .i64 0, .int .i64 0] h (.sl (.agg 2) .free [.agg [.bool false, .int .i64 0]]):=fun h=>by
  have:=zN .free aDk (by decide) 0 0 h
  rw[if_pos (by decide)] at this
  have e:mL wQ (0:Int).toNat (0:Int).toNat=[Pa.nought]:=aDl
  rw[e] at this
  exact this
 have q2:(((2:Nat):Int)==(2:Int))=true:=by decide
 have q1:(((1:Nat):Int)==(1:Int))=true:=by decide
 have q0:((0:Int)==(0:Int))=true:=by decide
 (repeat' (first|(with_reducible first|refine stp ?_|refine uP (by decide) ?_|refine uQ (fun _=>?_) (fun _=>?_))|((first|(with_reducible refine uA ?_;first|refine uB rfl ?_ ?_|refine aN (hnew _ _) rfl (aR _) ?_|refine aN (hleast _) rfl (aR _) ?_|(first|refine uC rfl ?_|refine uD rfl ?_)|refine uE rfl ?_)|(with_reducible refine uF ?_;first|refine uG rfl ?_ ?_|(first|refine uH rfl ?_|refine uI rfl ?_)|refine uJ rfl ?_|refine uK (uL ?_)|refine uK (uM ?_))|(with_reducible refine uN ?_;refine uO rfl ?_))<;>try simp only[lD,Wy.v,q0,q1,q2,go_sem,reduceIte,jA,jB,jC,jD,reduceCtorEq,jE,jF])|(with_reducible refine uR ?_;refine uS rfl ?_)|omega))
 refine aO h' (by repeat (first|exact Hp.le_refl _|refine aQ hd ?_ (by omega) _|refine aV hd ?_ (by omega))) ⟨?_,rfl⟩
 simp only[go_sem,reduceIte,jA,jB,jC,jD,reduceCtorEq,jE,jF]
def zP(P:Int)(ws:List Wy):Bool:=(decide (14<P)&&decide (P≤200))||decide (40<(ws.length:Int))
theorem zO(o:Own)(P:Int)(ws:List Wy)(h:Hp):bP Tryz.prog 14 [mps o P ws] h (.bool (zP P ws)):=by
 have hmf:(mps o P ws).fits (.agg 2)=true:=by simp[mps,V.fits,V.leafy,wys]
 refine aZ (fun L=>trivial) fun h' nx hh=>aK L.corollarylaw22_Large_low fun hd=>?_
 simp only[jL,jM,jA,jB,jN,jO,jP,jQ,V.undef]
 unfold zP
 cases h1:decide (14<P)<;>cases h2:decide (P≤200)
 all_goals ((repeat' (first|(with_reducible first|refine stp ?_|refine uP (by decide) ?_|refine uQ (fun _=>?_) (fun _=>?_))|((first|(with_reducible refine uA ?_;first|refine uB rfl ?_ ?_|(first|refine uC rfl ?_|refine uD rfl ?_)|refine uE rfl ?_)|(with_reducible refine uF ?_;first|refine uG rfl ?_ ?_|(first|refine uH rfl ?_|refine uI rfl ?_)|refine uJ rfl ?_|refine uK (uL ?_)|refine uK (uM ?_))|(with_reducible refine uN ?_;refine uO rfl ?_))<;>try simp only[hmf,h1,h2,jK,go_sem,reduceIte,jA,jB,jC,jD,reduceCtorEq,jE,jF])|(with_reducible refine uR ?_;refine uS rfl ?_)|omega)))
 all_goals refine aO h' (by repeat (first|exact Hp.le_refl _|refine aQ hd ?_ (by omega) _|refine aV hd ?_ (by omega))) ⟨?_,rfl⟩
 all_goals simp only[jK,Bool.false_or,Bool.true_or,go_sem,reduceIte,jA,jB,jC,jD,reduceCtorEq,jE,jF]
theorem aEQ{P:Int}{ws:List Wy}(h:zP P ws=false):ws.length≤40:=by
 unfold zP at h
 rw[Bool.or_eq_false_iff] at h
 have:=of_decide_eq_false h.2
 omega
/-
corollarylaw22's Ways,Document,same. No conditions.
-/
set_option maxRecDepth 100000 in
theorem aEC(o:Own)(l:List Wy)(hl:l.length≤100000)(h:Hp):bP Tryz.prog 70 [wys o l] h (lst (.agg 4) (l.map Wy.v)):=by
 refine gN (fun L=>gD (fun L=>cV (Wy.names_v L) _) L) fun h' nx hh=>aK L.corollarylaw22_Ways_low fun hd=>?_
 simp only[jL,jM,jA,jB,jN,jO,jP,jQ,V.undef]
 (repeat' (first|(with_reducible first|refine stp ?_|refine uP (by decide) ?_|refine uQ (fun _=>?_) (fun _=>?_))|((first|(with_reducible refine uA ?_;first|refine uB rfl ?_ ?_|(first|refine uC rfl ?_|refine uD rfl ?_)|refine uE rfl ?_)|(with_reducible refine uF ?_;first|refine uG rfl ?_ ?_|(first|refine uH rfl ?_|refine uI rfl ?_)|refine uJ rfl ?_|refine uK (uL ?_)|refine uK (uM ?_))|(with_reducible refine uN ?_;refine uO rfl ?_))<;>try simp only[jK,go_sem,reduceIte,jA,jB,jC,jD,reduceCtorEq,jE,jF])|(with_reducible refine uR ?_;refine uS rfl ?_)|omega))
 refine bD (fun q:Nat×Own=>aD 25 0 [(3,wys q.2 (l.take q.1)),(6,wys o l),(7, .int .i64 l.length),(8, .int .i64 q.1)])
  (fun q hp nx1=>q.1≤l.length∧nx≤nx1∧aT hp nx1∧Hp.same nx h' hp∧Acc hp nx q.2 ((l.take q.1).map Wy.v))
  (fun q=>l.length-q.1) (0, .nil) ⟨Nat.zero_le _,Nat.le_refl _,hd,Hp.same.rfl',Acc.nil⟩ ?_ ?_
 ·simp only[WkL,aD,jH,jI,jJ,wys,List.take_zero,List.map_nil,go_sem,reduceIte,jA,jB,jC,jD,reduceCtorEq,jE,jF]
 rintro⟨i,oo⟩ hp nx1 ⟨hi,hnx,hdm,hsm,hacc⟩
 generalize hQ:dD _ _ _ _ _=Q0
 dsimp only at hi hacc
 simp only[aD,go_sem,reduceIte,jA,jB,jC,jD,reduceCtorEq,jE,jF]
 rcases Nat.lt_or_ge i l.length with hlt|hge
 ·have hc:decide ((i:Int)<(l.length:Int))=true:=decide_eq_true (by omega)
  have hg:(l.map Wy.v).getD i (.tup [])= .agg [.int .i64 l[i].f, .int .i64 l[i].t, .bool l[i].p.n, .int .i64 l[i].p.a]:=bB Wy.v l i hlt
  have hw:IntKind.i64.wrap ((i:Int)+1)=((i+1:Nat):Int):=by rw[aY]<;>omega
  have htk:(l.take (i+1)).map Wy.v=(l.take i).map Wy.v++[.agg [.int .i64 l[i].f, .int .i64 l[i].t, .bool l[i].p.n, .int .i64 l[i].p.a]]:=by
   rw[List.take_succ_eq_append_getElem hlt,List.map_append];rfl
  have hlen:((l.take i).map Wy.v).length=i:=by simp;omega
  have hb1:(i+1)*32≤140737488355328:=by omega
  have hrp:∀h,bP Tryz.prog 71 [.agg [.bool l[i].p.n, .int .i64 l[i].p.a]] h (.agg [.bool l[i].p.n, .int .i64 l[i].p.a]):=fun h=>yQ l[i].p h
  rcases hacc with⟨he,rfl⟩|⟨hne,id,hid,rfl,htip⟩
  ·have hi0:i=0:=by rw[he] at hlen;simpa using hlen.symm
   (repeat' (first|(with_reducible first|refine stp ?_|refine uP (by decide) ?_|refine uQ (fun _=>?_) (fun _=>?_))|((first|(with_reducible refine uA ?_;first|refine uB rfl ?_ ?_|(first|refine uC rfl ?_|refine uD rfl ?_)|refine uE rfl ?_)|(with_reducible refine uF ?_;first|refine uG rfl ?_ ?_|refine cH (hrp _) rfl (cA _) ?_|(first|refine uH rfl ?_|refine uI rfl ?_)|refine uJ rfl ?_|refine uK (uL ?_)|refine uK (uM ?_))|(with_reducible refine uN ?_;refine uO rfl ?_))<;>try simp only[hc,hg,hlt,hw,he,jK,jG,go_sem,reduceIte,jA,jB,jC,jD,reduceCtorEq,jE,jF])|(with_reducible refine uR ?_;refine uS rfl ?_)|omega))
   rw[←hQ]
   refine aF (i+1, .tok (nx1+12)) (by dsimp only;omega) ⟨hlt,by omega,(by(try dsimp only);repeat (first|exact aT.up hdm (by omega)|refine aT.set2 ?_ (by omega) _|refine aT.del ?_|refine aT.delO ?_ _)),(by(try dsimp only);repeat (first|exact hsm|refine bK ?_ (by omega) _|refine bE ?_ (by omega))),?_⟩ ?_
   ·dsimp only;rw[htk];exact Acc.new _ (by simp) (by omega)
   simp only[WkL,aD,jH,jI,jJ,wys,htk,he,go_sem,reduceIte,jA,jB,jC,jD,reduceCtorEq,jE,jF]
  have hidn:id<nx1:=hdm id _ htip
  have e1:(id=nx1)=False:=eq_false (by omega)
  have ca:mW ((hp.set nx1 (Blk.arr (Sh.agg 4) [V.agg [V.int IntKind.i64 0,V.int IntKind.i64 0,V.bool false,V.int IntKind.i64 0]])).set nx1 (Blk.arr (Sh.agg 4) [V.agg [V.int IntKind.i64 l[i].f,V.int IntKind.i64 l[i].t,V.bool l[i].p.n,V.int IntKind.i64 l[i].p.a]])) (nx1+2) [0,1,2,3,4,5,6,7,8,9] [none,none,none,none,none,none,none,none,none,some Blk.tip] [none,none,none,none,none,none,none,none,none,none] id Blk.tip:=
   ⟨by simp[bT], .inl ⟨by omega,by simp only[htip,e1,go_sem,reduceIte,jA,jB,jC,jD,reduceCtorEq,jE,jF]⟩⟩
  (repeat' (first|(with_reducible first|refine stp ?_|refine uP (by decide) ?_|refine uQ (fun _=>?_) (fun _=>?_))|((first|(with_reducible refine uA ?_;first|refine uB rfl ?_ ?_|(first|refine uC rfl ?_|refine uD rfl ?_)|refine uE rfl ?_)|(with_reducible refine uF ?_;first|refine uG rfl ?_ ?_|refine cH (hrp _) rfl (cA _) ?_|(first|refine uH rfl ?_|refine uI rfl ?_)|refine uJ rfl ?_|refine uK (uL ?_)|refine uK (uM ?_))|(with_reducible refine uN ?_;refine uO rfl ?_))<;>try simp only[hc,hg,hlt,hw,hlen,htip,hidn,hb1,ca,jK,jG,go_sem,reduceIte,jA,jB,jC,jD,reduceCtorEq,jE,jF])|(with_reducible refine uR ?_;refine uS rfl ?_)|omega))
  rw[←hQ]
  refine aF (i+1, .tok (nx1+12)) (by dsimp only;omega) ⟨hlt,by omega,(by(try dsimp only);repeat (first|exact aT.up hdm (by omega)|refine aT.set2 ?_ (by omega) _|refine aT.del ?_|refine aT.delO ?_ _)),(by(try dsimp only);repeat (first|exact hsm|refine bK ?_ (by omega) _|refine bE ?_ (by omega))),?_⟩ ?_
  ·dsimp only;rw[htk];exact(Acc.new _ (by simp) (by omega)).del (fun e=>by injection e;omega)
  simp only[WkL,aD,jH,jI,jJ,wys,htk,go_sem,reduceIte,jA,jB,jC,jD,reduceCtorEq,jE,jF]
 have hc:decide ((i:Int)<(l.length:Int))=false:=decide_eq_false (by omega)
 (repeat' (first|(with_reducible first|refine stp ?_|refine uP (by decide) ?_|refine uQ (fun _=>?_) (fun _=>?_))|((first|(with_reducible refine uA ?_;first|refine uB rfl ?_ ?_|(first|refine uC rfl ?_|refine uD rfl ?_)|refine uE rfl ?_)|(with_reducible refine uF ?_;first|refine uG rfl ?_ ?_|(first|refine uH rfl ?_|refine uI rfl ?_)|refine uJ rfl ?_|refine uK (uL ?_)|refine uK (uM ?_))|(with_reducible refine uN ?_;refine uO rfl ?_))<;>try simp only[hc,go_sem,reduceIte,jA,jB,jC,jD,reduceCtorEq,jE,jF])|(with_reducible refine uR ?_;refine uS rfl ?_)|omega))
 rw[←hQ]
 (repeat' (first|(with_reducible first|refine stp ?_|refine uP (by decide) ?_|refine uQ (fun _=>?_) (fun _=>?_))|((first|(with_reducible refine uA ?_;first|refine uB rfl ?_ ?_|(first|refine uC rfl ?_|refine uD rfl ?_)|refine uE rfl ?_)|(with_reducible refine uF ?_;first|refine uG rfl ?_ ?_|(first|refine uH rfl ?_|refine uI rfl ?_)|refine uJ rfl ?_|refine uK (uL ?_)|refine uK (uM ?_))|(with_reducible refine uN ?_;refine uO rfl ?_))<;>try simp only[ go_sem,reduceIte,jA,jB,jC,jD,reduceCtorEq,jE,jF])|(with_reducible refine uR ?_;refine uS rfl ?_)|omega))
 have htl:l.take i=l:=List.take_of_length_le (by omega)
 rw[htl] at hacc
 refine aO h' (hsm.le hd (Hp.le_refl _)) ⟨?_,Hp.le_refl _⟩
 simp only[htl,go_sem,reduceIte,jA,jB,jC,jD,reduceCtorEq,jE,jF]
 rw[hacc.loose]
 rfl
theorem yE(o:Own)(P:Int)(ws:List Wy)(hl:ws.length≤100000)(h:Hp):bP Tryz.prog 15 [mps o P ws] h (wC P ws):=by
 refine aZ (fun L=>sZ P ws L) fun h' nx hh=>aK L.corollarylaw22_Document_low fun hd=>?_
 have hmf:(mps o P ws).fits (.agg 2)=true:=by simp[mps,V.fits,V.leafy,wys]
 simp only[jL,jM,jA,jB,jN,jO,jP,jQ,V.undef]
 unfold wC
 obtain⟨o2,ho2⟩:=oI (.agg 4) (ws.map Wy.v)
 have hmf2:(V.agg [.int .i64 P,wys o2 ws]).fits (.agg 2)=true:=by simp[V.fits,V.leafy]
 rw[ho2]
 have hwp:∀h,bP Tryz.prog 70 [wys o ws] h (wys o2 ws):=fun h=>by
  have e:=aEC o ws hl h
  rw[ho2] at e
  exact e
 (repeat' (first|(with_reducible first|refine stp ?_|refine uP (by decide) ?_|refine uQ (fun _=>?_) (fun _=>?_))|((first|(with_reducible refine uA ?_;first|refine uB rfl ?_ ?_|(first|refine uC rfl ?_|refine uD rfl ?_)|refine uE rfl ?_)|(with_reducible refine uF ?_;first|refine uG rfl ?_ ?_|refine cH (hwp _) rfl (cA _) ?_|(first|refine uH rfl ?_|refine uI rfl ?_)|refine uJ rfl ?_|refine uK (uL ?_)|refine uK (uM ?_))|(with_reducible refine uN ?_;refine uO rfl ?_))<;>try simp only[hmf,hmf2,go_sem,reduceIte,jA,jB,jC,jD,reduceCtorEq,jE,jF])|(with_reducible refine uR ?_;refine uS rfl ?_)|omega))
 refine yS (by simp only[go_sem,reduceIte,jA,jB,jC,jD,reduceCtorEq,jE,jF]) h' (by repeat (first|exact Hp.le_refl _|refine aQ hd ?_ (by omega) _|refine aV hd ?_ (by omega))) ⟨?_,rfl⟩
 simp only[go_sem,reduceIte,jA,jB,jC,jD,reduceCtorEq,jE,jF]
end Go.Proofs.YtmpmngakheoacaaGreat
/-
Which places lead to which,as a table that is worked on in place;tables of functions as lists. Plain laws. No conditions.
-/
namespace Go.Proofs.YtmpmngakheoacaaGreat
set_option linter.unusedSimpArgs false
set_option linter.unusedVariables false
set_option linter.unusedSectionVars false
open Go.RowKit Go.Sort
def upd(T:Nat→Nat→Bool)(i j:Nat)(b:Bool):Nat→Nat→Bool:=fun x y=>if x=i∧y=j then b else T x y
def Wsh(E:Nat→Nat→Prop)(n k i j:Nat)(T:Nat→Nat→Bool):Prop:=∀x y,x<n→y<n→(T x y=true↔if x<i∨(x=i∧y<j) then Via E (k+1) x y else Via E k x y)
section
variable{E:Nat→Nat→Prop}{n k i j:Nat}{T:Nat→Nat→Bool}
theorem Wsh.first(h:∀x y,x<n→y<n→(T x y=true↔E x y)):Wsh E n 0 0 0 T:=fun x y hx hy=>by
 rw[if_neg (by omega)];exact h x y hx hy
theorem Wsh.rowEnd(W:Wsh E n k i n T):Wsh E n k (i+1) 0 T:=fun x y hx hy=>by
 rw[W x y hx hy]
 by_cases e:x<i∨(x=i∧y<n)
 ·rw[if_pos e,if_pos (by omega)]
 rw[if_neg e,if_neg (by omega)]
theorem aGc(x k':Nat):Via E (k'+1) x k'↔Via E k' x k':=by
 constructor
 ·rintro(h|⟨h,_⟩)<;>exact h
 exact .inl
theorem aGb(y k':Nat):Via E (k'+1) k' y↔Via E k' k' y:=by
 constructor
 ·rintro(h|⟨_,h⟩)<;>exact h
 exact .inl
theorem Wsh.col(W:Wsh E n k i j T)(hk:k<n)(x:Nat)(hx:x<n):T x k=true↔Via E k x k:=by
 rw[W x k hx hk];split
 ·exact aGc x k
 exact Iff.rfl
theorem Wsh.row(W:Wsh E n k i j T)(hk:k<n)(y:Nat)(hy:y<n):T k y=true↔Via E k k y:=by
 rw[W k y hk hy];split
 ·exact aGb y k
 exact Iff.rfl
theorem Wsh.no(W:Wsh E n k i j T)(hk:k<n)(hi:i<n)(h:T i k=false):Wsh E n k (i+1) 0 T:=fun x y hx hy=>by
 have hn:¬Via E k i k:=fun hv=>by rw[(W.col hk i hi).2 hv] at h;cases h
 rw[W x y hx hy]
 by_cases e:x=i
 ·subst e
  have he:Via E (k+1) x y↔Via E k x y:=⟨fun hv=>hv.elim id fun hv=>absurd hv.1 hn, .inl⟩
  rw[if_pos (show x<x+1∨_ from .inl (by omega))]
  split
  ·exact Iff.rfl
  exact he.symm
 by_cases e2:x<i
 ·rw[if_pos (.inl e2),if_pos (.inl (by omega))]
 rw[if_neg (by omega),if_neg (by omega)]
theorem Wsh.step(W:Wsh E n k i j T)(hk:k<n)(hi:i<n)(hj:j<n)(h:T i k=true):Wsh E n k i (j+1) (upd T i j (T i j||T k j)):=fun x y hx hy=>by
 have hv:=(W.col hk i hi).1 h
 by_cases e:x=i∧y=j
 ·obtain⟨rfl,rfl⟩:=e
  have h1:=W x y hx hy
  rw[if_neg (by omega)] at h1
  have h2:=W.row hk y hy
  rw[if_pos (.inr ⟨rfl,by omega⟩)]
  unfold upd
  rw[if_pos ⟨rfl,rfl⟩,Bool.or_eq_true,h1,h2]
  constructor
  ·rintro(h|h)
   ·exact .inl h
   exact .inr ⟨hv,h⟩
  rintro(h|h)
  ·exact .inl h
  exact .inr h.2
 unfold upd
 rw[if_neg e,W x y hx hy]
 by_cases e2:x<i∨(x=i∧y<j)
 ·rw[if_pos e2,if_pos (by omega)]
 rw[if_neg e2,if_neg (by omega)]
theorem Wsh.next(W:Wsh E n k n 0 T):Wsh E n (k+1) 0 0 T:=fun x y hx hy=>by
 rw[W x y hx hy,if_pos (.inl hx),if_neg (by omega)]
theorem Wsh.done(W:Wsh E n n 0 0 T)(hE:∀i j,E i j→i<n∧j<n)(x y:Nat)(hx:x<n)(hy:y<n):T x y=true↔jU E x y:=by
 rw[W x y hx hy,if_neg (by omega)]
 exact Via.iff hE x y
end
def jZ{α:Type}(n:Nat)(f:Nat→α):List α:=(List.range n).map f
theorem iX{α:Type}(n:Nat)(f:Nat→α):(jZ n f).length=n:=by simp[jZ]
theorem vX{n i:Nat}(f:Nat→V)(h:i<n):(jZ n f).getD i (.tup [])=f i:=by
 unfold jZ
 rw[List.getD_eq_getElem?_getD,List.getElem?_eq_getElem (by simpa using h)]
 simp
theorem qW{α:Type}{n i:Nat}(f:Nat→α)(v:α):(jZ n f).set i v=jZ n fun x=>if x=i then v else f x:=by
 refine List.ext_getElem (by simp[jZ]) fun j h1 h2=>?_
 rw[List.getElem_set]
 simp only[jZ,List.getElem_map,List.getElem_range]
 by_cases e:i=j
 ·simp[e]
 have:¬j=i:=fun h=>e h.symm
 simp[e,this]
theorem oD{α:Type}(n:Nat)(v:α):List.replicate n v=jZ n fun _=>v:=by
 refine List.ext_getElem (by simp[jZ]) fun j h1 h2=>?_
 simp[jZ]
theorem lX{α:Type}{n:Nat}{f g:Nat→α}(h:∀i,i<n→f i=g i):jZ n f=jZ n g:=by
 unfold jZ
 exact List.map_congr_left fun i hi=>h i (by simpa using hi)
/-
The least ones of some paths,as the document sieves them. Plain laws. No conditions.
-/
def gP(l:List Pa)(i:Nat):Pa:=l.getD i Pa.nought
def aEf(l:List Pa)(i k:Nat):Bool:=(gP l k).le (gP l i)&&(decide (gP l k≠gP l i)||decide (k<i))
def oZ(l:List Pa)(i m:Nat):Bool:= !((List.range m).any (aEf l i))
def pO(l:List Pa)(i:Nat):Bool:=oZ l i l.length
theorem aDS(l:List Pa)(i:Nat):oZ l i 0=true:=rfl
theorem aDT(l:List Pa)(i m:Nat):oZ l i (m+1)=(oZ l i m&& !(aEf l i m)):=by
 simp[oZ,List.range_succ,List.any_append]
def sOf(b:Bool)(l:List Pa)(i:Nat):List Pa:=((List.range i).filter fun j=>pO l j&&(gP l j).n==b).map (gP l)
theorem aFu(b:Bool)(l:List Pa):sOf b l 0=[]:=rfl
theorem aCh(b:Bool)(l:List Pa)(i:Nat):sOf b l (i+1)=sOf b l i++(if (pO l i&&(gP l i).n==b)=true then [gP l i] else []):=by
 unfold sOf
 rw[List.range_succ,List.filter_append,List.map_append]
 congr 1
 split
 ·rename_i h;rw[List.filter_cons,if_pos h];rfl
 rename_i h;rw[List.filter_cons,if_neg h];rfl
def pC(l:List Pa):List Pa:=sOf false l l.length++sOf true l l.length
theorem aEk(b:Bool)(l:List Pa)(i:Nat):(sOf b l i).length≤i:=by
 unfold sOf
 rw[List.length_map]
 exact Nat.le_trans (List.length_filter_le _ _) (by simp)
theorem aDY{l:List Pa}{i:Nat}(h:i<l.length):gP l i∈l:=by
 unfold gP
 rw[List.getD_eq_getElem?_getD,List.getElem?_eq_getElem h]
 exact List.getElem_mem _
theorem wI(l:List Pa)(i:Nat):pO l i=true↔∀k,k<l.length→aEf l i k=false:=by
 unfold pO oZ
 simp
theorem wH{l:List Pa}{i j:Nat}(hi:i<l.length)(hj:j<l.length)(ki:pO l i=true)(kj:pO l j=true)(hij:i≠j):(gP l i).le (gP l j)=false:=by
 cases e:(gP l i).le (gP l j) with
 |false=>rfl
 |true=>
  have h1:=(wI l j).1 kj i hi
  have h2:=(wI l i).1 ki j hj
  unfold aEf at h1 h2
  rw[e,Bool.true_and,Bool.or_eq_false_iff] at h1
  have h3:gP l i=gP l j:=by
   have:=of_decide_eq_false h1.1
   exact Classical.byContradiction this
  have h4:=of_decide_eq_false h1.2
  rw[h3,Pa.le_refl,Bool.true_and,Bool.or_eq_false_iff] at h2
  have:=of_decide_eq_false h2.2
  omega
theorem aFE{l:List Pa}{i j:Nat}(hi:i<l.length)(hj:j<l.length)(ki:pO l i=true)(kj:pO l j=true)(hn:(gP l i).n=(gP l j).n):i=j:=by
 refine Classical.byContradiction fun hij=>?_
 rcases Int.le_total (gP l i).a (gP l j).a with h|h
 ·have:=mA hn h
  rw[wH hi hj ki kj hij] at this
  cases this
 have:=mA hn.symm h
 rw[wH hj hi kj ki (fun e=>hij e.symm)] at this
 cases this
theorem tV{b:Bool}{l:List Pa}{x:Pa}:x∈sOf b l l.length↔∃i,i<l.length∧pO l i=true∧(gP l i).n=b∧gP l i=x:=by
 unfold sOf
 simp only[List.mem_map,List.mem_filter,List.mem_range,Bool.and_eq_true,beq_iff_eq]
 constructor
 ·rintro⟨i,⟨h1,h2,h3⟩,h4⟩;exact⟨i,h1,h2,h3,h4⟩
 rintro⟨i,h1,h2,h3,h4⟩;exact⟨i,⟨h1,h2,h3⟩,h4⟩
theorem aCi(b:Bool)(l:List Pa)(R:Pa→Pa→Prop):(sOf b l l.length).Pairwise R:=by
 unfold sOf
 rw[List.pairwise_map]
 have h1:((List.range l.length).filter fun j=>pO l j&&(gP l j).n==b).Pairwise (·< ·):=(List.pairwise_lt_range).filter _
 refine h1.imp_of_mem fun{i j} hi hj hlt=>?_
 simp only[List.mem_filter,List.mem_range,Bool.and_eq_true,beq_iff_eq] at hi hj
 have:=aFE hi.1 hj.1 hi.2.1 hj.2.1 (hi.2.2.trans hj.2.2.symm)
 omega
theorem aCf{l:List Pa}(h0:∀p∈l,0≤p.a):aFY l (pC l):=by
 refine⟨List.pairwise_append.2 ⟨aCi _ _ _,aCi _ _ _,fun x hx y hy=>?_⟩,fun p hp=>?_,fun p hp=>?_⟩
 ·obtain⟨i,hi,ki,ni,rfl⟩:=tV.1 hx
  obtain⟨j,hj,kj,nj,rfl⟩:=tV.1 hy
  refine⟨ni,nj,?_⟩
  have:=wH hj hi kj ki (fun e=>by subst e;rw[ni] at nj;cases nj)
  simp[Pa.le,nj] at this
  exact this
 ·rcases List.mem_append.1 hp with hp|hp<;>obtain⟨i,hi,_,_,rfl⟩:=tV.1 hp<;>exact aDY hi
 obtain⟨i0,hi0,e0⟩:=List.getElem_of_mem hp
 have eg:gP l i0=p:=by
  unfold gP
  rw[List.getD_eq_getElem?_getD,List.getElem?_eq_getElem hi0]
  exact e0
 let M:Pa→Nat:=fun q=>2*q.a.toNat+(if q.n=true then 0 else 1)
 obtain⟨m,⟨i,hi,hle,rfl⟩,hmin⟩:=aFB (fun m=>∃i,i<l.length∧(gP l i).le p=true∧M (gP l i)*(l.length+1)+i=m) _ ⟨i0,hi0,by rw[eg];exact Pa.le_refl p,rfl⟩
 have kp:pO l i=true:=by
  refine(wI l i).2 fun k hk=>?_
  cases eb:aEf l i k with
  |false=>rfl
  |true=>
   exfalso
   unfold aEf at eb
   rw[Bool.and_eq_true,Bool.or_eq_true,decide_eq_true_eq,decide_eq_true_eq] at eb
   obtain⟨h1,h2⟩:=eb
   have h3:=hmin _ ⟨k,hk,Pa.le_trans h1 hle,rfl⟩
   by_cases e:gP l k=gP l i
   ·rw[e] at h3
    rcases h2 with h2|h2
    ·exact h2 e
    omega
   have a1:=h0 _ (aDY hk)
   have a2:=h0 _ (aDY hi)
   have hM:M (gP l k)+1≤M (gP l i):=by
    simp only[M]
    revert h1 e a1 a2
    generalize gP l k=q
    generalize gP l i=r
    obtain⟨n,a⟩:=q;obtain⟨o,c⟩:=r
    intro h1 e a1 a2
    cases n<;>cases o<;>simp[Pa.le] at*<;>omega
   have:=Nat.mul_le_mul_right (l.length+1) hM
   rw[Nat.add_mul] at this
   omega
 refine⟨gP l i,?_,hle⟩
 cases en:(gP l i).n with
 |false=>exact List.mem_append_left _ (tV.2 ⟨i,hi,kp,en,rfl⟩)
 |true=>exact List.mem_append_right _ (tV.2 ⟨i,hi,kp,en,rfl⟩)
end Go.Proofs.YtmpmngakheoacaaGreat
/-
Contracts of the document's functions on ways and paths (corollaryref22,corollaryref20). No conditions.
-/
namespace Go.Proofs.YtmpmngakheoacaaGreat
open Go.Proofs.YtmpmngakheoacaaGreat renaming kU→uA,iZ→uB,fT→uC,fU→uD,eL→uE,kW→uF,dH→uG,fV→uH,fW→uI,eM→uJ,eS→uK,fK→uL,iR→uM,kX→uN,gV→uO,bG→uP,kY→uQ,kV→uR,gC→uS
open Nat renaming reduceAdd→jA,reduceSub→jB,reduceLT→jC,reduceLeDiff→jD,reduceEqDiff→jE
open Int renaming reduceToNat→jF,toNat_natCast→jG,natCast_add→jH,natCast_one→jI,natCast_zero→jJ
open List renaming length_map→jK,length_cons→jL,length_nil→jM,replicate_succ→jN,replicate_zero→jO,cons_append→jP,nil_append→jQ
set_option linter.unusedSimpArgs false
set_option linter.unusedVariables false
set_option linter.unusedSectionVars false
open Go.RowKit Go.Sort
attribute [local irreducible] IntKind.wrap
attribute [local go_sem] Option.some.injEq Prod.mk.injEq false_and and_false Bool.true_eq_false kA iE kD gA gK if_true Bool.true_and lT dN jX gU dY aA.ok aA.next LOp.ok LOp.next bH.ok bH.out aU.ev bR jY cO bZ dI V.undef Sh.size gS gG cG aA.dok aA.dres LOp.dok LOp.dout mB jT gQ fM List.take_succ_cons List.take_zero List.take_nil List.drop_succ_cons List.drop_zero List.drop_nil List.set_cons_succ List.set_cons_zero List.getD_cons_succ List.getD_cons_zero jL jM List.map_cons List.map_nil List.all_cons List.all_nil List.mem_cons List.not_mem_nil jN jO jP jQ List.append_nil List.isEmpty_cons List.isEmpty_nil eH fQ iU Option.getD_some Option.isSome_some Option.isSome_none Nat.add_eq Nat.zero_add Nat.add_zero true_and and_true and_self true_implies implies_true false_implies forall_const forall_eq forall_eq_or_imp ne_eq not_false_eq_true not_true_eq_false Bool.not_true Bool.not_false decide_true decide_false Bool.and_true Bool.true_and Bool.and_false Bool.false_and true_or or_true false_or or_false eq_self Bool.false_eq_true nJ kE gJ aD fN eR eP eK dE eJ bJ bC dC jG Int.toNat_zero List.take_length Hp.set_app Hp.del_app iP gI aA.plain LOp.isCall aA.dplain LOp.isStop fE lM iQ mT fX V.gd_true V.gd_false gF fC fD gE bS bI aW fY fJ beq_true beq_false dV dW dX cW cX bU bV dL fI cZ eD eA bW eB eE fF fG bX eC bM cY fH cB dZ cE bL iC iA iB hZ eF dB eG dM eY eX eW eV eU cQ cP dR dQ dP cU cT cS fB fA eZ dU dT dS dJ dA bT lH Hp.turn fZ Option.isNone_some Option.isNone_none sC iO gO aA.plain2 LOp.isApp sE nQ nR lP gZ gY
theorem lK(p q:Pa)(h:Hp):bP Tryz.prog 165 [p.v,q.v] h (.bool (p.le q)):=by
 refine aZ (fun L=>trivial) fun h' nx hh=>aK L.corollaryref20_PathAtMost_low fun hd=>?_
 obtain⟨n,a⟩:=p
 obtain⟨m,b⟩:=q
 simp only[jL,jM,jA,jB,jN,jO,jP,jQ,V.undef]
 cases n<;>cases m<;>(repeat' (first|(with_reducible first|refine stp ?_|refine uP (by decide) ?_|refine uQ (fun _=>?_) (fun _=>?_))|((first|(with_reducible refine uA ?_;first|refine uB rfl ?_ ?_|(first|refine uC rfl ?_|refine uD rfl ?_)|refine uE rfl ?_)|(with_reducible refine uF ?_;first|refine uG rfl ?_ ?_|(first|refine uH rfl ?_|refine uI rfl ?_)|refine uJ rfl ?_|refine uK (uL ?_)|refine uK (uM ?_))|(with_reducible refine uN ?_;refine uO rfl ?_))<;>try simp only[Pa.v,go_sem,reduceIte,jA,jB,jC,jD,reduceCtorEq,jE,jF])|(with_reducible refine uR ?_;refine uS rfl ?_)|omega))
 all_goals refine aO h' (by repeat (first|exact Hp.le_refl _|refine aQ hd ?_ (by omega) _|refine aV hd ?_ (by omega))) ⟨?_,rfl⟩
 all_goals simp[Pa.le]
theorem aGF{n m:Bool}{a b:Int}(h1:Pa.ok ⟨n,a⟩=true)(h2:Pa.ok ⟨m,b⟩=true):Pa.ok ⟨n,a+b⟩=decide (a+b≤1048576):=by
 simp only[Pa.ok,Bool.and_eq_true,decide_eq_true_eq] at h1 h2⊢
 by_cases e:a+b≤1048576
 ·simp[e];omega
 simp[e]
theorem aCk(p q:Pa)(h:Hp):bP Tryz.prog 130 [p.v,q.v] h (.tup [(p.then q).1.v, .int .i64 (p.then q).2]):=by
 refine aZ (fun L=>by simp[V.names,dG,Pa.v]) fun h' nx hh=>aK L.corollaryref20_Then_low fun hd=>?_
 obtain⟨n,a⟩:=p
 obtain⟨m,b⟩:=q
 have hw:=aAT ⟨n,a⟩ ⟨m,b⟩
 simp only[jL,jM,jA,jB,jN,jO,jP,jQ,V.undef]
 (repeat' (first|(with_reducible first|refine stp ?_|refine uP (by decide) ?_|refine uQ (fun _=>?_) (fun _=>?_))|((first|(with_reducible refine uA ?_;first|refine uB rfl ?_ ?_|refine aN (lW ⟨_,_⟩ _) rfl (aR _) ?_|(first|refine uC rfl ?_|refine uD rfl ?_)|refine uE rfl ?_)|(with_reducible refine uF ?_;first|refine uG rfl ?_ ?_|(first|refine uH rfl ?_|refine uI rfl ?_)|refine uJ rfl ?_|refine uK (uL ?_)|refine uK (uM ?_))|(with_reducible refine uN ?_;refine uO rfl ?_))<;>try simp only[Pa.v,go_sem,reduceIte,jA,jB,jC,jD,reduceCtorEq,jE,jF])|(with_reducible refine uR ?_;refine uS rfl ?_)|omega))
 all_goals refine dO (by simp only[go_sem,reduceIte,jA,jB,jC,jD,reduceCtorEq,jE,jF]) h' (by repeat (first|exact Hp.le_refl _|refine aQ hd ?_ (by omega) _|refine aV hd ?_ (by omega))) ⟨?_,rfl⟩
 all_goals simp only[go_sem,reduceIte,jA,jB,jC,jD,reduceCtorEq,jE,jF]
 all_goals cases hp:Pa.ok ⟨n,a⟩<;>cases ht:Pa.ok ⟨m,b⟩<;>(try have hsum:=aGF hp ht)<;>simp_all [Pa.then,Pa.nought]
theorem aBf(p q:Wy)(h:Hp):bP Tryz.prog 172 [p.v,q.v] h (.bool (p.less q)):=by
 refine aZ (fun L=>trivial) fun h' nx hh=>aK L.corollaryref22_Less_low fun hd=>?_
 obtain⟨f,t,n,a⟩:=p
 obtain⟨f',t',m,b⟩:=q
 simp only[jL,jM,jA,jB,jN,jO,jP,jQ,V.undef]
 cases n<;>cases m<;>(repeat' (first|(with_reducible first|refine stp ?_|refine uP (by decide) ?_|refine uQ (fun _=>?_) (fun _=>?_))|((first|(with_reducible refine uA ?_;first|refine uB rfl ?_ ?_|(first|refine uC rfl ?_|refine uD rfl ?_)|refine uE rfl ?_)|(with_reducible refine uF ?_;first|refine uG rfl ?_ ?_|(first|refine uH rfl ?_|refine uI rfl ?_)|refine uJ rfl ?_|refine uK (uL ?_)|refine uK (uM ?_))|(with_reducible refine uN ?_;refine uO rfl ?_))<;>try simp only[Wy.v,go_sem,reduceIte,jA,jB,jC,jD,reduceCtorEq,jE,jF])|(with_reducible refine uR ?_;refine uS rfl ?_)|omega))
 all_goals refine aO h' (by repeat (first|exact Hp.le_refl _|refine aQ hd ?_ (by omega) _|refine aV hd ?_ (by omega))) ⟨?_,rfl⟩
 all_goals simp only[Wy.less,num,go_sem,reduceIte,jA,jB,jC,jD,reduceCtorEq,jE,jF]
 all_goals simp_all
 all_goals omega
/-
Contract of the document's Put:a way put into a list in order. No conditions.
-/
theorem aAi{h0:Hp}{x a d c:Nat}{deps:List Nat}{adds:List (Option Blk)}{cons:List (Option Con)}{b:Blk}(e:c=a+d)(hd:d∈deps)(ha:adds.getD d none=some b)(hu:bT (x+c) cons):mW h0 (x+a) deps adds cons (x+c) b:=⟨hu, .inr ⟨d,hd,by omega,ha⟩⟩
theorem aEF(o:Own)(l:List Wy)(w:Wy)(hl:l.length≤100000)(h':Hp)(nx:Nat):
 bO Tryz.prog 146 [wys o l,w.v] h' nx fun v h'' nx2=>(v=wys o (pH Wy.less l w)∧h''=h'∧l≠ [])∨(∃id,nx≤id∧id<nx2∧v=wys (.tok id) (pH Wy.less l w)∧h''=h'.set id .tip):=by
 refine aK L.corollaryref22_Put_low fun hd=>?_
 simp only[jL,jM,jA,jB,jN,jO,jP,jQ,V.undef]
 (repeat' (first|(with_reducible first|refine stp ?_|refine uP (by decide) ?_|refine uQ (fun _=>?_) (fun _=>?_))|((first|(with_reducible refine uA ?_;first|refine uB rfl ?_ ?_|(first|refine uC rfl ?_|refine uD rfl ?_)|refine uE rfl ?_)|(with_reducible refine uF ?_;first|refine uG rfl ?_ ?_|(first|refine uH rfl ?_|refine uI rfl ?_)|refine uJ rfl ?_|refine uK (uL ?_)|refine uK (uM ?_))|(with_reducible refine uN ?_;refine uO rfl ?_))<;>try simp only[Wy.fits_v w,go_sem,reduceIte,jA,jB,jC,jD,reduceCtorEq,jE,jF])|(with_reducible refine uR ?_;refine uS rfl ?_)|omega))
 refine bD (fun i:Nat=>aD 45 0 [(0,wys o l),(3, .ptr nx (.agg 4) 0 0),(5, .int .i64 i)])
  (fun i hp nx1=>i≤l.length∧nx+1≤nx1∧aT hp nx1∧hp=h'.set nx (.arr (.agg 4) [w.v])∧∀j (hj:j<i) (hj':j<l.length),l[j].less w=true)
  (fun i=>l.length-i) 0 ⟨Nat.zero_le _,Nat.le_refl _,(by(try dsimp only);repeat (first|exact aT.up hd (by omega)|refine aT.set2 ?_ (by omega) _|refine aT.del ?_|refine aT.delO ?_ _)),rfl,fun j hj=>absurd hj (by omega)⟩ ?_ ?_
 ·simp only[WkL,aD,jH,jI,jJ,wys,go_sem,reduceIte,jA,jB,jC,jD,reduceCtorEq,jE,jF]
 rintro i hp nx1 ⟨hi,hnx,hdm,rfl,hles⟩
 generalize hQ:dD _ _ _ _ _=Q0
 have hlt0:nx<nx1:=by omega
 have hta:((l.map Wy.v).take i).length=i:=by simp;omega
 have htb:((l.map Wy.v).take i++[w.v]).length=i+1:=by simp;omega
 have hb1:(i+1)*32≤140737488355328:=by omega
 have ca1:∀H,mW H (nx1+24) [0,1,2,3,4,5,6] [some Blk.tip,none,none,none,some Blk.tip,none,some Blk.tip] [none,none,none,none,some {n:=nx1+24,old:=Blk.tip,new:=none},none,none] (nx1+28) Blk.tip:=fun H=>aAi (d:=4) rfl (by decide) rfl ⟨by simp,trivial⟩
 have ca2:∀H,mW H (nx1+24) [0,1,2,3,4,5,6,7,8,9,10] [some Blk.tip,none,none,none,some Blk.tip,none,some Blk.tip,some Blk.tip,none,none,none] [none,none,none,none,some {n:=nx1+24,old:=Blk.tip,new:=none},none,none,some {n:=nx1+28,old:=Blk.tip,new:=none},none,none,none] (nx1+31) Blk.tip:=fun H=>aAi (d:=7) rfl (by decide) rfl ⟨by simp,by simp,trivial⟩
 simp only[aD,go_sem,reduceIte,jA,jB,jC,jD,reduceCtorEq,jE,jF]
 rcases Nat.lt_or_ge i l.length with hlt|hge
 ·have hc:decide ((i:Int)<(l.length:Int))=true:=by simpa using hlt
  have hg:=bB Wy.v l i hlt
  have hw:IntKind.i64.wrap ((i:Int)+1)=((i+1:Nat):Int):=by rw[aY]<;>omega
  cases hls:l[i].less w with
  |true=>
   (repeat' (first|(with_reducible first|refine stp ?_|refine uP (by decide) ?_|refine uQ (fun _=>?_) (fun _=>?_))|((first|(with_reducible refine uA ?_;first|refine uB rfl ?_ ?_|(first|refine uC rfl ?_|refine uD rfl ?_)|refine uE rfl ?_)|(with_reducible refine uF ?_;first|refine uG rfl ?_ ?_|refine cH (aBf l[i] w _) rfl (cA _) ?_|(first|refine uH rfl ?_|refine uI rfl ?_)|refine uJ rfl ?_|refine uK (uL ?_)|refine uK (uM ?_))|(with_reducible refine uN ?_;refine uO rfl ?_))<;>try simp only[hc,hg,hlt,hw,hls,hlt0,Wy.fits_v,jK,go_sem,reduceIte,jA,jB,jC,jD,reduceCtorEq,jE,jF])|(with_reducible refine uR ?_;refine uS rfl ?_)|omega))
   rw[←hQ]
   refine aF (i+1) (by omega) ⟨hlt,by omega,(by(try dsimp only);repeat (first|exact aT.up hdm (by omega)|refine aT.set2 ?_ (by omega) _|refine aT.del ?_|refine aT.delO ?_ _)),rfl,fun j hj hj'=>?_⟩ ?_
   ·rcases Nat.lt_or_ge j i with h|h
    ·exact hles j h hj'
    have:j=i:=by omega
    subst this;exact hls
   simp only[WkL,aD,jH,jI,jJ,wys,go_sem,reduceIte,jA,jB,jC,jD,reduceCtorEq,jE,jF]
  |false=>
   have hput:=aEv (lt:=Wy.less) (w:=w) i hi hles (fun _=>hls)
   (repeat' (first|(with_reducible first|refine stp ?_|refine uP (by decide) ?_|refine uQ (fun _=>?_) (fun _=>?_))|((first|(with_reducible refine uA ?_;first|refine uB rfl ?_ ?_|(first|refine uC rfl ?_|refine uD rfl ?_)|refine uE rfl ?_)|(with_reducible refine uF ?_;first|refine uG rfl ?_ ?_|refine cH (aBf l[i] w _) rfl (cA _) ?_|(first|refine uH rfl ?_|refine uI rfl ?_)|refine uJ rfl ?_|refine uK (uL ?_)|refine uK (uM ?_))|(with_reducible refine uN ?_;refine uO rfl ?_))<;>try simp only[hc,hg,hlt,hw,hls,hlt0,Wy.fits_v,jK,go_sem,reduceIte,jA,jB,jC,jD,reduceCtorEq,jE,jF])|(with_reducible refine uR ?_;refine uS rfl ?_)|omega))
   rw[←hQ]
   (repeat' (first|(with_reducible first|refine stp ?_|refine uP (by decide) ?_|refine uQ (fun _=>?_) (fun _=>?_))|((first|(with_reducible refine uA ?_;first|refine uB rfl ?_ ?_|(first|refine uC rfl ?_|refine uD rfl ?_)|refine uE rfl ?_)|(with_reducible refine uF ?_;first|refine uG rfl ?_ ?_|(first|refine uH rfl ?_|refine uI rfl ?_)|refine uJ rfl ?_|refine uK (uL ?_)|refine uK (uM ?_))|(with_reducible refine uN ?_;refine uO rfl ?_))<;>try simp only[hc,hg,hlt,hw,hls,hlt0,Wy.fits_v,vV,Option.isSome_some,Option.getD_some,hta,htb,hb1,ca1,ca2,List.length_drop,List.length_take,true_and,and_true,jK,go_sem,reduceIte,jA,jB,jC,jD,reduceCtorEq,jE,jF])|(with_reducible refine uR ?_;refine uS rfl ?_)|omega))
   ·rename_i hx
    refine aO h' (by repeat (first|exact Hp.le_refl _|refine aQ hd ?_ (by omega) _|refine aV hd ?_ (by omega))) (.inl ⟨?_,rfl,fun e=>by rw[e] at hlt;simp at hlt⟩)
    simp only[go_sem,reduceIte,jA,jB,jC,jD,reduceCtorEq,jE,jF]
    rw[hput,if_pos (by rw[List.getElem?_eq_getElem hlt,of_decide_eq_true hx])]
   rename_i hx
   refine aO (h'.set (nx1+35) .tip) ?_ (.inr ⟨nx1+35,by omega,by dsimp only;omega,?_,rfl⟩)
   ·intro x b hx
    by_cases e:x=nx1+35
    ·subst e;simp only[go_sem,reduceIte,jA,jB,jC,jD,reduceCtorEq,jE,jF] at hx⊢;exact hx
    have hx':h' x=some b:=by unfold Hp.set at hx;rwa [if_neg e] at hx
    have:=hd x b hx'
    have e1:(x=nx)=False:=eq_false (by omega)
    have e2:(x=nx1+24)=False:=eq_false (by omega)
    have e3:(x=nx1+28)=False:=eq_false (by omega)
    have e4:(x=nx1+30)=False:=eq_false (by omega)
    have e5:(x=nx1+31)=False:=eq_false (by omega)
    simp only[e,e1,e2,e3,e4,e5,go_sem,reduceIte,jA,jB,jC,jD,reduceCtorEq,jE,jF];exact hx'
   simp only[go_sem,reduceIte,jA,jB,jC,jD,reduceCtorEq,jE,jF]
   rw[hput,if_neg (by rw[List.getElem?_eq_getElem hlt];intro e;injection e with e;exact of_decide_eq_false hx e)]
   have htl:List.take l.length (l.map Wy.v)=l.map Wy.v:=List.take_of_length_le (by simp)
   simp[htl]
 have hc:decide ((i:Int)<(l.length:Int))=false:=by simpa using hge
 have hput:=aEv (lt:=Wy.less) (w:=w) i hi hles (fun h=>absurd h (by omega))
 (repeat' (first|(with_reducible first|refine stp ?_|refine uP (by decide) ?_|refine uQ (fun _=>?_) (fun _=>?_))|((first|(with_reducible refine uA ?_;first|refine uB rfl ?_ ?_|(first|refine uC rfl ?_|refine uD rfl ?_)|refine uE rfl ?_)|(with_reducible refine uF ?_;first|refine uG rfl ?_ ?_|(first|refine uH rfl ?_|refine uI rfl ?_)|refine uJ rfl ?_|refine uK (uL ?_)|refine uK (uM ?_))|(with_reducible refine uN ?_;refine uO rfl ?_))<;>try simp only[hc,jK,go_sem,reduceIte,jA,jB,jC,jD,reduceCtorEq,jE,jF])|(with_reducible refine uR ?_;refine uS rfl ?_)|omega))
 rw[←hQ]
 (repeat' (first|(with_reducible first|refine stp ?_|refine uP (by decide) ?_|refine uQ (fun _=>?_) (fun _=>?_))|((first|(with_reducible refine uA ?_;first|refine uB rfl ?_ ?_|(first|refine uC rfl ?_|refine uD rfl ?_)|refine uE rfl ?_)|(with_reducible refine uF ?_;first|refine uG rfl ?_ ?_|(first|refine uH rfl ?_|refine uI rfl ?_)|refine uJ rfl ?_|refine uK (uL ?_)|refine uK (uM ?_))|(with_reducible refine uN ?_;refine uO rfl ?_))<;>try simp only[hc,hlt0,Wy.fits_v,vV,Option.isSome_some,Option.getD_some,hta,htb,hb1,ca1,ca2,List.length_drop,List.length_take,true_and,and_true,jK,go_sem,reduceIte,jA,jB,jC,jD,reduceCtorEq,jE,jF])|(with_reducible refine uR ?_;refine uS rfl ?_)|omega))
 refine aO (h'.set (nx1+35) .tip) ?_ (.inr ⟨nx1+35,by omega,by dsimp only;omega,?_,rfl⟩)
 ·intro x b hx
  by_cases e:x=nx1+35
  ·subst e;simp only[go_sem,reduceIte,jA,jB,jC,jD,reduceCtorEq,jE,jF] at hx⊢;exact hx
  have hx':h' x=some b:=by unfold Hp.set at hx;rwa [if_neg e] at hx
  have:=hd x b hx'
  have e1:(x=nx)=False:=eq_false (by omega)
  have e2:(x=nx1+24)=False:=eq_false (by omega)
  have e3:(x=nx1+28)=False:=eq_false (by omega)
  have e4:(x=nx1+30)=False:=eq_false (by omega)
  have e5:(x=nx1+31)=False:=eq_false (by omega)
  simp only[e,e1,e2,e3,e4,e5,go_sem,reduceIte,jA,jB,jC,jD,reduceCtorEq,jE,jF];exact hx'
 simp only[go_sem,reduceIte,jA,jB,jC,jD,reduceCtorEq,jE,jF]
 rw[hput,if_neg (by rw[List.getElem?_eq_none (by omega)];simp)]
 have htl:List.take l.length (l.map Wy.v)=l.map Wy.v:=List.take_of_length_le (by simp)
 simp[htl]
end Go.Proofs.YtmpmngakheoacaaGreat
/-
The abstract layer:of a call's many results,less is known. No program in sight. No conditions.
-/
namespace Go.Proofs.YtmpmngakheoacaaGreat
set_option linter.unusedSimpArgs false
set_option linter.unusedVariables false
set_option linter.unusedSectionVars false
open Go.RowKit
def V.loose2:V→V
 | .tup vs=> .tup (vs.map V.loose)
 |v=>v.loose
theorem VR.loose2{K:Ker}{v:V}{cv:Value}(r:VR K v cv):VR K v.loose2 cv:=by
 cases v with
 |tup vs=>
  cases r with
  |tup _ ccs hl hv=>
   refine .tup _ ccs (by simpa using hl) fun i hi=>?_
   have hi':i<vs.length:=by simpa using hi
   have:=hv i hi'
   simp only[List.getD_eq_getElem?_getD,List.getElem?_map,List.getElem?_eq_getElem hi',Option.map_some,Option.getD_some] at this⊢
   exact this.loose
 |_=>exact r.loose
theorem bO.conv2{P:Program}{f:FuncId}{args:List V}{h:Hp}{nx:Nat}{R R':V→Hp→Nat→Prop}(c:bO P f args h nx R)(hc:∀v h' nx',nx≤nx'→aT h' nx'→R v h' nx'→∃h2,h2.le h'∧R' v.loose2 h2 nx'):bO P f args h nx R':=by
 refine⟨c.1,fun K cargs hl hr hv=>(c.2 K cargs hl hr hv).mono ?_⟩
 rintro e w' ⟨K',v,cv,h',nx',rfl,he,hle,hvr,hrel,hlv,hnx,hR⟩
 obtain⟨h2,q1,q2⟩:=hc v h' nx' hnx (fun m b hm=>(hlv m (hrel.lt m b hm)).1) hR
 exact⟨K',v.loose2,cv,h2,nx',rfl,he,hle,hvr.loose2,hrel.weaken q1,hlv,hnx,q2⟩
theorem yT{P:Program}{f:FuncId}{args:List V}{h:Hp}{v:V}(hv:∀L,v.names L)(hc:∀h' nx,h.has h'→bO P f args h' nx fun v' h'' _=>v'.loose2=v∧h'.le h''):bP P f args h v:=
 aZ hv fun h' nx hh=>(hc h' nx hh).conv2 fun v' h'' nx' _ _ hq=>⟨h',hq.2,hq.1,rfl⟩
end Go.Proofs.YtmpmngakheoacaaGreat
