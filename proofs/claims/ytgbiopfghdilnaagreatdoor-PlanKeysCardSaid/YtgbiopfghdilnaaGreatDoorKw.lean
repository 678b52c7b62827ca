/-
Texts of this proof,one behind the other. No conditions.
-/
import Derived.Test.YtgbiopfghdilnaaGreatDoorKv
import Derived.Test.YtgbiopfghdilnaaGreatDoorKo
import Derived.Test.YtgbiopfghdilnaaGreatDoorKp
import Derived.Test.YtgbiopfghdilnaaGreatDoorKd
open List renaming getD_eq_getElem?_getD→Ka,getElem?_eq_getElem→Kb,getElem_mem→Kc,append_nil→Ke,map_congr_left→Kf,getElem_cons_zero→Kg,mem_cons_of_mem→Kh,mem_cons→Ki,mem_cons_self→Kj,map_append→Kk,mem_append→Km
open Nat renaming mul_one→Kd,le_refl→Ko
set_option linter.unusedSimpArgs false
set_option linter.unusedVariables false
set_option linter.unusedSectionVars false
set_option maxHeartbeats 8000000
open Nat renaming reduceAdd→jA,reduceSub→jB,reduceLT→jC,reduceLeDiff→jD,reduceEqDiff→jE
open Int renaming reduceToNat→jF,toNat_natCast→jG,natCast_add→jH,natCast_one→jI,natCast_zero→jJ
open List renaming length_map→jK,length_cons→jL,length_nil→jM,replicate_succ→jN,replicate_zero→jO,cons_append→jP,nil_append→jQ
namespace Go.Proofs.YtgbiopfghdilnaaGreatDoor
open Go.RowKit Go.Sort
theorem l7{x:ByteArray}{w:Vl}{l:List Tr}(h:lkB x l=some w):∀m:List Tr,lkB x (l++m)=some w:=by
 intro m;induction l with
 |nil=>cases h
 |cons a l ih=>
  simp only[List.cons_append,lkB] at h⊢;split at h
  ·rename_i e;rw[if_pos e];exact h
  rename_i e;rw[if_neg e];exact ih h
theorem mY:∀{ts:List Tr} {vs:List Vl} {l l2:List Tr},mJ ts vs l=some l2→∃m,l2=l++m
 | [],_,l,l2,h=>⟨[],by have:some l=some l2:=h;injection this with e;rw[e,Ke]⟩
 |a::r,[],l,l2,h=>⟨[],by have:some l=some l2:=h;injection this with e;rw[e,Ke]⟩
 |a::r,v::vs,l,l2,h=>by
  rw[qU] at h;split at h
  ·split at h
   ·exact mY h
   cases h
  split at h
  ·obtain⟨m,e⟩:=mY h;exact⟨⟨a.x,v⟩::m,by rw[e,List.append_assoc];rfl⟩
  split at h
  ·exact mY h
  cases h
theorem rY:∀{ts:List Tr} {vs:List Vl} {l l2:List Tr},mJ ts vs l=some l2→∀(c:Nat) (h1:c<ts.length) (h2:c<vs.length),
 (ts[c].x.size=0→ts[c].w=vs[c])∧∀w,ts[c].x.size≠0→lkB ts[c].x l=some w→w=vs[c]
 |a::r,v::vs,l,l2,h,c,h1,h2=>by
  rw[qU] at h;by_cases h0:a.x.size=0
  ·rw[if_pos h0] at h;by_cases hv:a.w=v
   ·rw[if_pos hv] at h;cases c with
    |zero=>exact⟨fun _=>hv,fun w hne=>absurd h0 hne⟩
    |succ c=>exact rY h c (by simpa using h1) (by simpa using h2)
   rw[if_neg hv] at h;cases h
  rw[if_neg h0] at h;cases hk:lkB a.x l with
  |none=>
   rw[hk] at h;cases c with
   |zero=>exact⟨fun e=>absurd e h0,fun w _ e=>by simp only[Kg] at e;rw[hk] at e;cases e⟩
   |succ c=>
    obtain⟨g1,g2⟩:=rY h c (by simpa using h1) (by simpa using h2);exact⟨g1,fun w hne e=>g2 w hne (l7 e _)⟩
  |some w2=>
   rw[hk] at h;simp only at h;by_cases hv:w2=v
   ·rw[if_pos hv] at h;cases c with
    |zero=>exact⟨fun e=>absurd e h0,fun w _ e=>by simp only[Kg] at e⊢;rw[hk] at e;injection e with e;rw[←e];exact hv⟩
    |succ c=>exact rY h c (by simpa using h1) (by simpa using h2)
   rw[if_neg hv] at h;cases h
theorem zM{x:ByteArray}:∀{xs:List ByteArray} {vs:List Vl},xs.length=vs.length→x∈xs→∃w,lkB x (iS xs vs)=some w∧w∈vs
 |y::xs,v::vs,hl,h=>by
  unfold iS lkB;by_cases e:y=x
  ·rw[if_pos e];exact⟨v,rfl,Kj⟩
  rw[if_neg e];obtain⟨w,h1,h2⟩:=zM (by simpa using hl) ((Ki.1 h).resolve_left fun k=>e k.symm);exact⟨w,h1,Kh _ h2⟩
theorem nf:∀{xs:List ByteArray} {vs:List Vl},xs.Nodup→xs.length=vs.length→jS (iS xs vs) xs=vs
 | [],[],_,_=>rfl
 |y::xs,v::vs,hn,hl=>by
  rw[List.nodup_cons] at hn;have ih:=nf hn.2 (show xs.length=vs.length by simpa using hl);unfold jS at ih⊢;rw[List.map_cons];congr 1
  ·unfold iS lkB;rw[if_pos rfl];rfl
  rw[←ih];refine Kf fun x hx=>?_;conv=>lhs;unfold iS lkB
  rw[if_neg (fun e=>hn.1 (by have e:y=x:=e;rw[e];exact hx)),ih]
theorem u0{l m:List Tr}{xs:List ByteArray}(h:∀x∈xs,∃w,lkB x l=some w):jS (l++m) xs=jS l xs:=by
 unfold jS;refine Kf fun x hx=>?_;obtain⟨w,hw⟩:=h x hx;rw[hw,l7 hw]
theorem Ac{s:PS}{x:Li}{t:List Vl}{l l2:List Tr}(h:(goB s x t l).1=some l2):∃m,l2=l++m:=by
 unfold goB at h;split at h
 ·unfold dz at h;simp only at h;split at h
  ·cases h
  exact mY h
 split at h
 ·split at h
  ·cases h
  injection h with h;exact⟨[],by rw[←h,Ke]⟩
 unfold gp pr at h;split at h
 ·split at h
  ·cases h
  injection h with h;exact⟨_,h.symm⟩
 split at h
 ·split at h
  ·cases h
  injection h with h;exact⟨_,h.symm⟩
 split at h
 ·cases h
 injection h with h;exact⟨[],by rw[←h,Ke]⟩
theorem lu(l:List Tr):∀(ts:List Tr) (acc:List Vl),(∀t∈ts,(cO t l).2=0)→lH l acc ts=(acc++ts.map fun t=>(cO t l).1,0)
 | [],acc,_=>by simp[lH]
 |t::r,acc,h=>by
  rw[nA,if_neg (by simp[h t Kj]),lu l r _ fun t ht=>h t (Kh _ ht)];simp
structure PlT(R:Ru)(s:PS):Prop extends PlS R s where
 pre:∃m,s.wt=s.hv++m
 told:s.k=1→∀c∈s.ky,((R.b.getD s.i default).a.l.getD c default).x.size=0∧cC ((R.b.getD s.i default).a.l.getD c default).w=true∨((R.b.getD s.i default).a.l.getD c default).x.size≠0∧((R.b.getD s.i default).a.l.getD c default).x∈s.hv
theorem kz{R:Ru}{ps:List PS}{i:Int}{row t:List Vl}(hp:∀s∈ps,PlT R s)(h:(nO R ps i row t).2.1=true):
 (0≤i∧i<ps.length)∧(nO R ps i row t).2.2=0∧(dS ps i).hv.length=row.length∧row.length≤(nO R ps i row t).1.length∧(nO R ps i row t).1.take row.length=row∧∃l2,(goB (dS ps i) (mL R ps i) t (iS (dS ps i).hv row)).1=some l2:=by
 unfold nO at h⊢;by_cases hi:0≤i∧i<ps.length
 ·rw[if_neg (fun e=>e hi)] at h⊢;by_cases hl:(dS ps i).hv.length=row.length
  ·rw[if_neg (by simpa using hl)] at h⊢;cases hg:(goB (dS ps i) (mL R ps i) t (iS (dS ps i).hv row)).1 with
   |none=>rw[hg] at h;cases h
   |some l2=>
    have hs:=hp _ (mG hi);obtain⟨m,hm⟩:=Ac hg;obtain⟨m2,hm2⟩:=hs.pre;have aAj:∀x∈(dS ps i).hv,∃w,lkB x (iS (dS ps i).hv row)=some w:=fun x hx=>(zM hl hx).imp fun _ h=>h.1;have hr:jS l2 (dS ps i).wt=row++jS l2 m2:=by
     rw[hm2];unfold jS;rw[Kk];congr 1;show jS l2 _=_;rw[hm,u0 aAj,nf hs.nd hl]
    simp only;rw[hr];exact⟨hi,trivial,hl,Zm,Zm,l2,rfl⟩
  rw[if_pos hl] at h;cases h
 rw[if_pos hi] at h;cases h
theorem AZ{R:Ru}{ps:List PS}{i:Int}{row t:List Vl}(h:(nO R ps i row t).2.1=false):(nO R ps i row t).1=[]:=by
 unfold nO at h⊢;split
 ·rfl
 rename_i h1;rw[if_neg h1] at h;split
 ·rfl
 rename_i h2;rw[if_neg h2] at h;split
 ·rfl
 rename_i l2 hg;rw[hg] at h;cases h
theorem qv{R:Ru}{ps:List PS}{i:Int}{row t:List Vl}(hp:∀s∈ps,PlT R s)(h:(nO R ps i row t).2.1=true)(hk:(dS ps i).k=1)(hr:∀v∈row,cC v=true):
 (yS R ps i row).2=0∧(mW R ps i t).2=0∧(yS R ps i row).1=(mW R ps i t).1:=by
 obtain⟨hi,_,hl,_,_,l2,hg⟩:=kz hp h;have hs:=hp _ (mG hi);unfold goB at hg;rw[if_pos hk] at hg;simp only at hg;unfold dz at hg;have hlen:(mL R ps i).a.l.length=t.length:=by
  by_cases e:(mL R ps i).a.l.length=t.length
  ·exact e
  rw[if_pos e] at hg;cases hg
 rw[if_neg (by simpa using hlen)] at hg;have aSN:∀c∈(dS ps i).ky,(cO ((mL R ps i).a.l.getD c default) (iS (dS ps i).hv row)).2=0∧(cO ((mL R ps i).a.l.getD c default) (iS (dS ps i).hv row)).1=t.getD c gR:=by
  intro c hc;have hcl:c<(mL R ps i).a.l.length:=hs.kc c hc;obtain⟨m1,m2⟩:=rY hg c hcl or;have hT:=hs.told hk c hc;have e1:(mL R ps i).a.l.getD c default=(mL R ps i).a.l[c]:=by rw[Ka,Kb hcl];rfl
  have e2:t.getD c gR=t[c]'or:=by rw[Ka,Kb or];rfl
  have e3:(R.b.getD (dS ps i).i default)=mL R ps i:=rfl;rw[e3,e1] at hT;rw[e1,e2];unfold cO;rcases hT with⟨h0,hv⟩|⟨h0,hin⟩
  ·rw[if_pos h0,if_pos hv];exact⟨rfl,m1 h0⟩
  rw[if_neg h0];obtain⟨w,hw,aAi⟩:=zM hl hin;rw[hw];simp only;rw[if_pos (hr w aAi)];exact⟨rfl,m2 w h0 hw⟩
 have hL:yS R ps i row=(gS t (dS ps i).ky,0):=by
  unfold yS;rw[if_neg (by simp[hi,hk]),if_neg (by simpa using hl),lu]
  ·unfold BV gS;rw[List.nil_append,List.map_map];congr 1;exact Kf fun c hc=>(aSN c hc).2
  intro T hT;obtain⟨c,hc,rfl⟩:=List.mem_map.1 hT;exact(aSN c hc).1
 have hR:mW R ps i t=(gS t (dS ps i).ky,0):=by
  unfold mW;rw[if_neg (by simp[hi,hk]),if_neg (by simpa using hlen.symm)]
 rw[hL,hR];exact⟨rfl,rfl,rfl⟩
theorem sw{l:Li}(h:cF l=true)(k:Nat)(hv:List ByteArray):(kA l k hv).k=l.k:=by
 unfold kA;dsimp only;rcases xR h with e|e|e<;>rw[e]<;>rfl
theorem tN(r:Ru):∀(ks:List Nat) (hv:List ByteArray) (s:PS),s∈kH r ks hv→∃(i:Nat) (h:i<ks.length),s=kA (r.b.getD ks[i] default) ks[i] (cW r (ks.take i) hv)
 | [],hv,s,h=>by cases h
 |k::ks,hv,s,h=>by
  rcases Ki.1 h with rfl|h
  ·exact⟨0,Zm,rfl⟩
  obtain⟨i,hi,e⟩:=tN r ks _ s h;exact⟨i+1,by simpa using hi,e⟩
def BH(r:Ru)(s:PS):Prop:=s.i<r.b.length∧s.hv.length≤1000000000∧s.wt.length≤1000000000∧s.ky.length≤1000000000
theorem AR{r:Ru}(hr:eQ r=true):(rV r).length≤8∧∀s∈rV r,BH r s:=by
 obtain⟨b1,b2,b3⟩:=dI hr;have hol:(dB r).length≤8:=by
  unfold dB nY;rw[List.length_map];exact Nat.le_trans (mT ..) b2
 refine⟨by unfold rV;rw[tO];exact hol,fun s hs=>?_⟩;have aDT:=yA r;obtain⟨i,hi,rfl⟩:=tN r _ _ s hs;have hk:=aDT _ (Kc hi);have hD:r.b.getD (dB r)[i] default=r.b[(dB r)[i]]:=by rw[Ka,Kb hk];rfl
 have hrl:=b3 _ (Kc hk);have h1:=qZ r b3 ((dB r).take i) [] fun k hk=>aDT k (List.mem_of_mem_take hk);have h2:((dB r).take i).length*2097158≤8*2097158:=Nat.mul_le_mul_right _ (by rw[List.length_take];omega);simp only[List.length_nil] at h1;have h3:=lE r.b[(dB r)[i]].ts (cW r ((dB r).take i) []);have h4:=gW hrl;refine⟨hk,by unfold kA;dsimp only;omega,by unfold kA;dsimp only;rw[hD];omega,?_⟩;unfold kA;dsimp only;rw[hD];split
 ·have:=pD (cW r ((dB r).take i) []) r.b[(dB r)[i]].a.l 0;have h5:=(kE hrl).1;unfold pX;omega
 simp
end Go.Proofs.YtgbiopfghdilnaaGreatDoor
namespace Go.Proofs.YtgbiopfghdilnaaGreatDoor
open Go.RowKit Go.Sort
attribute [local irreducible] IntKind.wrap
set_option maxHeartbeats 4000000
theorem cm{s:List ByteArray}:∀{ts:List Tr} {i c:Nat},c∈iH s i ts→i≤c∧∃h:c-i<ts.length,ts[c-i].x.size=0∨ts[c-i].x∈s
 |t::ts,i,c,h=>by
  unfold iH at h;have key:c∈iH s (i+1) ts→i≤c∧∃h:c-i<(t::ts).length,(t::ts)[c-i].x.size=0∨(t::ts)[c-i].x∈s:=fun h=>by
   obtain⟨h1,h2,h3⟩:=cm h;obtain⟨d,hd⟩:∃d,c-i=d+1:=⟨c-i-1,or⟩;have e:c-(i+1)=d:=or;simp only[e] at h2 h3;simp only[hd];exact⟨or,by simpa using h2,by simpa using h3⟩
  split at h
  ·rename_i hc;rcases Ki.1 h with rfl|h
   ·simp only[Nat.sub_self];refine⟨Ko _,Zm,?_⟩;simp only[Bool.or_eq_true,decide_eq_true_eq,gN] at hc;exact hc
   exact key h
  exact key h
theorem AQ{r:Ru}(hr:eQ r=true):xz r.lo (rV r)∧∀s∈rV r,PlT r.lo s:=by
 obtain⟨b1,b2,b3⟩:=dI hr;obtain⟨h8,hok⟩:=AR hr;have aDT:=yA r;have key:∀s∈rV r,PlT r.lo s:=fun s hs=>by
  obtain⟨q1,q2,q3,q4⟩:=hok s hs;obtain⟨i,hi,rfl⟩:=tN r _ _ s hs;have hk:=aDT _ (Kc hi);generalize (dB r)[i]=k at*;generalize hhv:cW r ((dB r).take i) []=hv at*;have hnd:hv.Nodup:=by rw[←hhv];exact sX r _ _ List.nodup_nil
  obtain⟨l,hD,hrl⟩:∃l,r.b.getD k default=l∧cF l=true:=⟨r.b[k],by rw[Ka,Kb hk];rfl,b3 _ (Kc hk)⟩;have hal:=(kE hrl).1;rw[hD] at q2 q3⊢;have hDl:r.lo.b.getD (kA l k hv).i default=l:=hD;have hky:∀c∈(kA l k hv).ky,∃h:c<l.a.l.length,l.a.l[c].x.size=0∨l.a.l[c].x∈hv:=fun c hc=>by
   unfold kA at hc;dsimp only at hc;split at hc
   ·obtain⟨_,h2,h3⟩:=cm hc;exact⟨h2,h3⟩
   cases hc
  refine⟨⟨hk,hnd,q2,q3,?_,?_,?_,?_,?_⟩,s9 _ _,?_⟩
  ·unfold kA;dsimp only;split
   ·have:=pD hv l.a.l 0;unfold pX;omega
   simp
  ·rw[hDl];exact fun c hc=>(hky c hc).1
  ·rw[hDl];exact hrl
  ·rw[hDl];exact sw hrl k hv
  ·rw[hDl];exact hal
  rw[hDl];intro h1 c hc;obtain⟨hcl,ht⟩:=hky c hc;have e:l.a.l.getD c default=l.a.l[c]:=by rw[Ka,Kb hcl];rfl
  rw[e];have hk1:l.k=1:=by rw[←sw hrl k hv];exact h1
  have hT:fV l.a.l[c]=true:=by
   unfold cF at hrl;rw[if_pos (.inl hk1)] at hrl;unfold lR at hrl;simp only[Bool.and_eq_true,List.all_eq_true] at hrl;exact hrl.1.1.1.2 _ (Kc _)
  by_cases h0:l.a.l[c].x.size=0
  ·refine .inl ⟨h0,?_⟩;unfold fV at hT;rwa [if_pos h0] at hT
  exact .inr ⟨h0,ht.resolve_left h0⟩
 exact⟨⟨or,fun s hs=>(key s hs).toPlS⟩,key⟩
theorem BK(r:Ru):∃(R:Ru) (ps:List PS) (e:Int),xX r= .tup [dJ R ps,dP e]∧(e≠0→ps=[])∧xz R ps∧∀s∈ps,PlT R s:=by
 unfold xX de;cases hr:eQ r with
 |false=>exact⟨_,[],_,rfl,fun _=>rfl,⟨Zm,fun s h=>(by cases h)⟩,fun s h=>(by cases h)⟩
 |true=>
  simp only[Bool.true_eq_false,if_false];by_cases hs:dU r (iT r) false≠ []
  ·simp only[if_pos hs];exact⟨_,[],_,rfl,fun _=>rfl,⟨Zm,fun s h=>(by cases h)⟩,fun s h=>(by cases h)⟩
  simp only[if_neg hs];have h:=AQ hr;exact⟨_,_,_,rfl,fun e=>absurd rfl e,h.1,h.2⟩
end Go.Proofs.YtgbiopfghdilnaaGreatDoor
namespace Go.Proofs.YtgbiopfghdilnaaGreatDoor
open Go.RowKit Go.Sort
attribute [local irreducible] IntKind.wrap
set_option maxHeartbeats 4000000
theorem rz{h0:Hp}{x a d c:Nat}{aAF:List Nat}{aAL:List (Option Blk)}{cons:List (Option Con)}{b:Blk}(e:c=a+d)(hd:d∈aAF)(ha:aAL.getD d none=some b)(hu:dD (x+c) cons):oW h0 (x+a) aAF aAL cons (x+c) b:=⟨hu, .inr ⟨d,hd,or,ha⟩⟩
theorem A4:aD Tryz.prog 99=some (LB.aAU (.agg 3)):=Zz
theorem A7:aD Tryz.prog 55=some (LB.ContainsFunc (.agg 3) 99):=Zz
theorem gj(x:Vl)(h:Hp):aM Tryz.prog 53 [x.v] h (.bool (!cC x)):=by
 refine aJ (fun L=>trivial) fun h' nx hh=>aB L.aVE fun hd=>?_;have C1:=fun h=>gB x h;have hf:=Vl.aAD x;generalize x.v=X at*;simp only[jL,jM,jA,jB,jN,jO,jP,jQ,V.undef];refine aue hf ?_;exact aC h' (leo hd) ⟨rfl,rfl⟩
theorem aq(o:Own)(l:List Vl)(hl:l.length≤1000000000)(h:Hp):aM Tryz.prog 21 [vls o l] h (.bool (decide (l.length≤6)&&l.all cC)):=by
 refine aJ (fun L=>trivial) fun h' nx hh=>aB L.aVi fun hd=>?_;have C1:=fun h=>fH Vl.v (fun _=>Vl.aAD _) A7 A4 (fun x=> !cC x) o l 53 [] h (fun x _=>gj x h) hl;have ha:(!l.any fun x=> !cC x)=l.all cC:=by rw[List.not_any_eq_all_not];simp
 simp only[jL,jM,jA,jB,jN,jO,jP,jQ,V.undef];by_cases h6:l.length≤6
 ·have g:decide ((l.length:Int)≤6)=true:=dct;rw[decide_eq_true h6];refine aue (e3 g (@jK Vl V) ha) ?_;exact aC h' (leo hd) ⟨rfl,rfl⟩
 have g:decide ((l.length:Int)≤6)=false:=dcf;rw[decide_eq_false h6];refine aue (e2 g (@jK Vl V)) ?_;exact aC h' (leo hd) ⟨rfl,rfl⟩
theorem p9{R:Ru}{ps:List PS}{i:Int}{t:List Vl}(hp:xz R ps):(mW R ps i t).1.length≤6:=by
 unfold mW;split
 ·simp
 rename_i h;have hi:0≤i∧i<ps.length:=by simp only[not_or,Classical.not_not] at h;exact h.1
 split
 ·simp
 have:=(hp.2 _ (mG hi)).kl;unfold gS;rw[jK];exact this
theorem pz(o1 o2:Own)(a b:List Vl)(ha:a.length≤1000000000)(h:Hp):aM Tryz.prog 23 [vls o1 a,vls o2 b] h (.bool (decide (a=b))):=by
 refine aJ (fun L=>trivial) fun h' nx hh=>aB L.aVU fun hd=>?_;have C1:=fun h=>bc o1 o2 a b ha h;simp only[jL,jM,jA,jB,jN,jO,jP,jQ,V.undef];refine au ?_;exact aC h' (leo hd) ⟨rfl,rfl⟩
set_option maxHeartbeats 8000000 in
set_option maxRecDepth 100000 in
theorem ib(ha:∀h,aM Tryz.prog 7 [] h (.bool true))(r:Ru)(hr:r.s47)(i:Int)(oa ob:Own)(a b:List Vl)(h:Hp):aM Tryz.prog 5 [r.v, .int .i64 i, .agg [vls oa a,vls ob b]] h (.bool true):=by
 refine aJ (fun L=>trivial) fun h' nx hh=>aB L.g0z fun hd=>?_;have hd:aW h' nx:=hd;have C1:=ha;have C2:=fun h=>qk r hr h;have C3:=fun h=>vH r h;obtain⟨RV,hRV⟩:∃RV,r.v= .agg RV:=⟨_,rfl⟩;have hRf:(V.agg RV).fits (.agg 6)=true:=by rw[←hRV];rfl
 rw[hRV] at C2 C3⊢;simp only[jL,jM,jA,jB,jN,jO,jP,jQ,V.undef];obtain⟨N,hN⟩:∃N,ym r=N:=⟨_,rfl⟩;rw[hN] at C2;by_cases hlt:N<0
 ·have g1:decide (N<0)=true:=dct;clear C3;refine aue (e3 hRf g1 trs.eq_1) ?_;exact aC h' (leo hd) ⟨rfl,rfl⟩
 have g1:decide (N<0)=false:=dcf;refine aue (e3 hRf g1 Kd) ?_;refine aH (wh _ [(oa,a),(ob,b)] Zm _) rfl (aK _) ?_;cases aBh:vK 0 (oD [(oa,a),(ob,b)]) with
 |true=>
  clear C3;refine aue aBh ?_;exact aC h' (leo hd) ⟨rfl,rfl⟩
 |false=>
  have hln:=d7 _ _ aBh;have hla:a.length≤50:=hln a (by simp[oD]);have hlb:b.length≤50:=hln b (by simp[oD]);obtain⟨R,ps,e,hE,he0,hPO,hPT⟩:=BK r;rw[hE] at C3;obtain⟨oS,hoS⟩:=cL (.agg 5) (ps.map PS.v);obtain⟨PV,hPV,aEk,aMR⟩:∃PV,dJ R ps= .agg PV∧(V.agg PV).fits (.agg 7)=true∧PV.getD 6 (.tup [])= .sl (.agg 5) oS (ps.map PS.v):=by
   unfold dJ;rw[hoS];exact⟨_,rfl,rfl,rfl⟩
  rw[hPV] at C3;have hve:=lA e;by_cases he:e=0;rotate_left
  ·rw[decide_eq_false he] at hve;have hps:=he0 he;have hz:((ps.length:Int)==0)=true:=by rw[hps];rfl
   refine aue (e8 hRf g1 aBh hve aEk aMR hz (@jK PS V)) ?_;exact aC h' (leo hd) ⟨rfl,rfl⟩
  rw[decide_eq_true he] at hve;have hl1:a.length*32≤140737488355328:=or;have hl2:(a.length+b.length)*32≤140737488355328:=or;have ca:∀H,oW H (nx+5) [0,1,2,3,4,5] [some Blk.tip,none,none,some Blk.tip,none,none] [none,none,none,some {n:=nx+5,old:=Blk.tip,new:=none},none,none] (nx+8) Blk.tip:=fun H=>rz (d:=3) rfl ZM rfl (by simp[dD]);refine aue (e11 hRf g1 aBh hve aEk aMR (@jK PS V) Kd hl1 hl2 (e2 ca (@jK Vl V))) ?_;rw[←Kk];generalize hH:Hp.del _ _=H;have hk:∀m,m<nx→H m=h' m:=fun m hm=>by rw[←hH];simp only[Hp.set,Hp.del];repeat rw[if_neg or]
  have hb1:H (nx+1)=some (.arr (.agg 2) [.agg [vls oa a,vls ob b]]):=by rw[←hH];simp only[go_sem,reduceIte,jA,jB,jC,jD,reduceCtorEq,jE,jF]
  have hb3:H (nx+3)=some (.arr (.agg 7) [.agg PV]):=by rw[←hH];simp only[go_sem,reduceIte,jA,jB,jC,jD,reduceCtorEq,jE,jF]
  have hdH:aW H (nx+14):=by rw[←hH];exact dmo hd
  clear hH ca C1 C2 C3 hve aBh;have aVz:(a++b).length≤100:=by rw[List.length_append];omega
  refine aS (fun j:Nat=>aF 140 0 [(1, .int .i64 i),(5, .ptr (nx+1) (.agg 2) 0 0),(6, .bool false),(7, .ptr (nx+3) (.agg 7) 0 0),(46,vls (.tok (nx+11)) (a++b)),(47, .int .i64 (a++b).length),(48, .int .i64 j)])
   (fun j hp nx1=>j≤(a++b).length∧nx+14≤nx1∧aW hp nx1∧(∀m,m<nx+5→hp m=H m)∧∀v∈(a++b).take j,cC v=true)
   (fun j=>(a++b).length-j) 0 ⟨Nat.zero_le _,Ko _,hdH,fun m hm=>rfl,Zm⟩ (by simp only[WkL,aF,jH,jI,jJ,jK,go_sem,reduceIte,jA,jB,jC,jD,reduceCtorEq,jE,jF]) ?_
  rintro j hp nx1 ⟨hj,hnx,hdm,hsm,aAj⟩;generalize hQ:bK _ _ _ _ _=Q0;simp only[aF,go_sem,reduceIte,jA,jB,jC,jD,reduceCtorEq,jE,jF];have hc1:=(hsm (nx+1) or).trans hb1;have hc3:=(hsm (nx+3) or).trans hb3;have m1:nx+1<nx1:=or;have m3:nx+3<nx1:=or;have hle:h'.le hp:=Hp.same.le (fun m hm=>(hsm m or).trans (hk m hm)) hd (Hp.le_refl _);rcases Nat.lt_or_ge j (a++b).length with hlt|hge
  ·have hc:decide ((j:Int)<((a++b).length:Int))=true:=dct;have hg:=aN Vl.v (a++b) j hlt;have hw:IntKind.i64.wrap ((j:Int)+1)=((j+1:Nat):Int):=wrp;have htk:=List.take_succ_eq_append_getElem hlt;generalize (a++b)[j]=v at hg htk;have hvf:=Vl.aAD v;refine aue (e6 hc hg hlt hvf (@jK Vl V) jG) ?_;have T:∀o h,aM Tryz.prog 21 [vls o [v]] h (.bool (cC v)):=fun o h=>by
    have:=aq o [v] Zm h;rwa [show(decide (([v]:List Vl).length≤6)&& [v].all cC)=cC v by simp] at this
   refine aH (T _ _) rfl (aK _) ?_;cases hv:cC v with
   |false=>
    refine aue hv ?_;rw[←hQ];refine au ?_;exact aC h' (lef hd hle) ⟨rfl,rfl⟩
   |true=>
    refine aue (e2 hv hw) ?_;rw[←hQ];refine aG (j+1) or ⟨hlt,or,dmo hdm,fun m hm=>?_,fun x hx=>?_⟩ (by simp only[WkL,aF,jH,jI,jJ,go_sem,reduceIte,jA,jB,jC,jD,reduceCtorEq,jE,jF])
    ·simp only[Hp.set];repeat rw[if_neg or]
     exact hsm m hm
    rw[htk,Km,List.mem_singleton] at hx;rcases hx with hx|rfl
    ·exact aAj x hx
    exact hv
  have hc:decide ((j:Int)<((a++b).length:Int))=false:=dcf;rw[List.take_of_length_le or] at aAj;have hra:∀v∈a,cC v=true:=fun v hv=>aAj v (Km.2 (.inl hv));have C1:=fun h=>qb R ps hPO i oa ob a b or h;have C2:=fun h=>qc R ps hPO i oa a h;have C3:=fun h=>kj R ps hPO i ob b h;rw[hPV] at C1 C2 C3;refine aue (e3 hc hc3 m3) ?_;rw[←hQ];have hno:=fun e=>AZ (R:=R) (ps:=ps) (i:=i) (row:=a) (t:=b) e;have aSB:=fun e=>kz (R:=R) (ps:=ps) (i:=i) (row:=a) (t:=b) hPT e;have aCn:=fun e hk=>qv (R:=R) (ps:=ps) (i:=i) (row:=a) (t:=b) hPT e hk hra;generalize nO R ps i a b=P at*;obtain⟨vs,ok,er⟩:=P;unfold mkX at C1;dsimp only at C1 hno aSB aCn;have hve:=lA er;cases ok with
  |false=>
   obtain rfl:=hno rfl;simp only[Bool.false_eq_true,if_false,List.map_nil] at C1;have hz:(((0:Nat):Int)==0)=true:=rfl;by_cases h0:er=0
   ·rw[decide_eq_true h0] at hve;refine aue (e7 hc hc1 hc3 m1 m3 hve (e3 aEk hz Kd)) ?_;exact aC h' hle ⟨rfl,rfl⟩
   rw[decide_eq_false h0] at hve;refine aue (e7 hc hc1 hc3 m1 m3 hve (e3 aEk hz Kd)) ?_;exact aC h' hle ⟨rfl,rfl⟩
  |true=>
   obtain⟨hi,rfl,hl,hlen,aMb,_⟩:=aSB rfl;simp only[if_true] at C1;have q1:decide ((vs.length:Int)<(a.length:Int))=false:=dcf;have q2:decide (i<0)=false:=dcf;have q3:decide ((ps.length:Int)≤i)=false:=dcf;have q3':decide (i≥(ps.length:Int))=false:=dcf;have hvr:veq (mS.iface true) (dP 0) V.nilIface=some true:=rfl;have htk:(vs.map Vl.v).take a.length=a.map Vl.v:=by rw[←List.map_take,aMb]
   have aDa:((a.length:Int)≤(vs.length:Int))=True:=eq_true or;have D1:∀o h,aM Tryz.prog 23 [.sl (.agg 3) o (a.map Vl.v),vls oa a] h (.bool true):=fun o h=>by
    have:=pz o oa a a or h;rwa [decide_eq_true rfl] at this
   refine aue (e14 hc hc1 hc3 m1 m3 hvr aEk Kd q1 htk aDa hlen (@jK Vl V) jG) ?_;refine bH (D1 _ _) rfl (aZ _) ?_;obtain⟨k,hki⟩:∃k:Nat,i=k:=⟨i.toNat,or⟩;subst hki;have hkl:k<ps.length:=or;have hg:=aN PS.v ps k hkl;have hst:dS ps (k:Int)=ps[k]:=by unfold dS;rw[jG,Ka,Kb hkl];rfl
   rw[hst] at aCn hl;generalize ps[k]=s at*;have hs0:s.v.cell 0= .int .i64 s.k:=rfl;generalize s.v=S at*;by_cases hk1:s.k=1
   ·have g1:(s.k != 1)=false:=bnf;obtain⟨y1,y2,y3⟩:=aCn rfl hk1;have hrl:=p9 (t:=b) hPO (i:=(k:Int));generalize yS R ps (k:Int) a=LB0 at*;generalize mW R ps (k:Int) b=RB0 at*;obtain⟨lv,le⟩:=LB0;obtain⟨rv,re⟩:=RB0;dsimp only at y1 y2 y3 hrl;subst y1 y2 y3;unfold mkR at C2 C3;dsimp only at C2 C3;clear C1;refine aue (e13 hc3 m3 aEk aMR hg hkl q2 q3 q3' hs0 g1 (@jK PS V) (e3 jG hc1 (e3 m1 Kd hvr))) ?_;refine aH (cq _ lv lv or _ _ (.inl ⟨_,rfl⟩)) rfl (aK _) ?_;have aDZ:(qX lv lv==0)=true:=bqt (c3T.self lv);refine aue aDZ ?_;exact aC h' (lef hd hle) ⟨rfl,rfl⟩
   have g1:(s.k != 1)=true:=bnt;refine aue (e13 hc3 m3 aEk aMR hg hkl q2 q3 q3' hs0 g1 (@jK PS V) jG) ?_;exact aC h' hle ⟨rfl,rfl⟩
end Go.Proofs.YtgbiopfghdilnaaGreatDoor
