/-
Texts of this proof,one behind the other. No conditions.
-/
import Derived.Test.YtgbiopfghdilnaaGreatDoorKx
open Go.Proofs.YtgbiopfghdilnaaGreatDoor.Hp renaming le_refl→Ka,set→Kb,same→Kd
open List renaming getD_eq_getElem?_getD→Kc,getElem?_eq_getElem→Ke,length_append→Kf,getElem_mem→Ki,replicate_succ→Km,replicate_zero→Ko,drop_eq_getElem_cons→Kp,length_nil→Kq,map_append→Ks,length_cons→Ku,cons_append→Kv,nil_append→Kx,drop_of_length_le→KB,length_map→KC,map_nil→KF,nodup_nil→KH,map_cons→KI
open Nat renaming reduceAdd→Kg,reduceSub→Kh,reduceLeDiff→Kj,reduceEqDiff→Kk,zero_le→Kw,reduceLT→Ky,le_refl→Kz,le_add_right→KA,mul_one→KD,lt_or_ge→KE,le_trans→KG
open Int renaming reduceToNat→Kt
open Nat renaming reduceAdd→jA,reduceSub→jB,reduceLT→jC,reduceLeDiff→jD,reduceEqDiff→jE
open Int renaming reduceToNat→jF,toNat_natCast→jG,natCast_add→jH,natCast_one→jI,natCast_zero→jJ
open List renaming length_map→jK,length_cons→jL,length_nil→jM
set_option linter.all false
set_option maxHeartbeats 8000000
namespace Go.Proofs.YtgbiopfghdilnaaGreatDoor
open Go.RowKit Go.Sort
attribute [local irreducible] IntKind.wrap
def sS(o:Own)(l l2:List Tr):Own:=if l2.length=l.length then o else .free
theorem xX(o:Own)(l:List Tr):sS o l l=o:=if_pos rfl
theorem ul(o:Own)(l:List Tr)(t:Tr):sS o l (l++[t])= .free:=if_neg Zm
theorem Bj{o:Own}(h:∀n,o≠ .tok n)(l l2:List Tr):∀n,sS o l l2≠ .tok n:=fun n e=>by
 unfold sS at e;split at e
 ·exact h n e
 cases e
def DO(o:Own)(l:List Tr)(r:Option (List Tr)×Int):V:=match r.1 with
 |none=> .tup [.sl (.agg 4) .nil [], .bool false, .int .i64 r.2]
 |some l2=> .tup [trs (sS o l l2) l2, .bool true, .int .i64 0]
theorem y5{o:Own}(ho:∀n,o≠ .tok n)(l:List Tr)(r:Option (List Tr)×Int)(L:Nat→Prop):(DO o l r).names L:=by
 unfold DO;split
 ·exact⟨⟨fun n e=>(by cases e),trivial⟩,trivial,trivial,trivial⟩
 exact⟨rU _ (Bj ho _ _) _ L,trivial,trivial,trivial⟩
theorem lw{l:List Tr}{e:Ex}(h:(dJ l e).size≠0):dJ l e=e.t.x:=by
 unfold dJ at h⊢;split at h
 ·exact absurd rfl h
 rename_i hc;rw[if_neg hc]
theorem tr(o:Own)(ho:∀n,o≠ .tok n)(l:List Tr)(hl:l.length≤1000000)(hsm:smB l)(x:Li)(hr:bG x=true)(h3:x.k=3)(hx:x.sm)(h:Hp):aK Tryz.prog 72 [x.v,trs o l] h (DO o l (nN l x)):=by
 refine aH (fun L=>y5 ho _ _ L) fun h' nx hh=>aB L.bDQ fun hd=>?_;simp only[Ku,Kq,Kg,Kh,Km,Ko,Kv,Kx,V.undef];obtain⟨p1,p6,px,py⟩:=oY hr h3;have C1:=fun h=>zK o l hl x.x h;have C2:=fun h=>zK o l hl x.y h;have CX:=fun h=>oZ o l hl hsm 20 x.x px hx.2.1 h;have CY:=fun h=>oZ o l hl hsm 20 x.y py hx.2.2 h;have TT:=fun h=>ze o l hl hsm x hr h3 hx h;have C4:=fun n w h=>xQ o l hl n w h;have uX:=fun h=>lw (l:=l) (e:=x.x) h;have uY:=fun h=>lw (l:=l) (e:=x.y) h;have hf:=Li.aAA x;have hXf:=Ex.aAA x.x;have hYf:=Ex.aAA x.y;obtain⟨T,hT,htx,hty,hto,hnx,hny⟩:∃T,x.v= .agg T∧(.agg ((T.drop 4).take 6))=x.x.v∧(.agg ((T.drop 10).take 6))=x.y.v∧(V.agg T).cell 3= .int .i64 x.op∧(V.agg T).cell 5= .str x.x.t.x∧(V.agg T).cell 11= .str x.y.t.x:=⟨_,rfl,by rw[Ex.aAV];rfl,by rw[Ex.aAV];rfl,rfl,rfl,rfl⟩;have hlx:aX (.agg 6) 4 (.agg T)=x.x.v:=htx;have hly:aX (.agg 6) 10 (.agg T)=x.y.v:=hty;have hto:T.getD 3 (.tup [])= .int .i64 x.op:=hto;have hnx:T.getD 5 (.tup [])= .str x.x.t.x:=hnx;have hny:T.getD 11 (.tup [])= .str x.y.t.x:=hny;rw[hT] at TT hf⊢;unfold nN;generalize dJ l x.x=A at*;generalize dJ l x.y=B at*;generalize pQ l x=R at*;generalize x.x.t.x=NX at*;generalize x.y.t.x=NY at*;generalize x.x.v=X at*;generalize x.y.v=Y at*;by_cases o1:x.op=1
 ·have g1:(x.op==1)=true:=bqt;by_cases hA:A.size=0
  ·rw[decide_eq_false (not_not_intro hA)] at C1;rw[if_neg (fun e=>e.2 hA)];by_cases hB:B.size=0
   ·rw[decide_eq_false (not_not_intro hB)] at C2;rw[if_neg (fun e=>e.2 hB)];have C3:=TT;clear C4;by_cases hR2:R.2=0
    ·have vR:(R.2 != 0)=false:=bnf;cases hR1:R.1 with
     |true=>
      rw[if_neg (by simp[hR2])];refine aue (e9 hf hto g1 hlx hly hXf hYf vR hR1) ?_;refine aU h' (leo hd) ⟨?_,rfl⟩;show _=V.tup [trs (sS o l l) l, .bool true, .int .i64 0];rw[xX];rfl
     |false=>
      rw[if_pos (.inr rfl)];refine aue (e9 hf hto g1 hlx hly hXf hYf vR hR1) ?_;exact aU h' (leo hd) ⟨rfl,rfl⟩
    have vR:(R.2 != 0)=true:=bnt;rw[if_pos (.inl hR2)];refine aue (e8 hf hto g1 hlx hly hXf hYf vR) ?_;exact aU h' (leo hd) ⟨rfl,rfl⟩
   rw[decide_eq_true hB] at C2;rw[if_pos ⟨o1,hB⟩];obtain rfl:=uY hB;have C3:=CX;unfold jy;generalize bJ l 20 x.x=P at*;have hPf:=Vl.aAA P.1;by_cases e1:P.2=0
   ·have vP:(P.2 != 0)=false:=bnf;rw[if_neg (by simp[e1])];refine aue (e14 hf hto g1 hlx hly hXf hYf hny hnx trivial trivial trivial vP hPf) ?_;refine aI (C4 _ _ _) rfl (aL _) ?_;refine au ?_;refine aU h' (leo hd) ⟨?_,rfl⟩;show _=V.tup [trs (sS o l (l++[_])) (l++[_]), .bool true, .int .i64 0];rw[ul];rfl
   have vP:(P.2 != 0)=true:=bnt;rw[if_pos e1];refine aue (e14 hf hto g1 hlx hly hXf hYf hny hnx trivial trivial trivial vP hPf) ?_;exact aU h' (leo hd) ⟨rfl,rfl⟩
  rw[decide_eq_true hA] at C1;rw[if_pos ⟨o1,hA⟩];obtain rfl:=uX hA;have C3:=CY;unfold jy;generalize bJ l 20 x.y=P at*;have hPf:=Vl.aAA P.1;by_cases e1:P.2=0
  ·have vP:(P.2 != 0)=false:=bnf;rw[if_neg (by simp[e1])];refine aue (e14 hf hto g1 hlx hly hXf hYf hny hnx trivial trivial trivial vP hPf) ?_;refine aI (C4 _ _ _) rfl (aL _) ?_;refine au ?_;refine aU h' (leo hd) ⟨?_,rfl⟩;show _=V.tup [trs (sS o l (l++[_])) (l++[_]), .bool true, .int .i64 0];rw[ul];rfl
  have vP:(P.2 != 0)=true:=bnt;rw[if_pos e1];refine aue (e14 hf hto g1 hlx hly hXf hYf hny hnx trivial trivial trivial vP hPf) ?_;exact aU h' (leo hd) ⟨rfl,rfl⟩
 have g1:(x.op==1)=false:=bqf;rw[if_neg (fun e=>o1 e.1),if_neg (fun e=>o1 e.1)];have C3:=TT;clear C4;by_cases hR2:R.2=0
 ·have vR:(R.2 != 0)=false:=bnf;cases hR1:R.1 with
  |true=>
   rw[if_neg (by simp[hR2])];refine aue (e9 hf hto g1 hlx hly hXf hYf vR hR1) ?_;refine aU h' (leo hd) ⟨?_,rfl⟩;show _=V.tup [trs (sS o l l) l, .bool true, .int .i64 0];rw[xX];rfl
  |false=>
   rw[if_pos (.inr rfl)];refine aue (e9 hf hto g1 hlx hly hXf hYf vR hR1) ?_;exact aU h' (leo hd) ⟨rfl,rfl⟩
 have vR:(R.2 != 0)=true:=bnt;rw[if_pos (.inl hR2)];refine aue (e8 hf hto g1 hlx hly hXf hYf vR) ?_;exact aU h' (leo hd) ⟨rfl,rfl⟩
end Go.Proofs.YtgbiopfghdilnaaGreatDoor
namespace Go.Proofs.YtgbiopfghdilnaaGreatDoor
open Go.RowKit Go.Sort
attribute [local irreducible] IntKind.wrap
def uy(o:Own)(l:List Tr)(r:Option (List Tr)):V:=match r with
 |none=> .tup [.sl (.agg 4) .nil [], .bool false]
 |some l2=> .tup [trs (sS o l l2) l2, .bool true]
theorem ux{o:Own}(ho:∀n,o≠ .tok n)(l:List Tr)(r:Option (List Tr))(L:Nat→Prop):(uy o l r).names L:=by
 unfold uy;split
 ·exact⟨⟨fun n e=>(by cases e),trivial⟩,trivial,trivial⟩
 exact⟨rU _ (Bj ho _ _) _ L,trivial,trivial⟩
theorem Ch(o:Own){l L:List Tr}(t:Tr)(h:l.length≤L.length):sS o l (L++[t])= .free:=if_neg (by rw[Kf];simp only[jL,jM];omega)
theorem zm(a:Am)(ha:a.l.length≤500000)(o:Own)(t:List Vl)(ol:Own)(ho:∀n,ol≠ .tok n)(l:List Tr)(hl:l.length≤500000)(h:Hp):
 aK Tryz.prog 69 [a.v,vls o t,trs ol l] h (uy ol l (zO a t l)):=by
 refine aH (fun L=>ux ho _ _ L) fun h' nx hh=>aB L.bDb fun hd=>?_;have hd:aS h' nx:=hd;obtain⟨ar,ao,ts⟩:=a;have ha:ts.length≤500000:=ha;refine ZK ?_;unfold zO;dsimp only;by_cases hne:ts.length=t.length
 ·have g:((ts.length:Int) != (t.length:Int))=false:=bnf;rw[if_neg (by simpa using hne)];obtain⟨RES,aAS⟩:∃R,mU ts t l=R:=⟨_,rfl⟩;rw[aAS];refine aue (e5 Am.v.eq_1 g (@jK Tr V) (@jK Vl V) trivial) ?_
  refine aO (fun q:Nat×List Tr=>aD 59 0 [(1,vls o t),(2,trs (sS ol l q.2) q.2),(3, .ptr nx (.agg 2) 0 0),(6, .sl (.agg 4) .nil []),(7, .bool false),(8, .int .i64 q.1)])
   (fun q hp nx1=>q.1≤ts.length∧nx<nx1∧aS hp nx1∧Kd nx h' hp∧hp nx=some (.arr (.agg 2) [.agg [.str ar,trs ao ts]])∧l.length≤q.2.length∧q.2.length≤l.length+q.1∧RES=mU (ts.drop q.1) (t.drop q.1) q.2)
   (fun q=>ts.length-q.1) (0,l) ⟨Kw _,Zw,by exact dmo hd,by exact kep Hp.same.aAn,by simp only[trs,go_sem,reduceIte,jA,jB,jC,jD,reduceCtorEq,jE,jF],Kz _,Kz _,aAS.symm⟩ (by simp only[WkL,aD,jH,jI,jJ,xX,go_sem,reduceIte,jA,jB,jC,jD,reduceCtorEq,jE,jF]) ?_
  clear aAS;rintro⟨i,L⟩ hp nx1 ⟨hi,hnx,hdm,hsm,hb,hll,hlu,hmt⟩;generalize hQ:aV _ _ _ _ _=Q0;dsimp only at hi hll hlu hmt;refine Zk ?_;have hle:=hsm.le hd (Ka _);rcases KE i ts.length with hlt|hge
  ·have hlv:i<t.length:=or;have hc:decide ((i:Int)<(t.length:Int))=true:=dct;have hg:=aJ Tr.v ts i hlt;have hg2:=aJ Vl.v t i hlv;have hw:IntKind.i64.wrap ((i:Int)+1)=((i+1:Nat):Int):=wrp;rw[Kp hlt,Kp hlv] at hmt;rw[tZ] at hmt;generalize ts[i]=T at*;generalize t[i]=w at*;have hTf:=Tr.aAA T;have hwf:=Vl.aAA w;have hWf:=Vl.aAA T.w;have hT:T.v= .agg [.str T.x, .int .i64 T.w.k, .int .i64 T.w.n, .str T.w.s]:=rfl;have hTw:V.agg [.int .i64 T.w.k, .int .i64 T.w.n, .str T.w.s]=T.w.v:=rfl;have hv:=qA T.w w;have C1:=fun h=>rY T.x (sS ol l L) L or h;have hne:=Ch ol (l:=l) (L:=L) ⟨T.x,w⟩ hll;generalize hOO:sS ol l L=OO at*;have stay:∀(sl:List V) (hp2:Hp) (aD8:Nat),RES=mU (ts.drop (i+1)) (t.drop (i+1)) L→nx1≤aD8→aS hp2 aD8→(∀k,k<nx1→hp2 k=hp k)→WkL sl (aD 59 0 [(1,vls o t),(2,trs OO L),(3, .ptr nx (.agg 2) 0 0),(6, .sl (.agg 4) .nil []),(7, .bool false),(8, .int .i64 ((i+1:Nat):Int))])→Q0 .normal ⟨sl,hp2,aD8⟩:=by
    intro sl hp2 aD8 e h1 h2 h3 h4;rw[←hQ];rw[←hOO] at h4;exact aF (i+1,L) Zw ⟨hlt,or,h2,fun k hk=>(h3 k or).trans (hsm k hk),(h3 nx hnx).trans hb,hll,Zw,e⟩ h4
   by_cases hs:T.x.size=0
   ·have z0:decide ((0:Int)<(T.x.size:Int))=false:=dcf;rw[if_pos hs] at hmt;by_cases hw2:T.w=w
    ·rw[if_pos hw2] at hmt;rw[decide_eq_true hw2] at hv;refine aue (e14 hc hg hg2 hlt hlv hTf hwf hT hWf hTw z0 hb hnx (e5 trs.eq_1 hv (@jK Tr V) (@jK Vl V) (e2 jG hw))) ?_;exact stay _ _ _ hmt or (dmo hdm) (fun k hk=>by simp only[Kb];repeat rw[if_neg or]) (by simp only[WkL,aD,jH,jI,jJ,trs,go_sem,reduceIte,jA,jB,jC,jD,reduceCtorEq,jE,jF])
    rw[if_neg hw2] at hmt;rw[decide_eq_false hw2] at hv;refine aue (e14 hc hg hg2 hlt hlv hTf hwf hT hWf hTw z0 hb hnx (e5 trs.eq_1 hv (@jK Tr V) (@jK Vl V) (e2 jG hw))) ?_;rw[←hQ];refine au ?_;rw[hmt];exact aM h' (lef hd hle) ⟨rfl,rfl⟩
   have z0:decide ((0:Int)<(T.x.size:Int))=true:=dct;rw[if_neg hs] at hmt;cases k:lkB T.x L with
   |some w2=>
    rw[k] at hmt C1;have aHf:=Vl.aAA w2;have hv2:=qA w2 w;dsimp only at hmt C1;by_cases hw2:w2=w
    ·rw[if_pos hw2] at hmt;rw[decide_eq_true hw2] at hv2;refine aue (e14 hc hg hg2 hlt hlv hTf hwf hT hWf hTw z0 hb hnx (e6 hv2 (@jK Tr V) (@jK Vl V) jG hw aHf)) ?_;exact stay _ _ _ hmt or (dmo hdm) (fun k hk=>by simp only[Kb];repeat rw[if_neg or]) (by simp only[WkL,aD,jH,jI,jJ,go_sem,reduceIte,jA,jB,jC,jD,reduceCtorEq,jE,jF])
    rw[if_neg hw2] at hmt;rw[decide_eq_false hw2] at hv2;refine aue (e14 hc hg hg2 hlt hlv hTf hwf hT hWf hTw z0 hb hnx (e6 hv2 (@jK Tr V) (@jK Vl V) jG hw aHf)) ?_;rw[←hQ];refine au ?_;rw[hmt];exact aM h' (lef hd hle) ⟨rfl,rfl⟩
   |none=>
    rw[k] at hmt C1;have bBi:oU.v.fits (.agg 3)=true:=rfl;have D1:=fun h=>xQ OO L or T.x w h;dsimp only at hmt C1;refine aue (e14 hc hg hg2 hlt hlv hTf hwf hT hWf hTw z0 hb hnx (e5 (@jK Tr V) (@jK Vl V) jG hw bBi)) ?_;rw[←hQ];refine aF (i+1,L++[⟨T.x,w⟩]) Zw ⟨hlt,or,dmo hdm,kep hsm,by simp only[hb,hnx,go_sem,reduceIte,jA,jB,jC,jD,reduceCtorEq,jE,jF],by dsimp only;rw[Kf];omega,by dsimp only;rw[Kf,jL,jM];omega,hmt⟩ ?_;dsimp only;rw[hne];exact(by simp only[WkL,aD,jH,jI,jJ,go_sem,reduceIte,jA,jB,jC,jD,reduceCtorEq,jE,jF])
  have hc:decide ((i:Int)<(t.length:Int))=false:=dcf;rw[KB or] at hmt;refine aue (e2 hc (@jK Vl V)) ?_;rw[←hQ];refine au ?_;rw[hmt];exact aM h' hle ⟨rfl,rfl⟩
 have g:((ts.length:Int) != (t.length:Int))=true:=bnt;rw[if_pos hne];refine aue (e5 Am.v.eq_1 trs.eq_1 g (@jK Tr V) (@jK Vl V)) ?_;exact aM h' (leo hd) ⟨rfl,rfl⟩
theorem iu{xs:List ByteArray}{vs:List Vl}(h:∀v∈vs,v.s.size≤9223372036854775807):smB (dW xs vs):=by
 induction xs generalizing vs with
 |nil=>intro t ht;cases ht
 |cons x xs ih=>
  cases vs with
  |nil=>intro t ht;cases ht
  |cons v vs=>
   intro t ht;unfold dW at ht;rcases List.mem_cons.1 ht with rfl|ht
   ·exact h v List.mem_cons_self
   exact ih (fun w hw=>h w (List.mem_cons_of_mem _ hw)) t ht
theorem DI(s:PS)(i:Nat):∃o5,s.v9 (o9 i)= .agg [.int .i64 s.k, .int .i64 s.i, .sl .leaf (o9 i) (s.hv.map V.str), .sl .leaf .free (s.wt.map V.str), .sl .leaf o5 (s.ky.map kV)]:=by
 obtain⟨o5,h⟩:=bQ .leaf (s.ky.map kV);exact⟨o5,by unfold PS.v9;rw[h]⟩
def mkK(p:List Vl×Int):V:= .tup [.sl (.agg 3) (okO p.2 (frO p.1)) (p.1.map Vl.v), .int .i64 p.2]
theorem xZ(p:List Vl×Int)(L:Nat→Prop):(mkK p).names L:=zJ _ _ L
theorem qa(R:Ru)(ps:List PS)(hp:rP R ps)(i:Int)(o:Own)(t:List Vl)(h:Hp):aK Tryz.prog 28 [R.v,lst (.agg 5) (vs9 ps), .int .i64 i,vls o t] h (mkK (mO R ps i t)):=by
 refine aH (fun L=>xZ _ L) fun h' nx hh=>aB L.bEO fun hd=>?_;refine ZK ?_;obtain⟨oN,hoN⟩:=bQ (.agg 5) (vs9 ps);obtain⟨RV,hRV,hRb⟩:∃RV,R.v= .agg RV∧RV.getD 4 (.tup [])= .sl (.agg 17) R.o (R.b.map Li.v):=⟨_,rfl,rfl⟩;have hRf:(V.agg RV).fits (.agg 6)=true:=by rw[←hRV];rfl
 rw[hoN,hRV];unfold mO;by_cases hi:0≤i∧i<ps.length
 ·have hs:=hp.2 _ (iC hi);obtain⟨k,hk⟩:∃k:Nat,i=k:=⟨i.toNat,or⟩;subst hk;have hkl:k<ps.length:=or;have z0:decide ((k:Int)<0)=false:=dcf;have z1:decide ((ps.length:Int)≤(k:Int))=false:=dcf;have z2:decide ((k:Int)≥(ps.length:Int))=false:=dcf;have hg:=bo ps k hkl;have e1:ps.getD k default=gO ps (k:Int):=by unfold gO;rw[jG]
  rw[e1] at hg;unfold uT;have q0:=hs.li;have q1:=hs.kl;have q2:=hs.kc;generalize gO ps (k:Int)=s at*;obtain⟨o5,hv9⟩:=DI s k;rw[hv9] at hg;have hg2:=aJ Li.v R.b s.i q0;have hD2:R.b.getD s.i default=R.b[s.i]:=by rw[Kc,Ke q0];rfl
  rw[hD2] at q2⊢;generalize R.b[s.i]=x at*;obtain⟨X,hX,hx2⟩:∃X,x.v= .agg X∧X.getD 2 (.tup [])= .sl (.agg 4) x.a.o (x.a.l.map Tr.v):=⟨_,rfl,rfl⟩;rw[hX] at hg2;by_cases hk1:s.k=1
  ·have g1:(s.k != 1)=false:=bnf;rw[if_neg (by simp[hi,hk1])];by_cases hlt:t.length=x.a.l.length
   ·have g2:((t.length:Int) != (x.a.l.length:Int))=false:=bnf;have C1:=fun h=>zj o o5 t s.ky q1 (by rw[hlt];exact q2) h;rw[if_neg (by simpa using hlt)];refine aue (e14 hRf hRb z0 z1 z2 hg hkl hg2 q0 hx2 g1 g2 (@jK Vl V) (e4 (@jK Tr V) cC (@jK Li V) jG)) ?_;exact aM h' (leo hd) ⟨rfl,rfl⟩
   have g2:((t.length:Int) != (x.a.l.length:Int))=true:=bnt;rw[if_pos hlt];refine aue (e14 hRf hRb z0 z1 z2 hg hkl hg2 q0 hx2 g1 g2 (@jK Vl V) (e4 (@jK Tr V) cC (@jK Li V) jG)) ?_;exact aM h' (leo hd) ⟨rfl,rfl⟩
  have g1:(s.k != 1)=true:=bnt;rw[if_pos (.inr hk1)];refine aue (e9 hRf z0 z1 z2 hg hkl g1 cC jG) ?_;exact aM h' (leo hd) ⟨rfl,rfl⟩
 rw[if_pos (.inl hi)];by_cases h0:i<0
 ·have z0:decide (i<0)=true:=dct;refine aue (e3 hRf z0 cC) ?_;exact aM h' (leo hd) ⟨rfl,rfl⟩
 have z0:decide (i<0)=false:=dcf;have z1:decide ((ps.length:Int)≤i)=true:=dct;have z2:decide (i≥(ps.length:Int))=true:=dct;refine aue (e5 hRf z0 z1 z2 cC) ?_;exact aM h' (leo hd) ⟨rfl,rfl⟩
theorem tz(R:Ru)(hR:R.sm)(ps:List PS)(hp:rP R ps)(i:Int)(o:Own)(row:List Vl)(aEn:row.length≤1000000)(hrs:∀v∈row,v.s.size≤9223372036854775807)(h:Hp):aK Tryz.prog 27 [R.v,lst (.agg 5) (vs9 ps), .int .i64 i,vls o row] h (mkK (qZ R ps i row)):=by
 refine bK (fun L=>xZ _ L) fun h' nx hh=>aB L.bEP fun hd=>?_;have hd:aS h' nx:=hd;refine ZK ?_;obtain⟨oN,hoN⟩:=bQ (.agg 5) (vs9 ps);obtain⟨RV,hRV,hRb⟩:∃RV,R.v= .agg RV∧RV.getD 4 (.tup [])= .sl (.agg 17) R.o (R.b.map Li.v):=⟨_,rfl,rfl⟩;have hRf:(V.agg RV).fits (.agg 6)=true:=by rw[←hRV];rfl
 rw[hoN,hRV];unfold qZ CR;by_cases hi:0≤i∧i<ps.length
 ·have hs:=hp.2 _ (iC hi);obtain⟨k,hk⟩:∃k:Nat,i=k:=⟨i.toNat,or⟩;subst hk;have hkl:k<ps.length:=or;have z0:decide ((k:Int)<0)=false:=dcf;have z1:decide ((ps.length:Int)≤(k:Int))=false:=dcf;have z2:decide ((k:Int)≥(ps.length:Int))=false:=dcf;have hg:=bo ps k hkl;have e1:ps.getD k default=gO ps (k:Int):=by unfold gO;rw[jG]
  rw[e1] at hg;unfold uT;have q0:=hs.li;have q1:=hs.kl;have q2:=hs.kc;generalize gO ps (k:Int)=s at*;obtain⟨o5,hv9⟩:=DI s k;rw[hv9] at hg;have hg2:=aJ Li.v R.b s.i q0;have hD2:R.b.getD s.i default=R.b[s.i]:=by rw[Kc,Ke q0];rfl
  rw[hD2] at q2⊢;have hxs:=(hR.2 R.b[s.i] (Ki q0)).1.2;generalize R.b[s.i]=x at*;obtain⟨X,hX,hx2⟩:∃X,x.v= .agg X∧X.getD 2 (.tup [])= .sl (.agg 4) x.a.o (x.a.l.map Tr.v):=⟨_,rfl,rfl⟩;rw[hX] at hg2;by_cases hk3:s.k=3
  ·have g1:(s.k==3)=true:=bqt;rw[if_pos (.inr hk3)];refine aue (e8 hRf z0 z1 z2 hg hkl g1 (e2 cC jG)) ?_;exact aM h' (leo hd) ⟨rfl,leo hd⟩
  have g1:(s.k==3)=false:=bqf;rw[if_neg (by simp[hi,hk3])];have C1:=fun h=>xS (o9 k) o s.hv row aEn h;by_cases hlr:s.hv.length=row.length;rotate_left
  ·rw[decide_eq_false hlr] at C1;rw[if_pos hlr];refine aue (e9 hRf z0 z1 z2 hg hkl g1 cC jG) ?_;exact aM h' (leo hd) ⟨rfl,leo hd⟩
  rw[decide_eq_true hlr] at C1;rw[if_neg (by simpa using hlr)];have hEl:(dW s.hv row).length≤1000000:=by have:=oO s.hv row;omega
  have hEs:smB (dW s.hv row):=iu hrs;generalize dW s.hv row=EN at*;have hoE:=qq EN;generalize frO EN=OE at*;refine aue (e9 hRf z0 z1 z2 hg hkl g1 cC jG) ?_;obtain⟨KT,hKT⟩:∃KT,s.ky.map (fun c=>x.a.l.getD c default)=KT:=⟨_,rfl⟩;have hKl:KT.length=s.ky.length:=by rw[←hKT,jK]
  rw[hKT]
  refine aO (fun q:Nat×Own×List Vl=>aD 88 0 [(1, .sl (.agg 5) oN (vs9 ps)),(2, .int .i64 k),(4, .ptr nx (.agg 6) 0 0),(8, .sl (.agg 3) .nil []),(9, .int .i64 0),(10,trs OE EN),(12, .sl (.agg 3) q.2.1 (q.2.2.map Vl.v)),(13, .int .i64 q.1)])
   (fun q hp nx1=>q.1≤s.ky.length∧nx+1≤nx1∧aS hp nx1∧Kd nx h' hp∧hp nx=some (.arr (.agg 6) [.agg RV])∧Acc hp (nx+1) q.2.1 (q.2.2.map Vl.v)∧kK EN [] KT=kK EN q.2.2 (KT.drop q.1)∧q.2.2.length≤q.1)
   (fun q=>s.ky.length-q.1) (0, .nil,[]) ⟨Kw _,Zw,by exact dmo hd,by exact kep Hp.same.aAn,by simp only[go_sem,reduceIte,jA,jB,jC,jD,reduceCtorEq,jE,jF], .inl ⟨rfl,rfl⟩,rfl,Kw _⟩ (by simp only[WkL,aD,jH,jI,jJ,KF,go_sem,reduceIte,jA,jB,jC,jD,reduceCtorEq,jE,jF]) ?_
  rintro⟨j,oo,acc⟩ hp nx1 ⟨hj,hnx,hdm,hsm,hbx,aAM,hmk,hlen⟩;generalize hQ:aV _ _ _ _ _=Q0;dsimp only at hj aAM hmk hlen;refine Zk ?_;have hle:=hsm.le hd (Ka _);have n1:nx<nx1:=or;have aD3:acc.length≤1000000:=or;have aEI:∀H:Hp,H.aA7 oo nx=H nx:=fun H=>gS fun id e=>by have:=aAM.ge id e;omega
  rcases KE j s.ky.length with hlt|hge
  ·have hc:decide ((j:Int)<(s.ky.length:Int))=true:=dct;have hgk:=aJ kV s.ky j hlt;have hw:IntKind.i64.wrap ((j:Int)+1)=((j+1:Nat):Int):=wrp;have hkc:=q2 s.ky[j] (Ki _);have hdr:KT.drop j=x.a.l[s.ky[j]]::KT.drop (j+1):=by
    rw[Kp or];congr 1;simp only[←hKT,List.getElem_map];rw[Kc,Ke hkc];rfl
   rw[hdr] at hmk;have hg3:=aJ Tr.v x.a.l s.ky[j] hkc;have aH2:=(hxs x.a.l[s.ky[j]] (Ki _)).2;generalize x.a.l[s.ky[j]]=T0 at hg3 hmk aH2;generalize s.ky[j]=cc at*;have hgk:(s.ky.map kV).getD j (.tup [])= .int .i64 (cc:Int):=hgk;have hTf:=Tr.aAA T0;have hVf:=Vl.aAA (bY T0 EN).1;have C9:∀h:Hp,aK Tryz.prog 67 [T0.v,trs OE EN] h (.tup [(bY T0 EN).1.v, .int .i64 (bY T0 EN).2]):=fun h=>oX T0 aH2 OE EN hEl hEs h;rw[mV] at hmk;clear C1;by_cases hz:(bY T0 EN).2=0
   ·rw[if_neg (by simp[hz])] at hmk;rw[hz] at C9;have z0:((0:Int) != 0)=false:=rfl;refine aue (e14 hc hg hkl hgk hlt hbx n1 hRb hg2 q0 hx2 hg3 hkc (e9 hTf hVf aD3 hw cC (@jK Nat V) (@jK Li V) (@jK Tr V) jG)) ?_;refine iy (C9 Hp.none) rfl (bD _) ?_;clear C9;refine aun (e5 z0 hVf hw n1 hbx) ?_;have aBH:Acc (((hp.set (nx1+26) (.arr (.agg 3) [.agg [.int .i64 0, .int .i64 0, .str ⟨#[]⟩]])).set (nx1+26) (.arr (.agg 3) [(bY T0 EN).1.v])).set (nx1+29) .tip) (nx+1) oo (acc.map Vl.v):=(by(try dsimp only);repeat' (first|exact aAM|exact Acc.new _ Zm or|exact bm.new or|exact aS.aRZ hdm or|exact fg|exact qj (by assumption)|refine fe or ?_|refine ff ?_|refine Acc.set ?_ ?_ _|refine bm.set ?_ ?_ _));refine iT (n0:=nx+1) rfl aBH Zw (dmo hdm) rfl (by simp only[jK,jL,jM];omega) ?_;intro o' h4 ha4 hd4 _ hk4 _;dsimp only at hk4 hd4;refine Zn ?_;refine aue hw ?_;rw[←hQ];have hk5:∀m,m<nx+1→h4 m=hp m:=fun m hm=>by
     rw[hk4 m hm];simp only[Kb];repeat rw[if_neg or]
    exact aF (j+1,o',acc++[(bY T0 EN).1]) Zw ⟨hlt,or,dmo hd4,fun m hm=>(hk5 m or).trans (hsm m hm),(hk5 nx or).trans hbx,by rw[Ks];exact ha4,hmk,by dsimp only;rw[Kf];simp only[jL,jM];omega⟩ (by simp only[WkL,aD,jH,jI,jJ,Ks,KI,KF,go_sem,reduceIte,jA,jB,jC,jD,reduceCtorEq,jE,jF])
   rw[if_pos hz] at hmk;have z0:((bY T0 EN).2 != 0)=true:=bnt hz;refine aue (e14 hc hg hkl hgk hlt hbx n1 hRb hg2 q0 hx2 hg3 hkc (e8 hTf hVf aD3 cC (@jK Nat V) (@jK Li V) (@jK Tr V) jG)) ?_;refine iy (C9 Hp.none) rfl (bD _) ?_;clear C9;refine aue (e4 z0 hVf aD3 hw) ?_;rw[←hQ];refine au ?_;refine aM _ (Ka _) ⟨?_,lef hd hle⟩;refine Zn ?_;rw[hmk];unfold mkK okO;rw[if_neg hz];rfl
  have hc:decide ((j:Int)<(s.ky.length:Int))=false:=dcf;refine aue (e6 hc hg hkl cC (@jK Nat V) jG) ?_;rw[←hQ];refine au ?_;rw[KB or] at hmk;simp only[kK] at hmk;refine aM _ (Ka _) ⟨?_,hle⟩;refine Zn ?_;rw[hmk];show _=V.tup [.sl (.agg 3) (frO acc) (acc.map Vl.v), .int .i64 0];rcases qN aAM with⟨rfl,e⟩|⟨id,rfl,e⟩<;>rw[e]<;>rfl
 rw[if_pos (.inl hi)];by_cases h0:i<0
 ·have z0:decide (i<0)=true:=dct;refine aue (e3 hRf z0 cC) ?_;exact aM h' (leo hd) ⟨rfl,leo hd⟩
 have z0:decide (i<0)=false:=dcf;have z1:decide ((ps.length:Int)≤i)=true:=dct;have z2:decide (i≥(ps.length:Int))=true:=dct;refine aue (e5 hRf z0 z1 z2 cC) ?_;exact aM h' (leo hd) ⟨rfl,leo hd⟩
theorem sE:∀{ts:List Tr} {vs:List Vl} {l l2:List Tr},mU ts vs l=some l2→l2.length≤l.length+ts.length
 | [],_,l,l2,h=>by
  have h:some l=some l2:=h;injection h with h;rw[h];exact KA _ _
 |a::r,[],l,l2,h=>by
  have h:some l=some l2:=h;injection h with h;rw[h];exact KA _ _
 |a::r,v::vs,l,l2,h=>by
  rw[tZ] at h;rw[jL];split at h
  ·split at h
   ·have:=sE h;omega
   cases h
  split at h
  ·have:=sE h;simp only[Kf,jL,jM] at this;omega
  split at h
  ·have:=sE h;omega
  cases h
theorem y4{l l2:List Tr}{x:Li}(h:(nN l x).1=some l2):l2.length≤l.length+1:=by
 unfold nN jy at h;split at h
 ·split at h
  ·cases h
  injection h with h;rw[←h,Kf];exact Kz _
 split at h
 ·split at h
  ·cases h
  injection h with h;rw[←h,Kf];exact Kz _
 split at h
 ·cases h
 injection h with h;rw[h];exact KA _ _
def mkY(p:List Vl×Bool×Int):V:= .tup [.sl (.agg 3) (if p.2.1=true then frO p.1 else .nil) (p.1.map Vl.v), .bool p.2.1, .int .i64 p.2.2]
theorem Cr(p:List Vl×Bool×Int)(L:Nat→Prop):(mkY p).names L:=by
 refine⟨⟨fun n e=>?_,aT (fun x=>Vl.aAK L x) _⟩,trivial,trivial,trivial⟩;split at e
 ·exact absurd e (qq _ n)
 cases e
set_option maxRecDepth 100000 in
theorem tS(ps:List PS)(k:Nat)(hkl:k<ps.length)(oN:Own)(s:PS)(o5:Own)(hg:(vs9 ps).getD k (.tup [])= .agg [.int .i64 s.k, .int .i64 s.i, .sl .leaf (o9 k) (s.hv.map V.str), .sl .leaf .free (s.wt.map V.str), .sl .leaf o5 (s.ky.map kV)])
 (hwl:s.wt.length≤1000000000) (O:Own) (l2:List Tr) (hl2:l2.length≤1000000) (h' hp0:Hp) (nx0:Nat) (hd0:aS hp0 nx0) (aBy:h'.le hp0) (sl:List V)
 (hw:WkL sl (aD 119 0 [(1, .sl (.agg 5) oN (vs9 ps)),(2, .int .i64 k),(10, .sl (.agg 3) .nil []),(11, .bool false),(12, .int .i64 0),(13,trs O l2),(19, .sl (.agg 3) .nil []),(20, .int .i64 0)])):
 lwp Tryz.prog (.loop L.aE1) (eK 1 (kH (lwp Tryz.prog (.seq (.ops L.aDR) .ret)) (pR [.slot 10, .slot 11, .slot 12] fun v' h'' _=>v'.aAv=mkY (lL l2 s.wt,true,0)∧h'.le h''))) ⟨sl,hp0,nx0⟩:=by
 refine aO (fun q:Nat×Own=>aD 119 0 [(1, .sl (.agg 5) oN (vs9 ps)),(2, .int .i64 k),(10, .sl (.agg 3) .nil []),(11, .bool false),(12, .int .i64 0),(13,trs O l2),(19, .sl (.agg 3) q.2 ((lL l2 (s.wt.take q.1)).map Vl.v)),(20, .int .i64 q.1)])
  (fun q hp nx1=>q.1≤s.wt.length∧nx0≤nx1∧aS hp nx1∧Kd nx0 hp0 hp∧Acc hp nx0 q.2 ((lL l2 (s.wt.take q.1)).map Vl.v))
  (fun q=>s.wt.length-q.1) (0, .nil) ⟨Kw _,Kz _,hd0,Hp.same.aAn, .inl ⟨rfl,rfl⟩⟩ hw ?_
 clear hw;rintro⟨j,oo⟩ hp nx1 ⟨hj,hnx,hdm,hsm,hac⟩;generalize hQ:aV _ _ _ _ _=Q0;dsimp only at hj hac;refine Zk ?_;have hle:h'.le hp:=fun m b e=>hsm.le hd0 (Ka _) m b (aBy m b e);have hrl:(lL l2 (s.wt.take j)).length=j:=by unfold lL;rw[jK,List.length_take];omega
 rcases KE j s.wt.length with hlt|hge
 ·have hc:decide ((j:Int)<(s.wt.length:Int))=true:=dct;have hgw:=aJ V.str s.wt j hlt;have hw:IntKind.i64.wrap ((j:Int)+1)=((j+1:Nat):Int):=wrp;have hrs:lL l2 (s.wt.take (j+1))=lL l2 (s.wt.take j)++[(lkB s.wt[j] l2).getD eX]:=by
   unfold lL;rw[List.take_succ_eq_append_getElem hlt,Ks];rfl
  generalize s.wt[j]=x at*;have CG:=fun h=>rY x O l2 hl2 h;obtain⟨b,hb⟩:∃b,(match lkB x l2 with|some w=>V.tup [w.v, .bool true]|none=>V.tup [oU.v, .bool false])= .tup [((lkB x l2).getD eX).v, .bool b]:=by
   cases lkB x l2 with
   |none=>exact⟨false,rfl⟩
   |some w=>exact⟨true,rfl⟩
  have C1:∀h,aK Tryz.prog 73 [trs O l2, .str x] h (.tup [((lkB x l2).getD eX).v, .bool b]):=fun h=>by rw[←hb];exact CG h
  clear CG hb;generalize (lkB x l2).getD eX=w at*;generalize lL l2 (s.wt.take j)=W at*;have hwf:=Vl.aAA w;refine aun (e9 hc hg hkl hgw hlt hwf cC (@jK ByteArray V) jG) ?_;have aBH:Acc (((hp.set nx1 (.arr (.agg 3) [.agg [.int .i64 0, .int .i64 0, .str ⟨#[]⟩]])).set nx1 (.arr (.agg 3) [w.v])).set (nx1+2) .tip) nx0 oo (W.map Vl.v):=(by(try dsimp only);repeat' (first|exact hac|exact Acc.new _ Zm or|exact bm.new or|exact aS.aRZ hdm or|exact fg|exact qj (by assumption)|refine fe or ?_|refine ff ?_|refine Acc.set ?_ ?_ _|refine bm.set ?_ ?_ _));refine iT (n0:=nx0) rfl aBH Zw (dmo hdm) rfl (by simp only[jK,jL,jM];omega) ?_;intro o' h4 ha4 hd4 _ hk4 _;dsimp only at hk4 hd4;refine Zn ?_;refine aue hw ?_;rw[←hQ];refine aF (j+1,o') Zw ⟨hlt,or,dmo hd4,fun m hm=>?_,?_⟩ ?_
  ·refine(hk4 m hm).trans ?_;simp only[Kb];repeat rw[if_neg or]
   exact hsm m hm
  ·dsimp only;rw[hrs,Ks];exact ha4
  dsimp only;rw[hrs,Ks];exact(by simp only[WkL,aD,jH,jI,jJ,KI,KF,go_sem,reduceIte,jA,jB,jC,jD,reduceCtorEq,jE,jF])
 have hc:decide ((j:Int)<(s.wt.length:Int))=false:=dcf;refine aue (e6 hc hg hkl cC (@jK ByteArray V) jG) ?_;rw[←hQ];refine au ?_;rw[List.take_of_length_le or] at hac⊢;refine aU _ (Ka _) ⟨?_,hle⟩;refine Zn ?_;unfold mkY;dsimp only;rw[if_pos rfl];rcases qN hac with⟨rfl,e⟩|⟨id,rfl,e⟩<;>rw[e]<;>rfl
theorem F4{s:PS}{x:Li}{t:List Vl}{l l2:List Tr}(h:(goB s x t l).1=some l2):l2.length≤l.length+x.a.l.length+1:=by
 unfold goB at h;split at h
 ·unfold zO at h;simp only at h;split at h
  ·cases h
  have:=sE h;omega
 split at h
 ·split at h
  ·cases h
  injection h with h;rw[h];omega
 have:=y4 h;omega
set_option maxRecDepth 100000 in
theorem tx(R:Ru)(hR:R.sm)(ps:List PS)(hp:rP R ps)(i:Int)(o ot:Own)(row t:List Vl)(aEn:row.length≤100000)(hrs:∀v∈row,v.s.size≤9223372036854775807)(ht:t.length≤1000000)(h:Hp):aK Tryz.prog 30 [R.v,lst (.agg 5) (vs9 ps), .int .i64 i,vls o row,vls ot t] h (mkY (qQ R ps i row t)):=by
 refine bK (fun L=>Cr _ L) fun h' nx hh=>aB L.bEM fun hd=>?_;have hd:aS h' nx:=hd;refine ZK ?_;obtain⟨oN,hoN⟩:=bQ (.agg 5) (vs9 ps);obtain⟨RV,hRV,hRb⟩:∃RV,R.v= .agg RV∧RV.getD 4 (.tup [])= .sl (.agg 17) R.o (R.b.map Li.v):=⟨_,rfl,rfl⟩;have hRf:(V.agg RV).fits (.agg 6)=true:=by rw[←hRV];rfl
 rw[hoN,hRV];unfold qQ;by_cases hi:0≤i∧i<ps.length;rotate_left
 ·rw[if_pos hi];by_cases h0:i<0
  ·have z0:decide (i<0)=true:=dct;refine aue (e3 hRf z0 cC) ?_;exact aU h' (leo hd) ⟨rfl,leo hd⟩
  have z0:decide (i<0)=false:=dcf;have z1:decide ((ps.length:Int)≤i)=true:=dct;have z2:decide (i≥(ps.length:Int))=true:=dct;refine aue (e5 hRf z0 z1 z2 cC) ?_;exact aU h' (leo hd) ⟨rfl,leo hd⟩
 rw[if_neg (fun e=>e hi)];have hs:=hp.2 _ (iC hi);obtain⟨k,hk⟩:∃k:Nat,i=k:=⟨i.toNat,or⟩;subst hk;have hkl:k<ps.length:=or;have z0:decide ((k:Int)<0)=false:=dcf;have z1:decide ((ps.length:Int)≤(k:Int))=false:=dcf;have z2:decide ((k:Int)≥(ps.length:Int))=false:=dcf;have hg:=bo ps k hkl;have e1:ps.getD k default=gO ps (k:Int):=by unfold gO;rw[jG]
 rw[e1] at hg;unfold uT;have q0:=hs.li;have q5:=hs.wl;have q6:=hs.rl;have q7:=hs.kd;have q8:=hs.al;generalize gO ps (k:Int)=s at*;obtain⟨o5,hv9⟩:=DI s k;rw[hv9] at hg;have hg2:=aJ Li.v R.b s.i q0;have hD2:R.b.getD s.i default=R.b[s.i]:=by rw[Kc,Ke q0];rfl
 rw[hD2] at q6 q7 q8⊢;have hxs:=hR.2 R.b[s.i] (Ki q0);generalize R.b[s.i]=x at*;have hxf:=Li.aAA x;have CS:=fun o ho l hl hsm h3 h=>tr o ho l hl hsm x q6 h3 hxs h;obtain⟨X,hX,hat,hx0⟩:∃X,x.v= .agg X∧(X.drop 1).take 2=[.str x.a.r,trs x.a.o x.a.l]∧X.getD 0 (.tup [])= .int .i64 x.k:=⟨_,rfl,rfl,rfl⟩;have hlp:aX (.agg 2) 1 (.agg X)=x.a.v:=congrArg V.agg hat
 rw[hX] at CS hg2 hxf;have C1:=fun h=>xS (o9 k) o s.hv row or h;by_cases hlr:s.hv.length=row.length;rotate_left
 ·rw[decide_eq_false hlr] at C1;rw[if_pos hlr];refine aue (e8 hRf z0 z1 z2 hg hkl cC jG) ?_;exact aU h' (leo hd) ⟨rfl,leo hd⟩
 rw[decide_eq_true hlr] at C1;rw[if_neg (by simpa using hlr)];have hEl:(dW s.hv row).length≤100000:=by have:=oO s.hv row;omega
 have hEs:smB (dW s.hv row):=iu hrs;have hgl:=fun l2=>F4 (s:=s) (x:=x) (t:=t) (l:=dW s.hv row) (l2:=l2);generalize dW s.hv row=EN at*;have hoE:=qq EN;generalize frO EN=OE at*;obtain⟨RES,aAS⟩:∃r,goB s x t EN=r:=⟨_,rfl⟩;rw[aAS] at hgl⊢;unfold goB at aAS;rw[q7] at aAS;have zz:((0:Int) != 0)=false:=rfl;rcases qI q6 with hk|hk|hk
 ·have g1:(x.k==1)=true:=bqt;rw[if_pos hk] at aAS;subst aAS;dsimp only at hgl⊢;have C2:=fun h=>zm x.a or ot t OE hoE EN or h;clear CS;cases hM:zO x.a t EN with
  |none=>
   rw[hM] at C2;simp only[uy] at C2;refine aue (e14 hRf hRb z0 z1 z2 hg hkl hg2 q0 hxf cC (@jK Li V) jG (e7 hlp hx0 g1 zz trs.eq_1 trivial trivial)) ?_;exact aU h' (leo hd) ⟨rfl,leo hd⟩
  |some l2=>
   rw[hM] at C2 hgl;simp only[uy] at C2;refine aue (e14 hRf hRb z0 z1 z2 hg hkl hg2 q0 hxf cC (@jK Li V) jG (e5 hlp hx0 g1 zz trivial)) ?_;refine tS ps k hkl oN s o5 hg q5 (sS OE EN l2) l2 (by have:=hgl _ rfl;omega) h' _ _ (dmo hd) (leo hd) _ (by simp only[WkL,aD,jH,jI,jJ,go_sem,reduceIte,jA,jB,jC,jD,reduceCtorEq,jE,jF])
 ·have g1:(x.k==1)=false:=bqf;have g2:(x.k==2)=true:=bqt;rw[if_neg or,if_pos hk] at aAS;have C2:=fun h=>ef x.a OE EN or hEs (fun t ht=>(hxs.1.2 t ht).2) h;have hml:(fU x.a EN).1.length≤1000000000:=by have:=yB x.a EN;omega
  have C3:=fun h=>zg (okO (fU x.a EN).2 (frO (fU x.a EN).1)) ot (fU x.a EN).1 t hml or h;generalize fU x.a EN=P at*;clear CS;by_cases he:P.2=0
  ·have v1:(P.2 != 0)=false:=bnf;by_cases hcm:mB P.1 t=0
   ·rw[if_pos (.inr hcm)] at aAS;rw[decide_eq_true hcm] at C3;subst aAS;refine aue (e14 hRf hRb z0 z1 z2 hg hkl hg2 q0 hxf cC (@jK Li V) jG (e5 hlp hx0 g1 g2 v1)) ?_;exact aU h' (leo hd) ⟨rfl,leo hd⟩
   rw[if_neg (by simp[he,hcm])] at aAS;rw[decide_eq_false hcm] at C3;subst aAS;dsimp only at hgl⊢;refine aue (e14 hRf hRb z0 z1 z2 hg hkl hg2 q0 hxf cC (@jK Li V) jG (e5 hlp hx0 g1 g2 v1)) ?_;refine tS ps k hkl oN s o5 hg q5 OE EN (by have:=hgl _ rfl;omega) h' _ _ (dmo hd) (leo hd) _ (by simp only[WkL,aD,jH,jI,jJ,go_sem,reduceIte,jA,jB,jC,jD,reduceCtorEq,jE,jF])
  have v1:(P.2 != 0)=true:=bnt;rw[if_pos (.inl he)] at aAS;subst aAS;refine aue (e14 hRf hRb z0 z1 z2 hg hkl hg2 q0 hxf cC (@jK Li V) jG (e5 hlp hx0 g1 g2 v1)) ?_;exact aU h' (leo hd) ⟨rfl,leo hd⟩
 have g1:(x.k==1)=false:=bqf;have g2:(x.k==2)=false:=bqf;rw[if_neg or,if_neg or] at aAS;have C2:=fun h=>CS OE hoE EN or hEs hk h;clear CS;rw[aAS] at C2;obtain⟨r,er⟩:=RES;cases r with
 |none=>
  simp only[DO] at C2;by_cases he:er=0
  ·have v1:(er != 0)=false:=bnf;refine aue (e14 hRf hRb z0 z1 z2 hg hkl hg2 q0 hxf cC (@jK Li V) jG (e5 hlp hx0 g1 g2 v1)) ?_;exact aU h' (leo hd) ⟨rfl,leo hd⟩
  have v1:(er != 0)=true:=bnt;refine aue (e14 hRf hRb z0 z1 z2 hg hkl hg2 q0 hxf cC (@jK Li V) jG (e5 hlp hx0 g1 g2 v1)) ?_;exact aU h' (leo hd) ⟨rfl,leo hd⟩
 |some l2=>
  simp only[DO] at C2;dsimp only at hgl⊢;refine aue (e14 hRf hRb z0 z1 z2 hg hkl hg2 q0 hxf cC (@jK Li V) jG (e5 hlp hx0 g1 g2 zz)) ?_;refine tS ps k hkl oN s o5 hg q5 (sS OE EN l2) l2 (by have:=hgl _ rfl;omega) h' _ _ (dmo hd) (leo hd) _ (by simp only[WkL,aD,jH,jI,jJ,go_sem,reduceIte,jA,jB,jC,jD,reduceCtorEq,jE,jF])
end Go.Proofs.YtgbiopfghdilnaaGreatDoor
namespace Go.Proofs.YtgbiopfghdilnaaGreatDoor
open Go.RowKit Go.Sort
attribute [local irreducible] IntKind.wrap
def hdB(R:Ru)(ps:List PS)(row:List Vl):List Vl×Int:=if (eB ps).length≠row.length then ([],6) else fU R.h (dW (eB ps) row)
theorem zy(R:Ru)(ps:List PS)(hp:ps.length≤1000)(hn:(eB ps).Nodup)(hw:(eB ps).length≤1000000000)(o:Own)(row:List Vl)(h:Hp):aK Tryz.prog 31 [eA R ps,vls o row] h (mkR (hdB R ps row)):=by
 refine aH (fun L=>xY _ L) fun h' nx hh=>aB L.bEL fun hd=>?_;have hd:aS h' nx:=hd;simp only[Ku,Kq,Kg,Kh,Km,Ko,Kv,Kx,V.undef];have C1:=fun h=>tA R ps hp hw h;obtain⟨ow,how⟩:=bQ .leaf ((eB ps).map V.str);rw[how] at C1;obtain⟨PV,hPV,hPf,hlp⟩:∃PV,eA R ps= .agg PV∧(V.agg PV).fits (.agg 7)=true∧aX (.agg 2) 0 (.agg PV)=R.h.v:=by
  obtain⟨oS,hoS⟩:=bQ (.agg 5) (ps.map PS.v);unfold eA;rw[hoS];exact⟨_,rfl,rfl,rfl⟩
 rw[hPV] at C1⊢;unfold hdB;refine aue (e2 hPf trivial) ?_;refine bF ((tV ow o (eB ps) row hn hw _ _).dom.mono ?_);rintro v h2 nx2 aAb ⟨⟨aBE,hk2⟩,hd2,_⟩;unfold cY;dsimp only at aBE hk2;have aAj:Kd nx h' h2:=fun k hk=>by
  rw[hk2 k or];simp only[Kb];repeat rw[if_neg or]
 by_cases hlr:(eB ps).length=row.length
 ·rw[if_pos hlr] at aBE;rw[if_neg (by simpa using hlr)];obtain⟨m,es,c,rfl,p1,p2,p3,p4⟩:=aBE;simp only[go_sem,reduceIte,Kg,Kh,Ky,Kj,reduceCtorEq,Kk,Kt];have hb:h2 nx=some (.arr (.agg 7) [.agg PV]):=by rw[hk2 nx or];simp only[go_sem,reduceIte,Kg,Kh,Ky,Kj,reduceCtorEq,Kk,Kt]
  have n0:nx<nx2:=or;have hv:veq (nW.iface true) V.nilIface V.nilIface=some true:=rfl;have CM:=jg R.h (dW (eB ps) row) m es c h2 p3 p4.at
  refine aue (e4 hv hb n0 hlp) ?_;refine aI CM rfl (aL _) ?_;refine au ?_;exact aM h' (aAj.le hd (Ka _)) ⟨rfl,rfl⟩
 rw[if_neg hlr] at aBE;rw[if_pos hlr];subst aBE;have hv6:veq (nW.iface true) (eF 6) V.nilIface=some false:=rfl;refine aue hv6 ?_;exact aM h' (aAj.le hd (Ka _)) ⟨rfl,rfl⟩
theorem t6(R:Ru)(hR:R.sm)(ps:List PS)(hp:ps.length≤1000)(o:Own)(row:List Vl)(aEn:row.length≤100000)(hrs:∀v∈row,v.s.size≤9223372036854775807)(h:Hp):aK Tryz.prog 32 [R.v,lst (.agg 5) (vs9 ps),vls o row] h (mkK (hdB R ps row)):=by
 refine aH (fun L=>xZ _ L) fun h' nx hh=>aB L.bEK fun hd=>?_;have hd:aS h' nx:=hd;simp only[Ku,Kq,Kg,Kh,Km,Ko,Kv,Kx,V.undef];have C1:=fun h=>ym ps hp h;obtain⟨oz,hoz⟩:∃oz,r6 ps= .sl .leaf oz ((eB ps).map V.str):=by
  unfold r6;split
  ·rename_i h0;rw[List.length_eq_zero_iff.1 h0];exact⟨.nil,rfl⟩
  exact⟨.free,rfl⟩
 rw[hoz] at C1;obtain⟨RV,hRV,hRf,hlp⟩:∃RV,R.v= .agg RV∧(V.agg RV).fits (.agg 6)=true∧aX (.agg 2) 0 (.agg RV)=R.h.v:=⟨_,rfl,rfl,rfl⟩;rw[hRV];unfold hdB;have C2:=fun h=>xS oz o (eB ps) row or h;by_cases hlr:(eB ps).length=row.length;rotate_left
 ·rw[decide_eq_false hlr] at C2;rw[if_pos hlr];refine aue (e2 hRf trivial) ?_;exact aM h' (leo hd) ⟨rfl,rfl⟩
 rw[decide_eq_true hlr] at C2;rw[if_neg (by simpa using hlr)];have hEl:(dW (eB ps) row).length≤100000:=by have:=oO (eB ps) row;omega
 have hEs:smB (dW (eB ps) row):=iu hrs;generalize dW (eB ps) row=EN at*;generalize frO EN=OE at*;have C3:=fun h=>ef R.h OE EN or hEs (fun t ht=>(hR.1.2 t ht).2) h;refine aue (e3 hRf hlp trivial) ?_;exact aM h' (leo hd) ⟨rfl,rfl⟩
theorem wT(l:List Tr):∀(n:Nat) (e:Ex),bJ l n e.cp=bJ l n e
 |0, .mk op t o ks=>rfl
 |n+1, .mk op t o ks=>by
  match ks with
  | []=>rfl
  | [a]=>rfl
  | [a,b]=>
   show bJ l (n+1) (.mk op t _ [a.cp,b.cp])=_;unfold bJ;simp only[wT l n a,wT l n b]
  |a::b::c::r=>rfl
theorem lz(l:List Tr)(e:Ex):dJ l e.cp=dJ l e:=by cases e;rfl
theorem BX(l:List Tr)(x:Li):nN l x.cp=nN l x:=by
 have h1:dJ l x.cp.x=dJ l x.x:=lz l x.x;have h2:dJ l x.cp.y=dJ l x.y:=lz l x.y;have h3:∀n,bJ l n x.cp.x=bJ l n x.x:=fun n=>wT l n x.x;have h4:∀n,bJ l n x.cp.y=bJ l n x.y:=fun n=>wT l n x.y;unfold nN jy pQ;rw[h1,h2,h3,h4];rfl
theorem GS(s:PS)(x:Li)(t:List Vl)(l:List Tr):goB s x.cp t l=goB s x t l:=by
 unfold goB;rw[BX];rfl
theorem EB{r:Ru}{i:Nat}(h:i<r.b.length):r.cp.b.getD i default=(r.b.getD i default).cp:=by
 show(r.b.map Li.cp).getD i default=_;rw[Kc,Kc,List.getElem?_map,Ke h];rfl
theorem GG{r:Ru}{s:PS}(h:PlS r.lo s):PlS r.cp s:=by
 have hi:s.i<r.b.length:=h.li;have e:r.cp.b.getD s.i default=(r.lo.b.getD s.i default).cp:=EB hi;refine⟨by show s.i<(r.b.map Li.cp).length;rw[KC];exact hi,h.nd,h.hl,h.wl,h.kl,?_,?_,?_,?_⟩
 ·rw[e];exact h.kc
 ·rw[e,ml];exact h.rl
 ·rw[e];exact h.kd
 rw[e];exact h.al
theorem FJ{r:Ru}{ps:List PS}(h:rP r.lo ps):rP r.cp ps:=⟨h.1,fun s hs=>GG (h.2 s hs)⟩
theorem qn{r:Ru}{ps:List PS}(hp:rP r.lo ps){i:Int}(hi:0≤i∧i<ps.length):uT r.cp ps i=(uT r.lo ps i).cp:=EB (hp.2 _ (iC hi)).li
theorem EF{r:Ru}{ps:List PS}(hp:rP r.lo ps)(i:Int)(row:List Vl):qZ r.cp ps i row=qZ r.lo ps i row:=by
 unfold qZ CR;by_cases hi:0≤i∧i<ps.length
 ·rw[qn hp hi];rfl
 rw[if_pos (.inl hi),if_pos (.inl hi)]
theorem B9{r:Ru}{ps:List PS}(hp:rP r.lo ps)(i:Int)(t:List Vl):mO r.cp ps i t=mO r.lo ps i t:=by
 unfold mO;by_cases hi:0≤i∧i<ps.length
 ·rw[qn hp hi];rfl
 rw[if_pos (.inl hi),if_pos (.inl hi)]
theorem D9{r:Ru}{ps:List PS}(hp:rP r.lo ps)(i:Int)(row t:List Vl):qQ r.cp ps i row t=qQ r.lo ps i row t:=by
 unfold qQ;by_cases hi:0≤i∧i<ps.length
 ·rw[qn hp hi,GS]
 rw[if_pos hi,if_pos hi]
theorem GQ(r:Ru)(ps:List PS)(row:List Vl):hdB r.cp ps row=hdB r.lo ps row:=rfl
theorem kq{ps:List PS}(h:ps≠ []):∃s∈ps,eB ps=s.wt:=by
 have hl:0<ps.length:=List.length_pos_iff.2 h;refine⟨ps[ps.length-1],Ki _,?_⟩;unfold eB;rw[Kc,Ke or];rfl
theorem DX(r:Ru):∃(R:Ru) (ps:List PS) (e:Int),ez r= .tup [eA R ps,eF e]∧FM r.cp= .tup [lst (.agg 5) (vs9 ps), .int .i64 e]∧(e=0→R=r.lo∧rP r.lo ps∧(eB ps).Nodup∧(eB ps).length≤1000000000∧r.h.l.length≤1000000):=by
 unfold ez mr FM FN;rw[B8,Dr,mb,DY];cases hr:bT r with
 |false=>exact⟨_,[],2,rfl,rfl,fun e=>absurd e ZM⟩
 |true=>
  simp only[Bool.true_eq_false,if_false];by_cases hs:cL r (dY r) false≠ []
  ·simp only[if_pos hs];exact⟨_,[],8,rfl,rfl,fun e=>absurd e ZM⟩
  simp only[if_neg hs];have h:=FH hr;have hh:r.h.l.length≤6:=by
   unfold bT fO at hr;simp only[Bool.and_eq_true,decide_eq_true_eq] at hr;exact hr.1.1.1.1.2
  refine⟨_,_,_,rfl,rfl,fun _=>⟨rfl,h.1,?_,?_,or⟩⟩
  ·by_cases hn:lH r=[]
   ·rw[hn];exact KH
   obtain⟨s,hs,e⟩:=kq hn;obtain⟨i,hi,rfl⟩:=sA r _ _ s hs;rw[e];exact sD (pL r _ _ KH)
  by_cases hn:lH r=[]
  ·rw[hn];exact Kw _
  obtain⟨s,hs,e⟩:=kq hn;rw[e];exact(h.1.2 s hs).wl
theorem ED{R:Ru}{ps:List PS}{i:Int}{row:List Vl}(hp:rP R ps):(qZ R ps i row).1.length≤6:=by
 unfold qZ;split
 ·simp
 rename_i h;have hi:0≤i∧i<ps.length:=by simp only[not_or,Classical.not_not] at h;exact h.1
 split
 ·simp
 have h1:=(hp.2 _ (iC hi)).kl;have h2:=yA (dW (gO ps i).hv row) (CR R ps i) [];unfold CR at h2⊢;rw[KC] at h2;simp only[Kq,Nat.zero_add] at h2;omega
theorem D8{R:Ru}{ps:List PS}{i:Int}{row t:List Vl}(hp:rP R ps):(qQ R ps i row t).1.length≤1000000000:=by
 unfold qQ;split
 ·simp
 rename_i h;have hi:0≤i∧i<ps.length:=Classical.not_not.1 h;split
 ·simp
 split
 ·simp
 unfold lL;rw[KC];exact(hp.2 _ (iC hi)).wl
set_option maxRecDepth 100000 in
theorem qh(ha:∀h,aK Tryz.prog 7 [] h (.bool true))(r:Ru)(hr:r.s47)(i:Int)(oa ob:Own)(a b:List Vl)(hsa:∀v∈a,v.s.size≤kE)(h:Hp):aK Tryz.prog 6 [r.v, .int .i64 i, .agg [vls oa a,vls ob b]] h (.bool true):=by
 refine aH (fun L=>trivial) fun h' nx hh=>aB L.g0z fun hd=>?_;have hd:aS h' nx:=hd;have C1:=ha;have C2:=fun h=>Ah r hr h;have C4:=fun hf h=>u0 r hf h;have hff:=fun h0=>DS hr h0;have CP:=fun h=>zM r h;obtain⟨RV,hRV⟩:∃RV,r.v= .agg RV:=⟨_,rfl⟩;have hRf:(V.agg RV).fits (.agg 6)=true:=by rw[←hRV];rfl
 rw[hRV] at C2 C4 CP⊢;simp only[Ku,Kq,Kg,Kh,Km,Ko,Kv,Kx,V.undef];obtain⟨N,hN⟩:∃N,tq r=N:=⟨_,rfl⟩;rw[hN] at C2 hff;by_cases hlt:N<0
 ·have g1:decide (N<0)=true:=dct;clear C4;refine aue (e3 hRf g1 trs.eq_1) ?_;exact aC h' (leo hd) ⟨rfl,rfl⟩
 have g1:decide (N<0)=false:=dcf
 replace C4:=C4 (hff or)
 have C3:=C4;clear C4 hff;refine aue (e3 hRf g1 KD) ?_;refine aI (CJ _ [(oa,a),(ob,b)] Zm _) rfl (aL _) ?_;cases aCL:zQ 0 (qH [(oa,a),(ob,b)]) with
 |true=>
  clear C3;refine aue aCL ?_;exact aC h' (leo hd) ⟨rfl,rfl⟩
 |false=>
  have hln:=nm _ _ aCL;have hla:a.length≤50:=hln a (by simp[qH]);have hlb:b.length≤50:=hln b (by simp[qH]);obtain⟨R,ps,e,hE,h9,aAy⟩:=DX r;have C5:=fun h=>FL r.cp (Ru.aCe (Ru.aBD hr)) h;rw[hE] at CP;rw[h9] at C5;obtain⟨oN,hoN⟩:=bQ (.agg 5) (vs9 ps);rw[hoN] at C5;obtain⟨PV,hPV,aH3⟩:∃PV,eA R ps= .agg PV∧(V.agg PV).fits (.agg 7)=true:=by
   obtain⟨oS,hoS⟩:=bQ (.agg 5) (ps.map PS.v);unfold eA;rw[hoS];exact⟨_,rfl,rfl⟩
  rw[hPV] at CP;obtain⟨MV,hMV⟩:∃MV,r.cp.v= .agg MV:=⟨_,rfl⟩;have hMf:(V.agg MV).fits (.agg 6)=true:=by rw[←hMV];rfl
  rw[hMV] at C3 C5;clear C1 C2;have C1:=CP;have C2:=fun h=>oF e h;have C4:=C5;clear CP C5;have he:(e != e)=false:=bnf;have hee:(e==e)=true:=bqt;by_cases hz:e=0;rotate_left
  ·have hb:(e != 0)=true:=bnt;refine aue (e8 hRf g1 aCL hMf aH3 he hee hb) ?_;exact aC h' (leo hd) ⟨rfl,rfl⟩
  have hb:(e != 0)=false:=bnf;refine aue (e8 hRf g1 aCL hMf aH3 he hee hb) ?_;obtain⟨rfl,hPO,hwn,hwl,hhl⟩:=aAy hz;subst hz;have hQO:=FJ hPO;have hsm:r.cp.sm:=Ru.aCe (Ru.aBD hr);have hrs:∀v∈a,v.s.size≤9223372036854775807:=fun v hv=>by
   have:=hsa v hv;unfold kE at this;omega
  clear C1 C2 C3 C4 he hee hb aAy hE h9;generalize hH:Kb _ _ _=H;have hk:∀m,m<nx→H m=h' m:=fun m hm=>by rw[←hH];simp only[Kb];repeat rw[if_neg or]
  have hb1:H (nx+1)=some (.arr (.agg 2) [.agg [vls oa a,vls ob b]]):=by rw[←hH];simp only[go_sem,reduceIte,Kg,Kh,Ky,Kj,reduceCtorEq,Kk,Kt]
  have hb3:H (nx+3)=some (.arr (.agg 6) [.agg MV]):=by rw[←hH];simp only[go_sem,reduceIte,Kg,Kh,Ky,Kj,reduceCtorEq,Kk,Kt]
  have hb5:H (nx+5)=some (.arr (.agg 7) [.agg PV]):=by rw[←hH];simp only[go_sem,reduceIte,Kg,Kh,Ky,Kj,reduceCtorEq,Kk,Kt]
  have hle:h'.le H:=Hp.same.le hk hd (Ka _);clear hH;have C1:=fun h=>zw r.lo ps hPO i oa a h;have C2:=fun h=>tz r.cp hsm ps hQO i oa a or hrs h;have C3:=fun h=>uf r.lo ps hPO i ob b h;have C4:=fun h=>qa r.cp ps hQO i ob b h;have D1:=fun h=>zu r.lo ps hPO i oa ob a b or h;have D2:=fun h=>tx r.cp hsm ps hQO i oa ob a b or hrs or h;have D3:=fun h=>zy r.lo ps hPO.1 hwn hwl oa a h;have D4:=fun h=>t6 r.cp hsm ps hPO.1 oa a or hrs h;rw[EF hPO] at C2;rw[B9 hPO] at C4;rw[D9 hPO] at D2;rw[GQ] at D4;rw[hPV] at C1 C3 D1 D3;rw[hMV,hoN] at C2 C4 D2 D4;have hl1:(qZ r.lo ps i a).1.length≤1000000000:=KG (ED hPO) or;have hl2:(mO r.lo ps i b).1.length≤1000000000:=KG (zo hPO) or;have hl3:(qQ r.lo ps i a b).1.length≤1000000000:=D8 hPO;have hl4:(hdB r.lo ps a).1.length≤1000000000:=by
   unfold hdB;split
   ·exact Kw _
   exact KG (yB _ _) (show r.h.l.length≤_ by omega)
  generalize qZ r.lo ps i a=P1 at*;generalize mO r.lo ps i b=P2 at*;generalize qQ r.lo ps i a b=P3 at*;generalize hdB r.lo ps a=P4 at*;unfold mkR at C1 C3 D3;unfold mkK at C2 C4 D4;unfold mkX at D1;unfold mkY at D2;refine aue (e8 hb1 hb3 hb5 hMf aH3 KD trivial trivial) ?_;clear C1 C2 C3 C4;have T:∀o1 o2 (l:List Vl) (hl:l.length≤1000000000) h,aK Tryz.prog 29 [.sl (.agg 3) o1 (l.map Vl.v), .sl (.agg 3) o2 (l.map Vl.v)] h (.bool true):=fun o1 o2 l hl h=>by
   have:=tC o1 o2 l l hl h;rwa [decide_eq_true rfl] at this
  have C1:=fun h=>oF P1.2 h;have C2:=fun h=>oF P2.2 h;have C3:=fun h=>T (okO P1.2 .free) (okO P1.2 (frO P1.1)) P1.1 hl1 h;have C4:=fun h=>T (okO P2.2 .free) (okO P2.2 (frO P2.1)) P2.1 hl2 h;have n1:(P1.2 != P1.2)=false:=bnf;have n2:(P2.2 != P2.2)=false:=bnf;refine aue (e8 hb1 hb3 hb5 hMf aH3 KD n1 n2) ?_;clear C1 C2 C3 C4;have C1:=D1;have C2:=D2;have C3:=D3;have C4:=D4;clear D1 D2 D3 D4;refine aue (e8 hb1 hb3 hb5 hMf aH3 KD trivial trivial) ?_;clear C1 C2 C3 C4;have C1:=fun h=>oF P3.2.2 h;have C2:∀h,aK Tryz.prog 23 [.sl (.agg 3) (if P3.2.1=true then .free else .nil) (P3.1.map Vl.v), .sl (.agg 3) (if P3.2.1=true then frO P3.1 else .nil) (P3.1.map Vl.v)] h (.bool true):=fun h=>by
   have:=zk (if P3.2.1=true then .free else .nil) (if P3.2.1=true then frO P3.1 else .nil) P3.1 P3.1 hl3 h;rwa [decide_eq_true rfl] at this
  have C3:=fun h=>oF P4.2 h;have C4:=fun h=>T (okO P4.2 .free) (okO P4.2 (frO P4.1)) P4.1 hl4 h;have m1:(P3.2.2==P3.2.2)=true:=bqt;have m2:(P4.2==P4.2)=true:=bqt;generalize (if P3.2.1=true then Own.free else Own.nil)=O1 at*;generalize (if P3.2.1=true then frO P3.1 else Own.nil)=O2 at*;generalize P3.2.1=B3 at*;cases B3 with
  |true=>
   refine aue (e2 m1 m2) ?_;show pW true _ _;refine aue (e2 m1 m2) ?_;exact aC h' hle ⟨rfl,rfl⟩
  |false=>
   refine aue (e2 m1 m2) ?_;show pW true _ _;refine aue (e2 m1 m2) ?_;exact aC h' hle ⟨rfl,rfl⟩
end Go.Proofs.YtgbiopfghdilnaaGreatDoor
