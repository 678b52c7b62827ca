/-
Texts of this proof,one behind the other. No conditions.
-/
import Derived.Test.YtecepaehmojpgaaGreatKd
import Derived.Test.YtecepaehmojpgaaGreatKt
import Derived.Test.YtecepaehmojpgaaGreatKo
import Derived.Test.YtecepaehmojpgaaGreatKh
import Derived.Test.YtecepaehmojpgaaGreatKj
import Derived.Test.YtecepaehmojpgaaGreatKq
import Derived.Test.YtecepaehmojpgaaGreatKTe
open Go.Proofs.YtecepaehmojpgaaGreat.Cg renaming v→Ka,aAN→Kh
open Go.Proofs.YtecepaehmojpgaaGreat.Hp renaming set→Kb,le_refl→Kc,same→Kd,del→Ke
open List renaming take_of_length_le→Kf,take_succ_eq_append_getElem→Kg,replicate→Ki,map_append→Kk,take_zero→Ko,length_append→Kq,getD_eq_getElem?_getD→Ks,getElem?_eq_getElem→Kt,getElem_mem→Ku,map_nil→Kv,append_assoc→Kw,length→Kx,length_take→Ky,append_nil→Kz
open Nat renaming lt_or_ge→Kj,zero_le→Km,zero_add→KD,le_refl→KE
open Go.IntKind renaming wrap→Kp
open Bool renaming false_and→KB,not_false→KC
open Nat renaming reduceAdd→jA,reduceSub→jB,reduceLT→jC,reduceLeDiff→jD,reduceEqDiff→jE
open Int renaming reduceToNat→jF,toNat_natCast→jG,natCast_add→jH,natCast_one→jI,natCast_zero→jJ
open List renaming length_map→jK,length_cons→jL,length_nil→jM,replicate_succ→jN,replicate_zero→jO,cons_append→jP,nil_append→jQ
set_option linter.unusedSimpArgs false
set_option linter.unusedVariables false
set_option linter.unusedSectionVars false
set_option maxHeartbeats 8000000
namespace Go.Proofs.YtecepaehmojpgaaGreat
open Go.RowKit Go.Sort
structure DN where
 f:Int
 t:Int
 n:Nt
def Nt.ds(n:Nt):List Cg:=⟨n.aAS,-1⟩::n.made.map fun s=>(⟨s,1⟩:Cg)
def DN.v(x:DN):V:= .agg [.int .i64 x.f, .int .i64 x.t, .sl (.agg 4) .free (x.n.ds.map Ka)]
theorem DN.aAN(x:DN)(L:Nat→Prop):x.v.names L:=by
 have:=bG (L:=L) (Kh L) x.n.ds;simp[DN.v,V.names,bU,this]
def vwV(C:List Cg):V:=lst (.agg 4) (C.map Ka)
def cO{α:Type}(l:List α):Own:=if l.isEmpty=true then .nil else .free
theorem lM{α:Type}(k:Sh)(f:α→V)(l:List α):lst k (l.map f)= .sl k (cO l) (l.map f):=by cases l<;>rfl
structure DW where
 P:Int
 ws:List Wy
 T:List Cg
 Vs:List (List Cg)
 Ns:List DN
def DW.vo(om oT oV oN:Own)(x:DW):V:= .agg [.int .i64 x.P,wys om x.ws,cgs oT x.T, .sl .leaf oV (x.Vs.map vwV), .sl (.agg 3) oN (x.Ns.map DN.v)]
def DW.v(om oN:Own)(x:DW):V:=x.vo om (cO x.T) (cO x.Vs) oN
def dw0:V:= .agg [.int .i64 0, .sl (.agg 4) .nil [], .sl (.agg 4) .nil [], .sl .leaf .nil [], .sl (.agg 3) .nil []]
theorem CN(C:List Cg)(L:Nat→Prop):(vwV C).names L:=cP (fun L=>bG (Kh L) _) L
theorem DW.names(om oN:Own)(hm:∀n,om≠ .tok n)(hN:∀n,oN≠ .tok n)(x:DW)(L:Nat→Prop):(x.v om oN).names L:=by
 have h1:=bG (L:=L) (Kh L) x.T;have h2:=bG (L:=L) (fun C=>CN C L) x.Vs;have h3:=bG (L:=L) (fun C=>DN.aAN C L) x.Ns;have h4:=bG (L:=L) (fun w=>Wy.aAN L w) x.ws;have hc:∀{α:Type} (l:List α) (n:Nat),cO l≠ .tok n:=fun l n=>by unfold cO;split<;>simp
 simp[DW.v,DW.vo,cgs,V.names,bU,h1,h2,h3,h4,hm,hN,hc]
def rA(Ns:List DN)(i j:Int):Nat:=Ns.countP fun x=>decide (x.f=i)&&decide (x.t=j)
theorem yb{α:Type}(p:α→Bool)(l:List α)(k:Nat)(h:k<l.length):(l.take (k+1)).countP p=(l.take k).countP p+if p l[k]=true then 1 else 0:=by
 rw[Kg h,List.countP_append,List.countP_singleton]
attribute [local irreducible] Kp
set_option maxRecDepth 100000 in
set_option maxHeartbeats 4000000 in
theorem uU(om oT oV oN:Own)(x:DW)(hN:x.Ns.length≤1000000)(i j:Int)(h:Hp):aY Tryz.prog 31 [x.vo om oT oV oN, .int .i64 i, .int .i64 j] h (.int .i64 (rA x.Ns i j)):=by
 refine aR (fun L=>trivial) fun h' nx hh=>aF L.aYw fun hd=>?_;simp only[jL,jM,jA,jB,jN,jO,jP,jQ,V.undef];have hd:aI h' nx:=hd;obtain⟨P,ws,T,Vs,Ns⟩:=x;dsimp only[DW.vo] at hN⊢;have hwf:V.fits (.agg 5) (.agg [.int .i64 P,wys om ws,cgs oT T, .sl .leaf oV (Vs.map vwV), .sl (.agg 3) oN (Ns.map DN.v)])=true:=rfl;refine aue hwf ?_;obtain⟨A,hA⟩:∃A,A=h'.set nx (.arr (.agg 5) [.agg [.int .i64 P,wys om ws,cgs oT T, .sl .leaf oV (Vs.map vwV), .sl (.agg 3) oN (Ns.map DN.v)]]):=⟨_,rfl⟩;have a0:A nx=some (.arr (.agg 5) [.agg [.int .i64 P,wys om ws,cgs oT T, .sl .leaf oV (Vs.map vwV), .sl (.agg 3) oN (Ns.map DN.v)]]):=by rw[hA];simp only[Kb,if_true]
 have hle:h'.le A:=by rw[hA];exact leo hd
 rw[←hA];clear hA
 refine aO (fun k:Nat=>aB 37 0 [(1, .int .i64 i),(2, .int .i64 j),(3, .ptr nx (.agg 5) 0 0),(7, .int .i64 (rA (Ns.take k) i j)),(8, .int .i64 k)])
  (fun k hp nx1=>k≤Ns.length∧nx+1≤nx1∧hp=A) (fun k=>Ns.length-k) 0 ⟨Km _,ZN,rfl⟩ (by simp only[WkL,aB,jH,jI,jJ,Ko,show rA [] i j=0 from rfl,go_sem,reduceIte,jA,jB,jC,jD,reduceCtorEq,jE,jF]) ?_
 rintro k hp nx1 ⟨hk,hnx,rfl⟩;generalize hQ:bH _ _ _ _ _=Q0;simp only[aB,go_sem,reduceIte,jA,jB,jC,jD,reduceCtorEq,jE,jF];have n1:nx<nx1:=or;rcases Kj k Ns.length with hlt|hge;case inr=>
  have hc1:decide ((k:Int)<(Ns.length:Int))=false:=dcf;refine aue (e4 hc1 a0 n1 (@jK DN V)) ?_;rw[←hQ];refine au ?_;exact aG h' hle ⟨by rw[Kf hge];rfl,rfl⟩
 have hc1:decide ((k:Int)<(Ns.length:Int))=true:=dct;have hw1:IntKind.i64.wrap ((k:Int)+1)=((k+1:Nat):Int):=wrp;have hcl:rA (Ns.take k) i j≤Ns.length:=Nat.le_trans List.countP_le_length (by simp;omega);have hw2:IntKind.i64.wrap ((rA (Ns.take k) i j:Int)+1)=((rA (Ns.take k) i j+1:Nat):Int):=wrp;have hg:(Ns.map DN.v).getD k (.tup [])= .agg [.int .i64 Ns[k].f, .int .i64 Ns[k].t, .sl (.agg 4) .free (Ns[k].n.ds.map Ka)]:=bY DN.v _ Ns k hlt;have hs:rA (Ns.take (k+1)) i j=rA (Ns.take k) i j+if (decide (Ns[k].f=i)&&decide (Ns[k].t=j))=true then 1 else 0:=yb _ Ns k hlt
 have fin:∀(c:Nat) (sl:List V) (nx2:Nat),nx1≤nx2→c=rA (Ns.take (k+1)) i j→WkL sl (aB 37 0 [(1, .int .i64 i),(2, .int .i64 j),(3, .ptr nx (.agg 5) 0 0),(7, .int .i64 c),(8, .int .i64 ((k+1:Nat):Int))])→Q0 .normal ⟨sl,hp,nx2⟩:=fun c sl nx2 hx hc hsl=>by
  subst hc;rw[←hQ];exact aD (k+1) or ⟨hlt,or,rfl⟩ hsl
 by_cases h1:Ns[k].f=i
 ·have g1:(Ns[k].f==i)=true:=bqt;by_cases h2:Ns[k].t=j
  ·have g2:(Ns[k].t==j)=true:=bqt;refine aue (e10 hc1 a0 n1 (@jK DN V) hw1 hw2 hg hlt g1 g2) ?_;exact fin (rA (Ns.take k) i j+1) _ _ or (by rw[hs];simp[h1,h2]) (wkl trivial)
  have g2:(Ns[k].t==j)=false:=bqf;refine aue (e9 hc1 a0 n1 (@jK DN V) hw1 hg hlt g1 g2) ?_;exact fin (rA (Ns.take k) i j) _ _ or (by rw[hs];simp[h2]) (wkl trivial)
 have g1:(Ns[k].f==i)=false:=bqf;refine aue (e8 hc1 a0 n1 (@jK DN V) hw1 hg hlt g1) ?_;exact fin (rA (Ns.take k) i j) _ _ or (by rw[hs];simp[h1]) (wkl trivial)
end Go.Proofs.YtecepaehmojpgaaGreat
namespace Go.Proofs.YtecepaehmojpgaaGreat
open Go.RowKit Go.Sort
attribute [local irreducible] Kp
set_option maxRecDepth 100000 in
set_option maxHeartbeats 4000000 in
theorem ap(o:Own)(l:List Sp)(hl:l.length≤100000)(h:Hp):aY Tryz.prog 16 [.sl (.agg 3) o (l.map Sp.v)] h (lst (.agg 3) (l.map Sp.v)):=by
 refine dB (fun L=>cP (fun L=>bG (fun s=>Sp.aAN s L) _) L) fun h' nx hh=>aF L.g9z fun hd=>?_;simp only[jL,jM,jA,jB,jN,jO,jP,jQ,V.undef];have hd:aI h' nx:=hd;refine aue (@jK Sp V) ?_
 refine aO (fun q:Nat×Own=>aB 19 0 [(3, .sl (.agg 3) q.2 ((l.take q.1).map Sp.v)),(6, .sl (.agg 3) o (l.map Sp.v)),(7, .int .i64 l.length),(8, .int .i64 q.1)])
  (fun q hp nx1=>q.1≤l.length∧nx≤nx1∧aI hp nx1∧Kd nx h' hp∧Acc hp nx q.2 ((l.take q.1).map Sp.v))
  (fun q=>l.length-q.1) (0, .nil) ⟨Km _,KE _,hd,Hp.same.aBG,Acc.nil⟩ (by simp only[WkL,aB,jH,jI,jJ,Ko,Kv,go_sem,reduceIte,jA,jB,jC,jD,reduceCtorEq,jE,jF]) ?_
 rintro⟨i,oo⟩ hp nx1 ⟨hi,hnx,hdm,hsm,aAU⟩;generalize hQ:bH _ _ _ _ _=Q0;dsimp only at hi aAU;simp only[aB,go_sem,reduceIte,jA,jB,jC,jD,reduceCtorEq,jE,jF];rcases Kj i l.length with hlt|hge
 ·have hc1:decide ((i:Int)<(l.length:Int))=true:=dct;have hw1:IntKind.i64.wrap ((i:Int)+1)=((i+1:Nat):Int):=wrp;have hg:(l.map Sp.v).getD i (.tup [])=l[i].v:=bY Sp.v _ l i hlt;have htk:(l.take (i+1)).map Sp.v=(l.take i).map Sp.v++[l[i].v]:=by
   rw[Kg hlt,Kk];rfl
  have hlen:((l.take i).map Sp.v).length=i:=by simp;omega
  have hf:=Sp.aAC l[i];have C1:=fun h=>oD l[i] h;refine aue (e9 hc1 hw1 hg hlt hlen (@jK Sp V) jG htk hf) ?_;rw[←hQ];refine aD (i+1, .tok (nx1+3)) Zw ⟨hlt,ZN,dmo hdm,kv hsm aAU,?_⟩ (by simp only[WkL,aB,jH,jI,jJ,htk,go_sem,reduceIte,jA,jB,jC,jD,reduceCtorEq,jE,jF]);dsimp only;rw[htk];exact Acc.new _ Zm or
 have hc1:decide ((i:Int)<(l.length:Int))=false:=dcf;refine aue hc1 ?_;rw[←hQ];refine au ?_;have htl:l.take i=l:=Kf or;rw[htl] at aAU;refine aG h' (hsm.le hd (Kc _)) ⟨?_,Kc _⟩;simp only[htl,go_sem,reduceIte,jA,jB,jC,jD,reduceCtorEq,jE,jF];rw[aAU.loose];rfl
def iC(l:List Sp):List Cg:=l.map fun s=>⟨s,0⟩
def EU(x:Act):List Cg:=⟨x.aAS,0⟩::iC x.made
def kL(bg:List Sp)(sc:List Act):List Cg:=iC bg++sc.flatMap EU
theorem dt(l:List Sp)(i:Nat)(h:i<l.length):iC (l.take (i+1))=iC (l.take i)++[⟨l[i],0⟩]:=by
 unfold iC;rw[Kg h,Kk];rfl
theorem yk(sc:List Act)(hm:∀x∈sc,x.made.length≤6):(sc.flatMap EU).length≤7*sc.length:=by
 induction sc with
 |nil=>simp
 |cons x sc ih=>
  have h1:=ih fun y hy=>hm y (List.mem_cons_of_mem x hy);have h2:=hm x Zm;simp only[List.flatMap_cons,Kq,jL,EU,iC,jK];omega
set_option maxRecDepth 100000 in
set_option maxHeartbeats 8000000 in
theorem AL(ob os:Own)(bg:List Sp)(sc:List Act)(hb:bg.length≤10)(hs:sc.length≤30)(hm:∀x∈sc,x.made.length≤6)(h:Hp):aY Tryz.prog 32 [.sl (.agg 3) ob (bg.map Sp.v), .sl (.agg 7) os (sc.map Act.v)] h (lst (.agg 4) ((kL bg sc).map Ka)):=by
 refine dB (fun L=>cP (fun L=>bG (Kh L) _) L) fun h' nx hh=>aF L.aYv fun hd=>?_;simp only[jL,jM,jA,jB,jN,jO,jP,jQ,V.undef];have hd:aI h' nx:=hd;refine aue (@jK Sp V) ?_
 refine aO (fun q:Nat×Own=>aB 51 0 [(1, .sl (.agg 7) os (sc.map Act.v)),(5,cgs q.2 (iC (bg.take q.1))),(12, .sl (.agg 3) ob (bg.map Sp.v)),(13, .int .i64 bg.length),(14, .int .i64 q.1)])
  (fun q hp nx1=>q.1≤bg.length∧nx≤nx1∧aI hp nx1∧Kd nx h' hp∧Acc hp nx q.2 ((iC (bg.take q.1)).map Ka))
  (fun q=>bg.length-q.1) (0, .nil) ⟨Km _,KE _,hd,Hp.same.aBG,Acc.nil⟩ (by simp only[WkL,aB,jH,jI,jJ,cgs,Ko,show iC []=[] from rfl,Kv,go_sem,reduceIte,jA,jB,jC,jD,reduceCtorEq,jE,jF]) ?_
 rintro⟨i,oo⟩ hp nx1 ⟨hi,hnx,hdm,hsm,aAU⟩;generalize hQ:bH _ _ _ _ _=Q0;dsimp only at hi aAU;simp only[aB,cgs,go_sem,reduceIte,jA,jB,jC,jD,reduceCtorEq,jE,jF];have hzl:∀l:List Sp,(iC l).length=l.length:=fun l=>by simp[iC]
 rcases Kj i bg.length with hlt|hge;case inl=>
  have hc1:decide ((i:Int)<(bg.length:Int))=true:=dct;have hw1:IntKind.i64.wrap ((i:Int)+1)=((i+1:Nat):Int):=wrp;have hg:(bg.map Sp.v).getD i (.tup [])= .agg [.int .i64 bg[i].p, .int .i64 bg[i].t.e, .int .i64 bg[i].t.r]:=bY Sp.v _ bg i hlt;have htk:(iC (bg.take (i+1))).map Ka=(iC (bg.take i)).map Ka++[.agg [.int .i64 bg[i].p, .int .i64 bg[i].t.e, .int .i64 bg[i].t.r, .int .i64 0]]:=by
   rw[dt bg i hlt,Kk];rfl
  have hlen:((iC (bg.take i)).map Ka).length=i:=by simp[hzl];omega
  refine aue (e8 hc1 hw1 hg hlt hlen (@jK Sp V) jG htk) ?_;rw[←hQ];refine aD (i+1, .tok (nx1+3)) Zw ⟨hlt,ZN,dmo hdm,kv hsm aAU,?_⟩ (by simp only[WkL,aB,jH,jI,jJ,cgs,htk,go_sem,reduceIte,jA,jB,jC,jD,reduceCtorEq,jE,jF]);dsimp only;rw[htk];exact Acc.new _ Zm or
 have hc1:decide ((i:Int)<(bg.length:Int))=false:=dcf;have htl:bg.take i=bg:=Kf or;rw[htl] at aAU;refine aue hc1 ?_;rw[←hQ];clear hQ Q0 hge hi;simp only[htl];refine aue (@jK Act V) ?_
 refine aO (fun q:Nat×Own=>aB 51 0 [(5,cgs q.2 (kL bg (sc.take q.1))),(24, .sl (.agg 7) os (sc.map Act.v)),(25, .int .i64 sc.length),(26, .int .i64 q.1)])
  (fun q hp nx1=>q.1≤sc.length∧nx≤nx1∧aI hp nx1∧Kd nx h' hp∧Acc hp nx q.2 ((kL bg (sc.take q.1)).map Ka))
  (fun q=>sc.length-q.1) (0,oo) ⟨Km _,ZN,dmo hdm,hsm,?_⟩ (by simp only[WkL,aB,jH,jI,jJ,cgs,Ko,show kL bg []=iC bg from Kz _,go_sem,reduceIte,jA,jB,jC,jD,reduceCtorEq,jE,jF]) ?_
 ·show Acc hp nx oo ((kL bg []).map Ka);rw[show kL bg []=iC bg from Kz _];exact aAU
 clear aAU;rintro⟨i2,oo⟩ hp nx1 ⟨hi,hnx,hdm,hsm,aAU⟩;generalize hQ:bH _ _ _ _ _=Q0;dsimp only at hi aAU;simp only[aB,cgs,go_sem,reduceIte,jA,jB,jC,jD,reduceCtorEq,jE,jF];rcases Kj i2 sc.length with hlt|hge;case inr=>
  have hc1:decide ((i2:Int)<(sc.length:Int))=false:=dcf;refine aue hc1 ?_;rw[←hQ];refine au ?_;have htl:sc.take i2=sc:=Kf or;rw[htl] at aAU;refine aG h' (hsm.le hd (Kc _)) ⟨?_,Kc _⟩;simp only[htl,go_sem,reduceIte,jA,jB,jC,jD,reduceCtorEq,jE,jF];rw[aAU.loose];rfl
 have hc1:decide ((i2:Int)<(sc.length:Int))=true:=dct;have hw1:IntKind.i64.wrap ((i2:Int)+1)=((i2+1:Nat):Int):=wrp;obtain⟨x,hx⟩:∃x,x=sc[i2]:=⟨_,rfl⟩;have hg:(sc.map Act.v).getD i2 (.tup [])= .agg [.bool x.dl, .int .i64 x.a, .int .i64 x.b, .int .i64 x.aAS.p, .int .i64 x.aAS.t.e, .int .i64 x.aAS.t.r, .sl (.agg 3) x.o (x.made.map Sp.v)]:=by rw[hx];exact bY Act.v _ sc i2 hlt
 have hx6:x.made.length≤6:=by rw[hx];exact hm _ (Ku hlt)
 have aBh:kL bg (sc.take (i2+1))=kL bg (sc.take i2)++EU x:=by
  unfold kL;rw[Kg hlt,List.flatMap_append,←hx,Kw];simp
 clear hx;obtain⟨B,hB⟩:∃B,B=kL bg (sc.take i2):=⟨_,rfl⟩;have hBl:B.length≤300:=by
  rw[hB];unfold kL;rw[Kq,hzl];have:=yk (sc.take i2) fun y hy=>hm y (List.mem_of_mem_take hy);have:(sc.take i2).length≤30:=by simp;omega
  omega
 rw[←hB] at aAU aBh⊢;have hBm:(B.map Ka).length≤300:=by rw[jK];exact hBl
 have hB2:(B.length+1)*32≤140737488355328:=or;obtain⟨dl,a,b,aAS,om,made⟩:=x;dsimp only at hg hx6 aBh;have hdo:∀H:Hp,H.aAb oo nx1=H nx1:=fun H=>by
  rcases aAU with⟨_,rfl⟩|⟨_,id,_,rfl,hid⟩
  ·rfl
  have:=hdm _ _ hid;show H.del id nx1=H nx1;unfold Ke;rw[if_neg or]
 refine aue (e8 hc1 hg hlt (@jK Act V) (@jK Sp V) (@jK Cg V) hB2 hdo) ?_;have aJF:Kd nx h' (((((hp.set nx1 (.arr (.agg 7) [.agg [.bool false, .int .i64 0, .int .i64 0, .int .i64 0, .int .i64 0, .int .i64 0, .sl (.agg 3) .nil []]])).set nx1 (.arr (.agg 7) [.agg [.bool dl, .int .i64 a, .int .i64 b, .int .i64 aAS.p, .int .i64 aAS.t.e, .int .i64 aAS.t.r, .sl (.agg 3) om (made.map Sp.v)]])).set (nx1+2) .tip).aAb oo).set (nx1+3) .tip):=kv hsm aAU;have hd0:aI (((((hp.set nx1 (.arr (.agg 7) [.agg [.bool false, .int .i64 0, .int .i64 0, .int .i64 0, .int .i64 0, .int .i64 0, .sl (.agg 3) .nil []]])).set nx1 (.arr (.agg 7) [.agg [.bool dl, .int .i64 a, .int .i64 b, .int .i64 aAS.p, .int .i64 aAS.t.e, .int .i64 aAS.t.r, .sl (.agg 3) om (made.map Sp.v)]])).set (nx1+2) .tip).aAb oo).set (nx1+3) .tip) (nx1+4):=dmo hdm;have aIV:Acc (((((hp.set nx1 (.arr (.agg 7) [.agg [.bool false, .int .i64 0, .int .i64 0, .int .i64 0, .int .i64 0, .int .i64 0, .sl (.agg 3) .nil []]])).set nx1 (.arr (.agg 7) [.agg [.bool dl, .int .i64 a, .int .i64 b, .int .i64 aAS.p, .int .i64 aAS.t.e, .int .i64 aAS.t.r, .sl (.agg 3) om (made.map Sp.v)]])).set (nx1+2) .tip).aAb oo).set (nx1+3) .tip) nx (.tok (nx1+3)) ((B++[(⟨aAS,0⟩:Cg)]).map Ka):=Acc.new _ Zm or;generalize hH:Kb _ (nx1+3) _=A at aJF hd0 aIV⊢;clear hH hdo aAU hdm hsm;have hmz:∀j,(iC (made.take j)).length≤6:=fun j=>by rw[hzl];simp;omega
 refine aO (fun q:Nat×Own=>aB 51 0 [(5,cgs q.2 (B++⟨aAS,0⟩::iC (made.take q.1))),(24, .sl (.agg 7) os (sc.map Act.v)),(25, .int .i64 sc.length),(26, .int .i64 i2),(37, .sl (.agg 3) om (made.map Sp.v)),(38, .int .i64 made.length),(39, .int .i64 q.1)])
  (fun q hp2 nx2=>q.1≤made.length∧nx1+4≤nx2∧aI hp2 nx2∧Kd nx h' hp2∧Acc hp2 nx q.2 ((B++⟨aAS,0⟩::iC (made.take q.1)).map Ka))
  (fun q=>made.length-q.1) (0, .tok (nx1+3)) ⟨Km _,ZN,hd0.up ZN,aJF,aIV⟩ (by simp only[WkL,aB,jH,jI,jJ,cgs,Ko,show iC []=[] from rfl,Kk,List.map_cons,Kv,Ka,go_sem,reduceIte,jA,jB,jC,jD,reduceCtorEq,jE,jF]) ?_
 clear aJF hd0 aIV;rintro⟨j,oj⟩ hp2 nx2 ⟨hj,aBs,hdm,hsm,aAU⟩;generalize hQ2:bH _ _ _ _ _=Q2;dsimp only at hj aAU;simp only[aB,cgs,go_sem,reduceIte,jA,jB,jC,jD,reduceCtorEq,jE,jF];obtain⟨E,hE⟩:∃E,E=B++⟨aAS,0⟩::iC (made.take j):=⟨_,rfl⟩;have hEl:E.length≤400:=by rw[hE,Kq,jL];have:=hmz j;omega
 have hE2:(E.length+1)*32≤140737488355328:=or;rw[←hE] at aAU⊢;rcases Kj j made.length with aDn|aDA;case inr=>
  have hc2:decide ((j:Int)<(made.length:Int))=false:=dcf;refine aue hc2 ?_;rw[←hQ2];refine aue hw1 ?_;rw[←hQ];have hEn:E=kL bg (sc.take (i2+1)):=by rw[hE,aBh,Kf aDA];rfl
  rw[hEn] at aAU⊢;exact aD (i2+1,oj) Zw ⟨hlt,ZN,hdm.up ZN,hsm,aAU⟩ (by simp only[WkL,aB,jH,jI,jJ,cgs,go_sem,reduceIte,jA,jB,jC,jD,reduceCtorEq,jE,jF])
 have hc2:decide ((j:Int)<(made.length:Int))=true:=dct;have hw2:IntKind.i64.wrap ((j:Int)+1)=((j+1:Nat):Int):=wrp;have hg2:(made.map Sp.v).getD j (.tup [])= .agg [.int .i64 made[j].p, .int .i64 made[j].t.e, .int .i64 made[j].t.r]:=bY Sp.v _ made j aDn;have htk:(B++⟨aAS,0⟩::iC (made.take (j+1))).map Ka=E.map Ka++[.agg [.int .i64 made[j].p, .int .i64 made[j].t.e, .int .i64 made[j].t.r, .int .i64 0]]:=by
  rw[hE,dt made j aDn,←jP,←Kw,Kk (l₁:=B++_)];rfl
 refine aue (e8 hc2 hw2 hg2 aDn (@jK Sp V) (@jK Cg V) hE2 jG) ?_;rw[←hQ2];refine aD (j+1, .tok (nx2+3)) Zw ⟨aDn,ZN,dmo hdm,kv hsm aAU,?_⟩ (by simp only[WkL,aB,jH,jI,jJ,cgs,htk,go_sem,reduceIte,jA,jB,jC,jD,reduceCtorEq,jE,jF]);dsimp only;rw[htk];exact Acc.new _ Zm or
theorem sa{h:Hp}{n0 nx n:Nat}{o:Own}{es:List V}(ha:Acc h n0 o es)(hd:aI h nx)(hn:nx≤n∨h n≠some .tip)(H:Hp):H.aAb o n=H n:=by
 rcases ha with⟨_,rfl⟩|⟨_,id,_,rfl,hid⟩
 ·rfl
 have:=hd _ _ hid;show H.del id n=H n;unfold Ke;rw[if_neg];rintro rfl;rcases hn with h|h
 ·omega
 exact h hid
theorem rY{t u n:Nat}{k:Sh}{x:V}{R:V→Hp→Nat→Prop}{s:St}(hx:s.sl.getD t V.undef= .ptr n k 0 0)(hn:s.h n=some (.arr k [x]))(hf:x.fits k=true)(h':Hp)(hle:h'.le s.h)(hR:R (.tup [x,s.sl.getD u V.undef]) h' s.nx):iB [.cell t k, .slot u] R .ret s:=by
 simp only[iB,qE,pX.sem,bR.sem,aP.ev,hx,hn];refine⟨trivial,Zm,gF k,h',hle,?_⟩;rw[List.getD_cons_zero,gZ hf];exact hR
def fj(P:Int)(ws:List Wy)(N:Nat)(bg:List Sp):DW:=⟨P,ws,(bP P [] (bX bg 1)).1,Ki N (bP P [] (bX bg 1)).1,[]⟩
noncomputable def rI(om:Own)(P:Int)(ws:List Wy)(N:Nat)(bg:List Sp):V:=if gI P ws=true∧(bP P [] (bX bg 1)).2=0 then (fj P ws N bg).v om .nil else dw0
noncomputable def wW(P:Int)(ws:List Wy)(bg:List Sp):Int:=if gI P ws=true then (bP P [] (bX bg 1)).2 else 2
theorem Cm(L:Nat→Prop):dw0.names L:=by simp[dw0,V.names,bU]
set_option maxRecDepth 100000 in
set_option maxHeartbeats 8000000 in
theorem um(om ob:Own)(hom:om= .nil∨om= .free)(P:Int)(ws:List Wy)(hl:ws.length≤1000)(N:Nat)(hN:1≤N∧N≤17)(bg:List Sp)(hb:bg.length≤1000)(h:Hp):
 aY Tryz.prog 15 [mps om P ws, .int .i64 N, .sl (.agg 3) ob (bg.map Sp.v)] h (.tup [rI om P ws N bg, .int .i64 (wW P ws bg)]):=by
 have hmf:(mps om P ws).fits (.agg 2)=true:=by simp[mps,V.fits,V.aAD,wys]
 have hmn:∀n,om≠ .tok n:=fun n e=>by rcases hom with h|h<;>(rw[h] at e;cases e)
 refine kQ (fun L=>?_) fun h' nx hh=>aF L.g8z fun hd=>?_
 ·simp only[V.names,bU,and_true];unfold rI;split
  ·exact DW.names om .nil hmn (fun n e=>by cases e) _ L
  exact Cm L
 simp only[jL,jM,jA,jB,jN,jO,jP,jQ,V.undef];have hd:aI h' nx:=hd;have C1:=fun h=>fM om P ws hl h;cases hR:gI P ws with
 |false=>
  rw[hR] at C1;refine aue hmf ?_;refine rY (n:=nx+1) (x:=dw0) rfl (by simp only[go_sem,reduceIte,jA,jB,jC,jD,reduceCtorEq,jE,jF];rfl) rfl h' (leo hd) ⟨?_,Kc _⟩;unfold rI wW;rw[hR];rfl
 |true=>
 rw[hR] at C1;have g1:decide ((N:Int)<1)=false:=dcf;have g2:decide ((N:Int)>17)=false:=dcf;have hmz:(mps om P ws).cells=[.int .i64 P,wys om ws]:=rfl;refine aue (e4 hmf g1 g2 hmz) ?_;generalize hH:Kb _ _ _=A;have hz:V.agg [.int .i64 0, .sl (.agg 4) .nil [], .sl (.agg 4) .nil [], .sl .leaf .nil [], .sl (.agg 3) .nil []]=dw0:=rfl;have a0:A nx=some (.arr (.agg 2) [mps om P ws]):=by rw[←hH];simp only[go_sem,reduceIte,jA,jB,jC,jD,reduceCtorEq,jE,jF]
 have a1:A (nx+1)=some (.arr (.agg 5) [dw0]):=by rw[←hH];simp only[go_sem,reduceIte,jA,jB,jC,jD,reduceCtorEq,jE,jF];rfl
 have a2:A (nx+2)=some (.arr (.agg 5) [.agg [.int .i64 P,wys om ws, .sl (.agg 4) .nil [], .sl .leaf .nil [], .sl (.agg 3) .nil []]]):=by rw[←hH];simp only[go_sem,reduceIte,jA,jB,jC,jD,reduceCtorEq,jE,jF]
 have hkA:Kd nx h' A:=by rw[←hH];exact kep Hp.same.aBG
 have hdA:∀n,nx+3≤n→aI A n:=fun n hn=>by rw[←hH];exact dmo hd
 clear hH
 refine aO (fun q:Nat×Own=>aB 65 0 [(1, .int .i64 N),(2, .sl (.agg 3) ob (bg.map Sp.v)),(3, .ptr nx (.agg 2) 0 0),(6, .ptr (nx+1) (.agg 5) 0 0),(7, .int .i64 0),(8, .ptr (nx+2) (.agg 5) 0 0),(9,cgs q.2 ((bX bg 1).take q.1)),(10, .int .i64 q.1)])
  (fun q hp nx1=>q.1≤bg.length∧nx+3≤nx1∧aI hp nx1∧Kd (nx+3) A hp∧Acc hp (nx+3) q.2 (((bX bg 1).take q.1).map Ka))
  (fun q=>bg.length-q.1) (0, .nil) ⟨Km _,ZN,hdA _ ZN,Hp.same.aBG,Acc.nil⟩ (by simp only[WkL,aB,jH,jI,jJ,cgs,Ko,Kv,go_sem,reduceIte,jA,jB,jC,jD,reduceCtorEq,jE,jF]) ?_
 rintro⟨i,oo⟩ hp nx1 ⟨hi,hnx,hdm,hsm,aAU⟩;generalize hQ:bH _ _ _ _ _=Q0;dsimp only at hi aAU;simp only[aB,cgs,go_sem,reduceIte,jA,jB,jC,jD,reduceCtorEq,jE,jF];have hnl:(bX bg 1).length=bg.length:=by simp[bX]
 rcases Kj i bg.length with hlt|hge;case inl=>
  have hc1:decide ((i:Int)<(bg.length:Int))=true:=dct;have hw1:IntKind.i64.wrap ((i:Int)+1)=((i+1:Nat):Int):=wrp;have hg:(bg.map Sp.v).getD i (.tup [])= .agg [.int .i64 bg[i].p, .int .i64 bg[i].t.e, .int .i64 bg[i].t.r]:=bY Sp.v _ bg i hlt;have htk:((bX bg 1).take (i+1)).map Ka=((bX bg 1).take i).map Ka++[.agg [.int .i64 bg[i].p, .int .i64 bg[i].t.e, .int .i64 bg[i].t.r, .int .i64 1]]:=by
   rw[Kg or,Kk];simp[bX,Ka]
  have hlen:(((bX bg 1).take i).map Ka).length=i:=by simp[hnl];omega
  refine aue (e8 hc1 hw1 hg hlt hlen (@jK Sp V) jG htk) ?_;rw[←hQ];refine aD (i+1, .tok (nx1+1)) Zw ⟨hlt,ZN,dmo hdm,kv hsm aAU,?_⟩ (by simp only[WkL,aB,jH,jI,jJ,cgs,htk,go_sem,reduceIte,jA,jB,jC,jD,reduceCtorEq,jE,jF]);dsimp only;rw[htk];exact Acc.new _ Zm or
 have hc1:decide ((i:Int)<(bg.length:Int))=false:=dcf;have htl:(bX bg 1).take i=bX bg 1:=Kf or;have C2:∀h,aY Tryz.prog 50 [mps om P ws, .sl (.agg 4) .nil [],cgs oo (bX bg 1)] h (.tup [lst (.agg 4) ((bP P [] (bX bg 1)).1.map Ka), .int .i64 (bP P [] (bX bg 1)).2]):=fun h=>oA om .nil oo P ws [] (bX bg 1) Zm or rfl h;have b0:hp nx=some (.arr (.agg 2) [mps om P ws]):=(hsm _ or).trans a0;have b1:hp (nx+1)=some (.arr (.agg 5) [dw0]):=(hsm _ or).trans a1;have b2:hp (nx+2)=some (.arr (.agg 5) [.agg [.int .i64 P,wys om ws, .sl (.agg 4) .nil [], .sl .leaf .nil [], .sl (.agg 3) .nil []]]):=(hsm _ or).trans a2;have hle:h'.le hp:=fun x b hx=>by rw[hsm x (by have:=hd x b hx;omega),hkA x (hd x b hx)];exact hx
 have n0:nx<nx1:=or;have n1:nx+1<nx1:=or;have n2:nx+2<nx1:=or;have hdf:dw0.fits (.agg 5)=true:=rfl;simp only[htl];by_cases h0:(bP P [] (bX bg 1)).2=0;case neg=>
  have g3:((bP P [] (bX bg 1)).2 != 0)=true:=bnt;refine aue (e8 hc1 b0 b1 n0 n1 hmf g3 hdf) ?_;rw[←hQ];refine aue (e8 hc1 b0 b1 n0 n1 hmf g3 hdf) ?_;refine rY (n:=nx+1) (x:=dw0) rfl (by simp only[go_sem,reduceIte,jA,jB,jC,jD,reduceCtorEq,jE,jF];rfl) rfl h' (lef hd hle) ⟨?_,?_⟩
  ·unfold rI wW;rw[hR,if_neg (fun e=>h0 e.2)];rfl
  exact Kc _
 have g3:((0:Int) != 0)=false:=rfl;obtain⟨T,hT⟩:∃T,T=(bP P [] (bX bg 1)).1:=⟨_,rfl⟩;rw[h0,←hT] at C2;rw[lM] at C2;refine aue (e9 hc1 b0 b1 b2 n0 n1 n2 hmf g3) ?_;rw[←hQ];refine aue (e9 hc1 b0 b1 b2 n0 n1 n2 hmf g3) ?_;obtain⟨tv,htv⟩:∃tv,tv=V.sl (.agg 4) (cO T) (T.map Ka):=⟨_,rfl⟩;have aWB:tv.aAD=true:=by rw[htv];rfl
 rw[←htv];clear hQ Q0 C1 C2;obtain⟨W,hW⟩:∃W:Nat→Own→V,∀k o,W k o= .agg [.int .i64 P,wys om ws,tv, .sl .leaf o (Ki k tv), .sl (.agg 3) .nil []]:=⟨_,fun _ _=>rfl⟩
 refine aO (fun q:Nat×Own=>aB 65 0 [(1, .int .i64 N),(6, .ptr (nx+1) (.agg 5) 0 0),(7, .int .i64 0),(8, .ptr (nx+2) (.agg 5) 0 0),(11,tv),(13, .int .i64 q.1)])
  (fun q hp2 nx2=>q.1≤N∧nx1≤nx2∧aI hp2 nx2∧Kd nx h' hp2∧hp2 (nx+1)=some (.arr (.agg 5) [dw0])∧hp2 (nx+2)=some (.arr (.agg 5) [W q.1 q.2])∧Acc hp2 nx1 q.2 (Ki q.1 tv))
  (fun q=>N-q.1) (0, .nil) ⟨Km _,ZN,dmo hdm,?_,?_,?_,Acc.nil⟩ (wkl trivial) ?_
 ·exact kep (show Kd nx h' hp from fun x hx=>by rw[hsm x or];exact hkA x hx)
 ·simp only[go_sem,reduceIte,jA,jB,jC,jD,reduceCtorEq,jE,jF];exact b1
 ·simp only[go_sem,reduceIte,jA,jB,jC,jD,reduceCtorEq,jE,jF];rw[hW];rfl
 clear aAU hsm hdm;rintro⟨k,ov⟩ hp2 nx2 ⟨hk,aBs,hdm,hsm,w1,w2,aAU⟩;generalize hQ:bH _ _ _ _ _=Q0;dsimp only at hk aAU w2;rw[hW] at w2;simp only[aB,go_sem,reduceIte,jA,jB,jC,jD,reduceCtorEq,jE,jF];have m1:nx+1<nx2:=or;have m2:nx+2<nx2:=or;rcases Kj k N with hlt|aDA;case inr=>
  have hc2:decide ((k:Int)<(N:Int))=false:=dcf;refine aue (e6 hc2 w1 w2 m1 m2 hdf) ?_;rw[←hQ];refine aue (e6 hc2 w1 w2 m1 m2 hdf) ?_;have hkN:k=N:=or;subst hkN;obtain⟨id,rfl⟩:∃id,ov= .tok id:=by
   rcases aAU with⟨he,_⟩|⟨_,id,_,e,_⟩
   ·have:=congrArg Kx he;simp at this;omega
   exact⟨id,e⟩
  refine rY (n:=nx+1) (x:= .agg [.int .i64 P,wys om ws,tv, .sl .leaf (.tok id) (Ki k tv), .sl (.agg 3) .nil []]) rfl ?_ ?_ h' (lef hd (hsm.le hd (Kc _))) ⟨?_,Kc _⟩
  ·refine Zn ?_;rw[cD hdf (by rw[htv];rfl)]
  ·rw[htv];rfl
  have hv:rI om P ws k bg= .agg [.int .i64 P,wys om ws,tv, .sl .leaf .free (Ki k tv), .sl (.agg 3) .nil []]:=by
   unfold rI;rw[if_pos ⟨hR,h0⟩];unfold fj DW.v DW.vo;rw[←hT];have e1:(Ki k T).map vwV=Ki k tv:=by rw[List.map_replicate,htv,←lM];rfl
   have e2:cO (Ki k T)= .free:=by
    cases k with
    |zero=>omega
    |succ k=>rfl
   dsimp only;rw[e1,e2,htv];rfl
  have he:wW P ws bg=0:=by unfold wW;rw[hR,if_pos rfl,h0]
  rw[hv,he];have l1:tv.loose=tv:=by rw[htv];unfold cO;split<;>rfl
  rw[htv];unfold cO;rcases hom with rfl|rfl<;>(split<;>rfl)
 have hc2:decide ((k:Int)<(N:Int))=true:=dct;have hw2:IntKind.i64.wrap ((k:Int)+1)=((k+1:Nat):Int):=wrp;have hdo:=sa aAU hdm (n:=nx+2) (.inr (by rw[w2];exact fun e=>by cases e));have hrl:(Ki k tv).length=k:=List.length_replicate;have hrn:Ki (k+1) tv=Ki k tv++[tv]:=List.replicate_succ';refine aue (e8 hc2 hw2 w2 m2 hdo hrl aWB hrn) ?_;rw[←hQ];have aWj:=sa aAU hdm (n:=nx+1) (.inr (by rw[w1];exact fun e=>by cases e));refine aD (k+1, .tok (nx2+1)) Zw ⟨hlt,ZN,dmo hdm,kv hsm aAU,?_,?_,?_⟩ (wkl trivial)
 ·simp only[Kb];rw[if_neg or,if_neg or,aWj];simp only[Kb];rw[if_neg or];exact w1
 ·dsimp only;rw[hW,hrn];simp only[Kb,if_true]
 dsimp only;rw[hrn];refine Acc.set (Acc.new _ Zm or) ?_ _;simp only[Kb];rw[if_neg or,hdo];simp only[Kb];rw[if_neg or,w2];exact fun e=>by cases e
end Go.Proofs.YtecepaehmojpgaaGreat
namespace Go.Proofs.YtecepaehmojpgaaGreat
open Go.RowKit Go.Sort
attribute [local irreducible] Kp
noncomputable def rmk(P:Int)(ws:List Wy)(s u:Sp):Bool:= !decide (s=u)&&u.t.ok&&(ofT (fO s.t (eA P ws s.p u.p))).any fun x=>x.le u.t
theorem un(om:Own)(P:Int)(ws:List Wy)(hl:ws.length≤1000)(s u:Sp)(h:Hp):aY Tryz.prog 23 [mps om P ws,s.v,u.v] h (.bool (rmk P ws s u)):=by
 have hmf:(mps om P ws).fits (.agg 2)=true:=by simp[mps,V.fits,V.aAD,wys]
 refine aR (fun L=>trivial) fun h' nx hh=>aF L.aY2 fun hd=>?_;simp only[List.length_cons,List.length_nil,Nat.reduceAdd,Nat.reduceSub,List.replicate_succ,List.replicate_zero,List.cons_append,List.nil_append,V.undef];have hsv:s.v= .agg [.int .i64 s.p, .int .i64 s.t.e, .int .i64 s.t.r]:=rfl;have huv:u.v= .agg [.int .i64 u.p, .int .i64 u.t.e, .int .i64 u.t.r]:=rfl;have hsf:=Sp.aAC s;have huf:=Sp.aAC u;have hv:veq (.plain (.agg 3) [.int, .int, .int]) (.agg [.int .i64 s.p, .int .i64 s.t.e, .int .i64 s.t.r]) (.agg [.int .i64 u.p, .int .i64 u.t.e, .int .i64 u.t.r])=some (decide (s=u)):=yV s u;have C1:∀h,aY Tryz.prog 53 [.agg [.int .i64 u.t.e, .int .i64 u.t.r]] h (.bool u.t.ok):=fun h=>lU u.t h;rw[hsv] at hsf;rw[huv] at huf;rw[hsv,huv];unfold rmk;cases hz:decide (s=u) with
 |true=>
  rw[hz] at hv;refine aue (e6 hmf hsf huf hv Bool.not_true KB) ?_;exact aG h' (leo hd) ⟨rfl,rfl⟩
 |false=>
  rw[hz] at hv;cases hr:u.t.ok with
  |false=>
   rw[hr] at C1;refine aue (e6 hmf hsf huf hv KC KB) ?_;exact aG h' (leo hd) ⟨rfl,rfl⟩
  |true=>
   rw[hr] at C1;obtain⟨oc,hoc⟩:=nG (.agg 2) ((ofT (fO s.t (eA P ws s.p u.p))).map Tm.v);have D1:∀h,aY Tryz.prog 55 [mps om P ws, .int .i64 s.p, .agg [.int .i64 s.t.e, .int .i64 s.t.r], .int .i64 u.p] h (tms oc (ofT (fO s.t (eA P ws s.p u.p)))):=fun h=>by
    have:=ur om P ws hl s.p u.p s.t h;rw[hoc] at this;exact this
   have hcl:(ofT (fO s.t (eA P ws s.p u.p))).length≤1000000:=by
    have h1:=Bc (fO s.t (eA P ws s.p u.p));have h2:=jg s.t (eA P ws s.p u.p);have h3:=ic P ws s.p u.p;omega
   have D2:∀h,aY Tryz.prog 54 [tms oc (ofT (fO s.t (eA P ws s.p u.p))), .agg [.int .i64 u.t.e, .int .i64 u.t.r]] h (.bool ((ofT (fO s.t (eA P ws s.p u.p))).any fun x=>x.le u.t)):=fun h=>j6 oc _ u.t h hcl;refine aue (e5 hmf hsf huf hv KC) ?_;exact aG h' (leo hd) ⟨rfl,rfl⟩
end Go.Proofs.YtecepaehmojpgaaGreat
namespace Go.Proofs.YtecepaehmojpgaaGreat
open Go.RowKit Go.Sort
attribute [local irreducible] Kp
theorem pt{α β:Type}(f:α→β):∀(l:List α) (k:Nat),(l.map f).eraseIdx k=(l.eraseIdx k).map f
 | [],_=>rfl
 |_::_,0=>rfl
 |a::l,k+1=>congrArg (f a:: ·) (pt f l k)
def DN.at'(x:DN)(i j:Int):Bool:=decide (x.f=i)&&decide (x.t=j)
def gB(x:DW)(i j:Int):DW×Int:=if¬(0≤i∧i<x.Vs.length∧0≤j∧j<x.Vs.length∧i≠j) then (x,1) else match x.Ns.findIdx? fun y=>y.at' i j with
 |none=>(x,13)
 |some k=>(⟨x.P,x.ws,x.T,x.Vs.set j.toNat (bP x.P (x.Vs.getD j.toNat []) ((x.Ns.map DN.n).getD k ⟨⟨0,⟨0,0⟩⟩,[]⟩).ds).1,x.Ns.eraseIdx k⟩,0)
structure DW.Ok(x:DW):Prop where
 ws:x.ws.length≤1000
 vl:x.Vs.length≤100
 vs:∀C∈x.Vs,C.length≤10000
 tl:x.T.length≤10000
 nl:x.Ns.length≤10000
 ns:∀y∈x.Ns,y.n.made.length≤9000
set_option maxRecDepth 100000 in
set_option maxHeartbeats 8000000 in
theorem j8(om oN:Own)(hom:om= .nil∨om= .free)(hoN:oN= .nil∨oN= .free)(x:DW)(hx:x.Ok)(i j:Int)(h:Hp):
 aY Tryz.prog 29 [x.v om oN, .int .i64 i, .int .i64 j] h (.tup [(gB x i j).1.v om (if (gB x i j).2=0 then .free else oN), .int .i64 (gB x i j).2]):=by
 have hmn:∀n,om≠ .tok n:=fun n e=>by rcases hom with h|h<;>(rw[h] at e;cases e)
 refine kQ (fun L=>?_) fun h' nx hh=>aF L.aYy fun hd=>?_
 ·have hnn:∀n,(if (gB x i j).2=0 then Own.free else oN)≠ .tok n:=fun n e=>by
   split at e
   ·cases e
   rcases hoN with h|h<;>(rw[h] at e;cases e)
  have:=DW.names om _ hmn hnn (gB x i j).1 L;simp[V.names,bU,this]
 simp only[jL,jM,jA,jB,jN,jO,jP,jQ,V.undef];have hd:aI h' nx:=hd;have hwf:V.fits (.agg 5) (x.v om oN)=true:=rfl;have hlo:(x.v om oN).loose=x.v om oN:=by
  unfold DW.v DW.vo cO;rcases hom with rfl|rfl<;>rcases hoN with rfl|rfl<;>((repeat' split)<;>rfl)
 have hz:dw0=V.agg [.int .i64 0, .sl (.agg 4) .nil [], .sl (.agg 4) .nil [], .sl .leaf .nil [], .sl (.agg 3) .nil []]:=rfl;have hxv:x.v om oN= .agg [.int .i64 x.P,wys om x.ws, .sl (.agg 4) (cO x.T) (x.T.map Ka), .sl .leaf (cO x.Vs) (x.Vs.map vwV), .sl (.agg 3) oN (x.Ns.map DN.v)]:=rfl;have hvl:(x.Vs.map vwV).length=x.Vs.length:=jK ..;have bad:∀{e:Int} {hp:Hp} {sl:List V} {n2:Nat},gB x i j=(x,e)→e≠0→h'.le hp→hp (nx+1)=some (.arr (.agg 5) [x.v om oN])→sl.getD 6 V.undef= .ptr (nx+1) (.agg 5) 0 0→sl.getD 7 V.undef= .int .i64 e→iB [pX.cell 6 (.agg 5),pX.slot 7] (fun v' h'' _=>v'.aBK= .tup [(gB x i j).1.v om (if (gB x i j).2=0 then .free else oN), .int .i64 (gB x i j).2]∧h'.le h'') .ret ⟨sl,hp,n2⟩:=fun e1 e0 hle e2 e3 e4=>
  rY (n:=nx+1) (x:=x.v om oN) e3 e2 hwf h' hle ⟨by rw[e1,e4,if_neg e0];show V.tup [(x.v om oN).loose,_]=_;rw[hlo];rfl,Kc _⟩
 have hnl:=hx.nl;have aVR:=hx.vl;have aB0:V.fits (.agg 5) (.agg [.int .i64 x.P,wys om x.ws, .sl (.agg 4) (cO x.T) (x.T.map Ka), .sl .leaf (cO x.Vs) (x.Vs.map vwV), .sl (.agg 3) oN (x.Ns.map DN.v)])=true:=rfl;rw[hxv];by_cases hb:0≤i∧i<x.Vs.length∧0≤j∧j<x.Vs.length∧i≠j;case neg=>
  have hw:gB x i j=(x,1):=by unfold gB;rw[if_pos hb]
  by_cases h1:i<0
  ·have g1:decide (i<0)=true:=dct;refine aue (e3 aB0 g1 hvl) ?_;exact bad hw ZM (leo hd) (by simp only[go_sem,reduceIte,jA,jB,jC,jD,reduceCtorEq,jE,jF];rfl) rfl rfl
  have g1:decide (i<0)=false:=dcf;by_cases h2:j<0
  ·have g2:decide (j<0)=true:=dct;refine aue (e4 aB0 g1 g2 hvl) ?_;exact bad hw ZM (leo hd) (by simp only[go_sem,reduceIte,jA,jB,jC,jD,reduceCtorEq,jE,jF];rfl) rfl rfl
  have g2:decide (j<0)=false:=dcf;by_cases h3:i≥x.Vs.length
  ·have g3:decide (i≥(x.Vs.length:Int))=true:=dct;refine aue (e5 aB0 g1 g2 g3 hvl) ?_;exact bad hw ZM (leo hd) (by simp only[go_sem,reduceIte,jA,jB,jC,jD,reduceCtorEq,jE,jF];rfl) rfl rfl
  have g3:decide (i≥(x.Vs.length:Int))=false:=dcf;by_cases h4:j≥x.Vs.length
  ·have g4:decide (j≥(x.Vs.length:Int))=true:=dct;refine aue (e6 aB0 g1 g2 g3 g4 hvl) ?_;exact bad hw ZM (leo hd) (by simp only[go_sem,reduceIte,jA,jB,jC,jD,reduceCtorEq,jE,jF];rfl) rfl rfl
  have g4:decide (j≥(x.Vs.length:Int))=false:=dcf;have g5:(i==j)=true:=bqt;refine aue (e7 aB0 g1 g2 g3 g4 g5 hvl) ?_;exact bad hw ZM (leo hd) (by simp only[go_sem,reduceIte,jA,jB,jC,jD,reduceCtorEq,jE,jF];rfl) rfl rfl
 have g1:decide (i<0)=false:=dcf;have g2:decide (j<0)=false:=dcf;have g3:decide (i≥(x.Vs.length:Int))=false:=dcf;have g4:decide (j≥(x.Vs.length:Int))=false:=dcf;have g5:(i==j)=false:=bqf;refine aue (e7 aB0 g1 g2 g3 g4 g5 hvl) ?_;generalize hH:Kb _ _ _=A;have a0:A nx=some (.arr (.agg 5) [.agg [.int .i64 x.P,wys om x.ws, .sl (.agg 4) (cO x.T) (x.T.map Ka), .sl .leaf (cO x.Vs) (x.Vs.map vwV), .sl (.agg 3) oN (x.Ns.map DN.v)]]):=by rw[←hH];simp only[go_sem,reduceIte,jA,jB,jC,jD,reduceCtorEq,jE,jF]
 have a1:A (nx+1)=some (.arr (.agg 5) [dw0]):=by rw[←hH];simp only[go_sem,reduceIte,jA,jB,jC,jD,reduceCtorEq,jE,jF];rfl
 have hle:h'.le A:=by rw[←hH];exact leo hd
 have hdA:aI A (nx+2):=by rw[←hH];exact dmo hd
 clear hH
 refine aO (fun k:Nat=>aB 109 0 [(1, .int .i64 i),(2, .int .i64 j),(3, .ptr nx (.agg 5) 0 0),(6, .ptr (nx+1) (.agg 5) 0 0),(7, .int .i64 0),(8, .int .i64 k)])
  (fun k hp nx1=>k≤x.Ns.length∧nx+2≤nx1∧hp=A∧∀m (hm:m<x.Ns.length),m<k→x.Ns[m].at' i j=false) (fun k=>x.Ns.length-k) 0 ⟨Km _,ZN,rfl,fun m _ h=>absurd h or⟩ (wkl trivial) ?_
 rintro k hp nx1 ⟨hk,hnx,rfl,hno⟩;generalize hQ:bH _ _ _ _ _=Q0;simp only[aB,go_sem,reduceIte,jA,jB,jC,jD,reduceCtorEq,jE,jF];have n0:nx<nx1:=or;have n1:nx+1<nx1:=or;have hdf:dw0.fits (.agg 5)=true:=rfl;rcases Kj k x.Ns.length with hlt|hge;case inr=>
  have hc1:decide ((k:Int)<(x.Ns.length:Int))=false:=dcf;have hw:gB x i j=(x,13):=by
   unfold gB;rw[if_neg (fun h=>h hb),List.findIdx?_eq_none_iff.2 fun y hy=>by
    obtain⟨m,hm,rfl⟩:=List.mem_iff_getElem.1 hy;exact hno m hm or]
  refine aue (e5 hc1 a0 n0 aB0 (@jK DN V)) ?_;rw[←hQ];refine aue (e7 hc1 a0 n0 aB0 a1 n1 hdf) ?_;exact bad hw ZM (lef hd hle) (by simp only[Kb,if_true];rfl) rfl rfl
 have hc1:decide ((k:Int)<(x.Ns.length:Int))=true:=dct;have hw1:IntKind.i64.wrap ((k:Int)+1)=((k+1:Nat):Int):=wrp;obtain⟨y,hy⟩:∃y,y=x.Ns[k]:=⟨_,rfl⟩;have hg:(x.Ns.map DN.v).getD k (.tup [])= .agg [.int .i64 y.f, .int .i64 y.t, .sl (.agg 4) .free (y.n.ds.map Ka)]:=by rw[hy];exact bY DN.v _ x.Ns k hlt
 have next:y.at' i j=false→∀m (hm:m<x.Ns.length),m<k+1→x.Ns[m].at' i j=false:=fun hn m hm hmk=>by
  by_cases e:m=k
  ·subst e;rw[←hy];exact hn
  exact hno m hm or
 by_cases h1:y.f=i;case neg=>
  have b1:(y.f != i)=true:=bnt;refine aue (e8 hc1 a0 n0 (@jK DN V) hg hlt b1 hw1) ?_;rw[←hQ];exact aD (k+1) or ⟨hlt,ZN,rfl,next (by unfold DN.at';rw[decide_eq_false h1];rfl)⟩ (wkl trivial)
 have b1:(y.f != i)=false:=bnf;by_cases h2:y.t=j;case neg=>
  have b2:(y.t != j)=true:=bnt;refine aue (e9 hc1 a0 n0 (@jK DN V) hg hlt b1 b2 hw1) ?_;rw[←hQ];exact aD (k+1) or ⟨hlt,ZN,rfl,next (by unfold DN.at';rw[decide_eq_false h2];simp)⟩ (wkl trivial)
 have b2:(y.t != j)=false:=bnf;have hyt:y.at' i j=true:=by unfold DN.at';rw[decide_eq_true h1,decide_eq_true h2];rfl
 have hfi:x.Ns.findIdx? (fun y=>y.at' i j)=some k:=List.findIdx?_eq_some_iff_getElem.2 ⟨hlt,by rw[←hy];exact hyt,fun m hm=>by rw[hno m or hm];simp⟩;obtain⟨jn,rfl⟩:∃jn:Nat,j=jn:=⟨j.toNat,or⟩;have hjn:jn<x.Vs.length:=or;obtain⟨C,hC⟩:∃C,C=x.Vs[jn]:=⟨_,rfl⟩;have hgv:(x.Vs.map vwV).getD jn (.tup [])= .sl (.agg 4) (cO C) (C.map Ka):=by
  rw[hC,←lM];exact bY vwV _ x.Vs jn hjn
 have hCl:C.length≤10000:=by rw[hC];exact hx.vs _ (Ku hjn)
 have hyl:y.n.ds.length≤10000:=by
  have:=hx.ns y (by rw[hy];exact Ku hlt);simp[Nt.ds];omega
 have hwd:gB x i jn=(⟨x.P,x.ws,x.T,x.Vs.set jn (bP x.P C y.n.ds).1,x.Ns.eraseIdx k⟩,0):=by
  unfold gB;rw[if_neg (fun h=>h hb),hfi];have e1:x.Vs.getD jn []=C:=by rw[hC,Ks,Kt hjn];rfl
  have e2:(x.Ns.map DN.n).getD k ⟨⟨0,⟨0,0⟩⟩,[]⟩=y.n:=by rw[hy,Ks,List.getElem?_map,Kt hlt];rfl
  dsimp only;rw[jG,e1,e2]
 have D1:∀h,aY Tryz.prog 50 [.agg [.int .i64 x.P,wys om x.ws], .sl (.agg 4) (cO C) (C.map Ka), .sl (.agg 4) .free (y.n.ds.map Ka)] h (.tup [lst (.agg 4) ((bP x.P C y.n.ds).1.map Ka), .int .i64 (bP x.P C y.n.ds).2]):=fun h=>oA om (cO C) .free x.P x.ws C y.n.ds hCl hyl (lM ..) h;obtain⟨R,hR⟩:∃R,R=bP x.P C y.n.ds:=⟨_,rfl⟩;rw[←hR] at D1 hwd;have hRf:(lst (.agg 4) (R.1.map Ka)).aAD=true:=pK ..;unfold L.aHa;generalize hR7:aZ.ops L.aHZ=O7;generalize hR8:aZ.ops L.aHY=O8;refine aue (e12 hc1 a0 n0 (@jK DN V) hg hlt b1 b2 hgv hjn jG (@jK (List Cg) V)) ?_;rw[←hR7];clear hR7;refine bL ?_;refine rL Zm ?_;refine Zn ?_;have p0:nx<nx1+19:=or;have hvc:x.Vs.length*24≤140737488355328:=or;have hvn:x.Vs.map vwV≠ []:=fun e=>by
  have:=congrArg Kx e;rw[hvl,jM] at this;omega
 refine aue (e7 a0 p0 hvl hvc hvn (@jK (List Cg) V) KD) ?_;generalize hH:Kb _ (nx1+20) _=B;have b0:B nx=some (.arr (.agg 5) [.agg [.int .i64 x.P,wys om x.ws, .sl (.agg 4) (cO x.T) (x.T.map Ka), .sl .leaf (cO x.Vs) (x.Vs.map vwV), .sl (.agg 3) oN (x.Ns.map DN.v)]]):=by rw[←hH];simp only[Kb,Ke];rw[if_neg or,if_neg or,if_neg or];exact a0
 have b1:B (nx+1)=some (.arr (.agg 5) [dw0]):=by rw[←hH];simp only[Kb,Ke];rw[if_neg or,if_neg or,if_neg or];exact a1
 have b2:B (nx1+20)=some (.arr .leaf (x.Vs.map vwV)):=by rw[←hH];simp only[Kb,if_true]
 have aN1:h'.le B:=fun z b hz=>by
  have:=hd z b hz;rw[←hH];simp only[Kb,Ke];rw[if_neg or,if_neg or,if_neg or];exact hle z b hz
 clear hH;generalize hR3:nW (lwp Tryz.prog (.seq (.draw 13 _ _) _)) _=R3;rw[←hR8];clear hR8;have hgl:((x.Vs.map vwV).getD jn (.tup [])).aAD=true:=by rw[hgv];rfl
 have hsp:bW .leaf 0 ((x.Vs.map vwV).getD jn (.tup [])) (lst (.agg 4) (R.1.map Ka))=vwV R.1:=by rw[hgv];exact cD rfl hRf
 refine aue (e9 b2 hjn hvl hRf hgl hsp KD jG (show nx1+20<nx1+21 by omega)) ?_;rw[←hR3];clear hR3;refine m9 (tt (t:=11) (n:=nx1+20) (k:= .leaf) (off:=0) (len:=x.Vs.length) (es:=(x.Vs.map vwV).set jn (vwV R.1)) rfl (by simp only[Kb,if_true]) Zm) ?_;have htk:(((x.Vs.map vwV).set jn (vwV R.1)).drop 0).take x.Vs.length=(x.Vs.set jn R.1).map vwV:=by
  rw[List.drop_zero,Kf Zm,List.map_set]
 rw[htk];refine Zn ?_;generalize hH:Ke _ (nx1+20)=E;have c0:E nx=some (.arr (.agg 5) [.agg [.int .i64 x.P,wys om x.ws, .sl (.agg 4) (cO x.T) (x.T.map Ka), .sl .leaf (cO x.Vs) (x.Vs.map vwV), .sl (.agg 3) oN (x.Ns.map DN.v)]]):=by rw[←hH];simp only[Kb,Ke];rw[if_neg or,if_neg or];exact b0
 have c1:E (nx+1)=some (.arr (.agg 5) [dw0]):=by rw[←hH];simp only[Kb,Ke];rw[if_neg or,if_neg or];exact b1
 have aWb:h'.le E:=fun z b hz=>by
  have:=hd z b hz;rw[←hH];simp only[Kb,Ke];rw[if_neg or,if_neg or];exact aN1 z b hz
 clear hH;have q0:nx<nx1+23:=or;have q1:nx+1<nx1+23:=or;have hkl:decide ((0:Int)≤(k:Int))=true:=dct;have hnn:(x.Ns.map DN.v).length=x.Ns.length:=jK ..;have hk1:k+1≤x.Ns.length:=hlt;have hkn:((k+1:Nat):Int).toNat=k+1:=jG _;have htN:(x.Ns.map DN.v).take x.Ns.length=x.Ns.map DN.v:=Kf (by rw[hnn];omega);have h40:(((x.Ns.map DN.v).take k).length+((x.Ns.map DN.v).drop (k+1)).length)*40≤140737488355328:=by simp only[Ky,List.length_drop,hnn];omega
 have h41:((x.Ns.map DN.v).take k).length*40≤140737488355328:=by simp only[Ky,hnn];omega
 have ca:iW E (nx1+23) [0,1,2,3,4,5,6,7,8,9,10] [some .tip,none,none,none,none,some .tip,none,none,none,none,none] [none,none,none,none,none,some ⟨nx1+23, .tip,none⟩,none,none,none,none,none] (nx1+28) .tip:=⟨by simp[cS], .inr ⟨5,Zm,rfl,rfl⟩⟩;refine aue (e14 c0 c1 q0 q1 hw1 hnn hk1 hkn hdf aB0 hlt jG htN (e10 h40 h41 ca (show(nx=nx1+23)=False from fls) (show(nx=nx1+28)=False from fls) (show(nx=nx1+34)=False from fls) (show(nx=nx1+22)=False from fls) (show(nx=nx1+27)=False from fls) (show(nx=nx1+33)=False from fls) (show(nx=nx1)=False from fls))) ?_;rw[←hQ];refine au ?_;refine rY (n:=nx+1) (x:= .agg [.int .i64 x.P,wys om x.ws, .sl (.agg 4) (cO x.T) (x.T.map Ka), .sl .leaf .free ((x.Vs.set jn R.1).map vwV), .sl (.agg 3) (.tok (nx1+34)) ((x.Ns.map DN.v).take k++(x.Ns.map DN.v).drop (k+1))]) rfl (by simp only[Kb,if_true]) rfl h' (lef hd aWb) ⟨?_,Kc _⟩;have e1:(x.Ns.map DN.v).take k++(x.Ns.map DN.v).drop (k+1)=(x.Ns.eraseIdx k).map DN.v:=by
  rw[←List.eraseIdx_eq_take_drop_succ,pt]
 have e2:cO (x.Vs.set jn R.1)= .free:=by
  unfold cO;rw[if_neg];rw[List.isEmpty_iff];intro e;have:=congrArg Kx e;rw[List.length_set,jM] at this;omega
 rw[hwd,if_pos rfl,e1];unfold DW.v DW.vo;dsimp only;rw[e2];unfold cO;rcases hom with rfl|rfl<;>(split<;>rfl)
end Go.Proofs.YtecepaehmojpgaaGreat
