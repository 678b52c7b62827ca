/-
Texts of this proof,one behind the other. No conditions.
-/
import Derived.Test.YtjfdoohogiojcaaGreatDoorKd
import Derived.Test.YtjfdoohogiojcaaGreatDoorKr
import Derived.Test.YtjfdoohogiojcaaGreatDoorKo
import Derived.Test.YtjfdoohogiojcaaGreatDoorKp
import Derived.LaidMore
import Derived.Stop.Joined
import Derived.Handed
open List renaming getElem?_eq_getElem→Ka,append_nil→Kb,getElem?_map→Kc,length_map→Kf,getD_eq_getElem?_getD→Kh,getElem_append_left→Ki,length_append→Kj,getElem?_take→Kk,getElem?_drop→Km,length→Kp,mem_map→Kq
open Bool renaming and_eq_true→Kd
open Array renaming getElem?_toList→Ke
open Go.World renaming var?_cell→Kg
open Function renaming comp_def→Ko
open Go renaming undef→Ks
open Nat renaming zero_le→Kt,mul_one→Ku
open Nat renaming reduceAdd→jA,reduceSub→jB,reduceLT→jC,reduceLeDiff→jD,reduceEqDiff→jE
open Int renaming reduceToNat→jF,toNat_natCast→jG,natCast_add→jH,natCast_one→jI,natCast_zero→jJ
open List renaming length_map→jK,length_cons→jL,length_nil→jM,replicate_succ→jN,replicate_zero→jO,cons_append→jP,nil_append→jQ
set_option linter.unusedSimpArgs false
set_option linter.unusedVariables false
set_option linter.unusedSectionVars false
set_option maxHeartbeats 8000000
namespace Go.Proofs.YtjfdoohogiojcaaGreatDoor
open Go.RowKit Go.Sort
attribute [local irreducible] IntKind.wrap
set_option maxHeartbeats 4000000
theorem nq(ls:List (List Vl)):(ls.map fun t=>((.free,t):TR)).map TR.v=lsV ls∧aS (ls.map fun t=>((.free,t):TR))=ls:=by
 constructor
 ·simp only[lsV,List.map_map,Ko];rfl
 simp[aS,Ko]
theorem zb(r:Ru)(ls:List (List Tr)):(rG r ls).1.length≤ls.length∧∀t∈(rG r ls).1,t.length≤6:=by
 obtain⟨h1,h2⟩:=pK r ls;have hg:=pi r.g r.c 6 (eU r ls).1 h2;unfold rG;split
 ·simp
 exact⟨Nat.le_trans hg.2 h1,hg.1⟩
theorem pq{h:Hp}{ms:List V}{ls:List (List Tr)}(he:gP h ms ls){n c:Nat}{es:List ME}{l:List Tr}(hn:h n=some (.mp es c))(hl:pE es l):gP h (ms++[.map n]) (ls++[l]):=by
 obtain⟨h1,h2⟩:=he;refine⟨by simp[h1],fun i q1 q2=>?_⟩;by_cases hi:i<ms.length
 ·obtain⟨n2,es2,c2,r1,r2,r3⟩:=h2 i hi or;refine⟨n2,es2,c2,?_,r2,?_⟩
  ·rw[Ki hi];exact r1
  rw[Ki or];exact r3
 simp only[Kj,jL,jM] at q1;have e:i=ms.length:=or;subst e;refine⟨n,es,c,Zm,hn,?_⟩;simp only[h1];simpa using hl
theorem gP.mono{h h2:Hp}{ms:List V}{ls:List (List Tr)}(he:gP h ms ls)(hk:∀n es c,h n=some (.mp es c)→h2 n=some (.mp es c)):gP h2 ms ls:=⟨he.1,fun i q1 q2=>by
 obtain⟨n,es,c,r1,r2,r3⟩:=he.2 i q1 q2;exact⟨n,es,c,r1,hk _ _ _ r2,r3⟩⟩
set_option maxRecDepth 100000 in
theorem zP(r:Ru)(hr:r.s47)(o:Own)(ls:List TB)(hok:∀p∈ls,∀t∈p.2,t.s47):aO Tryz.prog 3 [r.v,tbs o ls] Hp.none (.bool true):=by
 refine aI (fun L=>trivial) fun h' nx hh=>aB L.g0z fun hd=>?_;have C1:=fun h=>gw h;have C2:=fun h=>om r hr h;have aKg:0≤bl r→r.few:=wv hr;generalize bl r=N at C2 aKg;have hv:r.v= .agg [.str r.h.r, .sl (.agg 4) r.h.o (r.h.l.map Tr.v), .int .i64 r.g, .int .i64 r.c, .sl (.agg 17) r.o (r.b.map Li.v), .int .i64 r.at_]:=rfl;obtain⟨RV,hRV⟩:∃RV,[V.str r.h.r, .sl (.agg 4) r.h.o (r.h.l.map Tr.v), .int .i64 r.g, .int .i64 r.c, .sl (.agg 17) r.o (r.b.map Li.v), .int .i64 r.at_]=RV:=⟨_,rfl⟩;rw[hRV] at hv;have hvf:(V.agg RV).fits (.agg 6)=true:=by rw[←hRV];rfl
 rw[hv] at C2⊢;simp only[jL,jM,jA,jB,jN,jO,jP,jQ,V.undef];by_cases hN:N<0
 ·have g1:decide (N<0)=true:=dct;refine aue (e2 hvf g1) ?_;exact aC h' (leo hd) ⟨rfl,rfl⟩
 have g1:decide (N<0)=false:=dcf;by_cases h40:40<ls.length
 ·have g2:decide ((40:Int)<(ls.length:Int))=true:=dct;refine aue (e4 hvf g1 g2 (@jK TB V)) ?_;exact aC h' (leo hd) ⟨rfl,rfl⟩
 have g2:decide ((40:Int)<(ls.length:Int))=false:=dcf;have aKg:=aKg or;refine aue (e4 hvf g1 g2 (@jK TB V)) ?_;generalize hRC:mI (lwp Tryz.prog _) _=RC
 refine aT (fun q:Nat×Own×List V=>aD 88 0 [(1,tbs o ls),(2, .ptr nx (.agg 6) 0 0),(4, .bool false),(5, .sl .leaf q.2.1 q.2.2),(28,tbs o ls),(29, .int .i64 ls.length),(30, .int .i64 q.1)])
  (fun q hp nx1=>q.1≤ls.length∧nx+1≤nx1∧aW hp nx1∧Hp.same nx h' hp∧hp nx=some (.arr (.agg 6) [.agg RV])∧aq hp (nx+1) q.2.1∧gP hp q.2.2 (bH (ls.take q.1))∧q.2.2.length≤q.1∧∀p∈ls.take q.1,p.2.length≤1000)
  (fun q=>ls.length-q.1) (0, .tok (nx+1),[]) ⟨Kt _,Zw,by exact dmo hd,by exact kep Hp.same.aAt,by simp only[go_sem,reduceIte,jA,jB,jC,jD,reduceCtorEq,jE,jF],aq.new or,⟨rfl,fun i h1=>by cases h1⟩,Kt _,Zm⟩ (by simp only[WkL,aD,jH,jI,jJ,go_sem,reduceIte,jA,jB,jC,jD,reduceCtorEq,jE,jF]) ?_
 rintro⟨i,oo,ms⟩ hp nx1 ⟨hi,hnx,hdm,hsm,hbx,aAP,aEe,hlen,aEz⟩;generalize hQ:bB _ _ _ _ _=Q0;dsimp only at hi aAP aEe hlen aEz;simp only[aD,go_sem,reduceIte,jA,jB,jC,jD,reduceCtorEq,jE,jF];have hle:=hsm.le hd (Hp.le_refl _);have n1:nx<nx1:=or;rcases Nat.lt_or_ge i ls.length with hlt|hge
 ·have hc:decide ((i:Int)<(ls.length:Int))=true:=dct;have hg:=aR TB.v ls i hlt;have hw:IntKind.i64.wrap ((i:Int)+1)=((i+1:Nat):Int):=wrp;have htk:ls.take (i+1)=ls.take i++[ls[i]]:=List.take_succ_eq_append_getElem hlt;have h47:=hok _ (List.getElem_mem hlt);have C1:∀h:Hp,aO Tryz.prog 6 [TB.v ls[i]] h (.bool (sF 0 0 ls[i].2)):=fun h=>jq ls[i].1 ls[i].2 h47 h;have hll:=b6 ls[i].2 0 0;have hTf:V.fits .leaf (TB.v ls[i])=true:=rfl;cases hL:sF 0 0 ls[i].2 with
  |true=>
   rw[hL] at C1;refine aue (e5 hc hg hlt (@jK TB V) (e2 jG hTf)) ?_;rw[←hQ,←hRC];refine au ?_;exact aC h' hle ⟨rfl,rfl⟩
  |false=>
   rw[hL] at C1;have hll:=hll hL;refine aue (e5 hc hg hlt (@jK TB V) (e2 jG hTf)) ?_;refine bG ((o8 ls[i].1 ls[i].2 or _ _ hdm).mono ?_);rintro v h3 nx3 aF2 ⟨n,es,c,rfl,hge,hmp,aLP,aAu,aQb⟩;unfold dF;refine Zn ?_;try dsimp only at aF2 hge
   obtain⟨id,aUH,rfl,aLN⟩:=aAP;have aF5:=hdm _ _ aLN;have aQX:h3 id=some .tip:=by rw[aAu id aF5];exact aLN
   have hn3:=aQb _ _ hmp;have hne:(id=nx3)=False:=eq_false or;have hmb:((ms.length+1)*8≤140737488355328)=True:=eq_true or;refine aue (e5 aQX hw hne hmb (@ite_self (Option Blk))) ?_;rw[←hQ];have aEt:∀m,m<nx3→m≠id→(((h3.set nx3 .tip).del id).set (nx3+1) .tip) m=h3 m:=fun m q1 q2=>by
    simp only[Hp.set,Hp.del];rw[if_neg or,if_neg q2,if_neg or]
   refine aH (i+1, .tok (nx3+1),ms++[.map n]) Zw ⟨hlt,or,dmo aQb,fun m hm=>?_,?_,aq.new or,?_,by dsimp only;rw[Kj];simp only[jL,jM];omega,fun p hp2=>?_⟩ (by simp only[WkL,aD,jH,jI,jJ,go_sem,reduceIte,jA,jB,jC,jD,reduceCtorEq,jE,jF])
   ·rw[aEt m or or,aAu m or];exact hsm m hm
   ·rw[aEt nx or or,aAu nx n1];exact hbx
   ·dsimp only;rw[htk,bH,List.map_append];refine pq (gP.mono aEe fun n2 es2 c2 q=>?_) (n:=n) (c:=c) (es:=es) ?_ aLP
    ·have:=hdm _ _ q;rw[aEt n2 or (fun e=>by rw[e,aLN] at q;cases q),aAu n2 this];exact q
    rw[aEt n hn3 (fun e=>by rw[e,aQX] at hmp;cases hmp)];exact hmp
   dsimp only at hp2;rw[htk] at hp2;rcases List.mem_append.1 hp2 with q|q
   ·exact aEz p q
   rw[List.mem_singleton.1 q];omega
 have hc:decide ((i:Int)<(ls.length:Int))=false:=dcf;have hil:i=ls.length:=or;rw[hil,List.take_length] at aEe aEz;refine aue hc ?_;rw[←hQ];refine au ?_;rw[←hRC];clear hQ hRC Q0 RC C2;have hbl:(bH ls).length=ls.length:=jK ..;have aQe:r.cp.v.fits (.agg 6)=true:=rfl;have C1:∀h:Hp,aO Tryz.prog 8 [.agg RV] h r.cp.v:=fun h=>hv▸jj r aKg h;have hR0:∀{h:Hp} {he:gP h ms (bH ls)},aO Tryz.prog 9 [.agg RV, .sl .leaf oo ms] h (.tup [lst .leaf (lsV (eU r (bH ls)).1),gY (eU r (bH ls)).2]):=fun{h he}=>hv▸zM r oo ms (bH ls) h he or;have hD0:∀(h:Hp) (nx:Nat) (he:gP h ms (bH ls)),aX Tryz.prog 10 [.agg RV, .sl .leaf oo ms] h nx fun v h'' _=>∃zs:List TR,v= .tup [lst .leaf (zs.map TR.v),gY (rG r (bH ls)).2]∧aS zs=(rG r (bH ls)).1∧(∀z∈zs,z.ok)∧h''=h:=fun h nx he=>hv▸am r oo ms (bH ls) or h nx he;have aQQ:=Ru.aDO (Ru.aA8 hr);have aQV:∀p∈ls,p.2.length≤1000∧smB p.2:=fun p hp=>⟨aEz p hp,fun t ht=>(Tr.aA8 (hok p hp t ht)).2⟩;have C3:=fun h=>wY r.cp aQQ o ls or aQV h;have C4:=fun h=>ew r.cp aQQ o ls or aQV h;rw[iz] at C3;rw[Al] at C4;obtain⟨hL1,hL2⟩:=pK r (bH ls);obtain⟨hM1,hM2⟩:=zb r (bH ls);generalize eU r (bH ls)=R at hR0 C3 hL1 hL2;generalize rG r (bH ls)=D at hD0 C4 hM1 hM2;generalize hCV:r.cp.v=CV at C1 C3 C4 aQe;refine aue (e3 hvf hbx n1) ?_;clear C1;have heH:gP ((hp.set nx1 (.arr (.agg 6) [.agg [.str ⟨#[]⟩, .sl (.agg 4) .nil [], .int .i64 0, .int .i64 0, .sl (.agg 17) .nil [], .int .i64 0]])).set nx1 (.arr (.agg 6) [CV])) ms (bH ls):=gP.mono aEe fun n es c q=>by
  have:=hdm _ _ q;simp only[Hp.set];rw[if_neg or,if_neg or];exact q
 obtain⟨o1,aQU⟩:=iR .leaf (lsV R.1);obtain⟨o2,aKY⟩:=iR .leaf (lsV D.1);rw[aQU] at C3;rw[aKY] at C4;refine aP (hR0 (he:=heH)) rfl (aM _) ?_;rw[aQU];refine Zn ?_;refine aue (e3 hvf hbx n1) ?_;refine bG ((hD0 _ _ heH).mono ?_);rintro v h4 nx4 _ ⟨zs,rfl,hz1,hz2,rfl⟩;unfold dF;refine Zn ?_;obtain⟨o3,aRA⟩:=iR .leaf (zs.map TR.v);rw[aRA];have C1:=fun h=>bt R.2 h;have C2:=fun h=>bt D.2 h;have hz3:zs.length=D.1.length:=by
  have:=congrArg Kp hz1;simpa using this
 have C5:∀{h:Hp},aO Tryz.prog 14 [.sl .leaf o1 (lsV R.1), .sl .leaf o1 (lsV R.1)] h (.bool true):=fun{h}=>by
  have:=kQ o1 o1 (R.1.map fun t=>((.free,t):TR)) (R.1.map fun t=>((.free,t):TR)) (by simp;omega) (fun p hp=>by
   obtain⟨t,ht,rfl⟩:=Kq.1 hp;have:=hL2 t ht;dsimp only;omega) h
  rw[decide_eq_true rfl] at this;simpa only[tps,(nq R.1).1] using this
 have C6:∀{h:Hp},aO Tryz.prog 14 [.sl .leaf o3 (zs.map TR.v), .sl .leaf o2 (lsV D.1)] h (.bool true):=fun{h}=>by
  have:=kQ o3 o2 zs (D.1.map fun t=>((.free,t):TR)) or (fun p hp=>by
   have:=hM2 p.2 (by rw[←hz1];exact Kq.2 ⟨p,hp,rfl⟩);omega) h
  rw[decide_eq_true (show aS zs=aS (D.1.map fun t=>((.free,t):TR)) by rw[(nq D.1).2,hz1])] at this;simpa only[tps,(nq D.1).1] using this
 have aRG:(R.2==R.2)=true:=Zm;have aRF:(D.2==D.2)=true:=Zm;refine aue (e5 aQe aRG aRF n1 hbx) ?_;exact aC h' (lef hd hle) ⟨rfl,rfl⟩
end Go.Proofs.YtjfdoohogiojcaaGreatDoor
namespace Go.Proofs.YtjfdoohogiojcaaGreatDoor
open Go.ChangeShapes Go.WideShapes Go.ChangeAt Go.RowKit
abbrev atT:List AT:=[.str, .int .i64, .int .i64, .str]
abbrev atX:List AT:=[.int .i64, .str, .int .i64, .int .i64, .str, .self]
abbrev atL:List AT:=[.int .i64, .str, .sl (.agg 4) atT, .int .i64, .int .i64, .str, .int .i64, .int .i64, .str, .mu (.agg 6) atX, .int .i64, .str, .int .i64, .int .i64, .str, .mu (.agg 6) atX, .int .i64]
abbrev atR:List AT:=[.str, .sl (.agg 4) atT, .int .i64, .int .i64, .sl (.agg 17) atL, .int .i64]
theorem eZ{v:V}(h:AT.str.ok v):∃n,n.size≤mS∧v= .str n:=by cases h with|str n h=>exact⟨n,h,rfl⟩
theorem A4{v:V}(hf:v.fits (.agg 4)=true)(h:∀i,i<4→(atT.getD i .bool).ok (v.cell i)):∃t:Tr,t.s47∧v=t.v:=by
 cases v with
 |agg cs=>
  simp only[V.fits,Kd,decide_eq_true_eq] at hf;match cs,hf.1 with
  | [a,b,c,d],_=>
   obtain⟨x,m0,e0⟩:=eZ (h 0 or);obtain⟨k,e1⟩:=dI (h 1 or);obtain⟨n,e2⟩:=dI (h 2 or);obtain⟨s,m3,e3⟩:=eZ (h 3 or);refine⟨⟨x,⟨k,n,s⟩⟩,⟨m0,m3⟩,?_⟩;have e0:a= .str x:=e0;have e1:b= .int .i64 k:=e1;have e2:c= .int .i64 n:=e2;have e3:d= .str s:=e3;rw[e0,e1,e2,e3];rfl
 |_=>simp[V.fits] at hf
theorem ml{v:V}(h:(AT.sl (.agg 4) atT).ok v):∃o l,(∀t∈l,Tr.s47 t)∧v=trs o l:=by
 cases h with
 |nil=>exact⟨.nil,[],Zm,rfl⟩
 |sl _ _ vs hl hf hc=>
  obtain⟨l,hs,rfl⟩:=oP Tr.s47 Tr.v vs (fun v hv=>A4 (hf v hv) (hc v hv));exact⟨.free,l,hs,rfl⟩
theorem y6{t:AT}{v:V}(h:t.ok v):t= .mu (.agg 6) atX→∃o ks,Ex.aGl ks∧v= .sl (.agg 6) o (ks.map Ex.v):=by
 induction h with
 |aFr k es=>intro e;injection e with e1 e2;subst e1;exact⟨.nil,[],trivial,rfl⟩
 |mu k es vs hl hf hc ih=>
  intro e;injection e with e1 e2;subst e1 e2;obtain⟨l,hs,rfl⟩:=oP Ex.s47 Ex.v vs (fun v hv=>by
   have hf:=hf v hv;have h0:=hc v hv;obtain⟨o,ks,hks,h5⟩:=ih v hv 5 ZM rfl;clear ih hc;cases v with
   |agg cs=>
    simp only[V.fits,Kd,decide_eq_true_eq] at hf;match cs,hf.1 with
    | [a,b,c,d,e,f],_=>
     obtain⟨op,e0⟩:=dI (h0 0 ZM);obtain⟨x,m1,e1⟩:=eZ (h0 1 ZM);obtain⟨k,e2⟩:=dI (h0 2 ZM);obtain⟨n,e3⟩:=dI (h0 3 ZM);obtain⟨s,m4,e4⟩:=eZ (h0 4 ZM);refine⟨.mk op ⟨x,⟨k,n,s⟩⟩ o ks,⟨⟨m1,m4⟩,hks⟩,?_⟩;have e0:a= .int .i64 op:=e0;have e1:b= .str x:=e1;have e2:c= .int .i64 k:=e2;have e3:d= .int .i64 n:=e3;have e4:e= .str s:=e4;have e5:f= .sl (.agg 6) o (ks.map Ex.v):=h5;rw[e0,e1,e2,e3,e4,e5,Ex.aAp];rfl
   |_=>simp[V.fits] at hf)
  exact⟨.free,l,Ex.aA0.2 hs,rfl⟩
 |_=>intro e;cases e
theorem Bf{v:V}(hf:v.fits (.agg 17)=true)(h:∀i,i<17→(atL.getD i .bool).ok (v.cell i)):∃t:Li,t.s47∧v=t.v:=by
 cases v with
 |agg cs=>
  simp only[V.fits,Kd,decide_eq_true_eq] at hf;match cs,hf.1 with
  | [a0,a1,a2,a3,a4,a5,a6,a7,a8,a9,a10,a11,a12,a13,a14,a15,a16],_=>
   obtain⟨k,e0⟩:=dI (h 0 or);obtain⟨r,m1,e1⟩:=eZ (h 1 or);obtain⟨o,l,m2,e2⟩:=ml (h 2 or);obtain⟨op,e3⟩:=dI (h 3 or);obtain⟨xo,e4⟩:=dI (h 4 or);obtain⟨xx,m5,e5⟩:=eZ (h 5 or);obtain⟨xk,e6⟩:=dI (h 6 or);obtain⟨xn,e7⟩:=dI (h 7 or);obtain⟨xs,m8,e8⟩:=eZ (h 8 or);obtain⟨xw,xl,m9,e9⟩:=y6 (h 9 or) rfl;obtain⟨yo,e10⟩:=dI (h 10 or);obtain⟨yx,m11,e11⟩:=eZ (h 11 or);obtain⟨yk,e12⟩:=dI (h 12 or);obtain⟨yn,e13⟩:=dI (h 13 or);obtain⟨ys,m14,e14⟩:=eZ (h 14 or);obtain⟨yw,yl,m15,e15⟩:=y6 (h 15 or) rfl;obtain⟨at_,e16⟩:=dI (h 16 or);refine⟨⟨k,⟨r,o,l⟩,op, .mk xo ⟨xx,⟨xk,xn,xs⟩⟩ xw xl, .mk yo ⟨yx,⟨yk,yn,ys⟩⟩ yw yl,at_⟩,⟨⟨m1,m2⟩,⟨⟨m5,m8⟩,m9⟩,⟨⟨m11,m14⟩,m15⟩⟩,?_⟩;rw[Li.aAp];show V.agg [a0,a1,a2,a3,a4,a5,a6,a7,a8,a9,a10,a11,a12,a13,a14,a15,a16]=_;rw[show a0=_ from e0,show a1=_ from e1,show a2=_ from e2,show a3=_ from e3,show a4=_ from e4,show a5=_ from e5,show a6=_ from e6,show a7=_ from e7,show a8=_ from e8,show a9=_ from e9,show a10=_ from e10,show a11=_ from e11,show a12=_ from e12,show a13=_ from e13,show a14=_ from e14,show a15=_ from e15,show a16=_ from e16];rfl
 |_=>simp[V.fits] at hf
theorem AV{v:V}(h:(AT.sl (.agg 17) atL).ok v):∃(o:Own) (b:List Li),(∀l∈b,Li.s47 l)∧v= .sl (.agg 17) o (b.map Li.v):=by
 cases h with
 |nil=>exact⟨.nil,[],Zm,rfl⟩
 |sl _ _ vs hl hf hc=>
  obtain⟨l,hs,rfl⟩:=oP Li.s47 Li.v vs (fun v hv=>Bf (hf v hv) (hc v hv));exact⟨.free,l,hs,rfl⟩
theorem zk{P:Program}{t:TypeId}{x:V}(ek:bX P t=some (.agg 6))(ea:sX P 12 t=some atR)(h:l9 P t x):∃r:Ru,r.s47∧x=r.v:=by
 obtain⟨k,ats,hk,ha,hf,_,ho⟩:=h;rw[ek] at hk;rw[ea] at ha;injection hk with hk;injection ha with ha;subst hk ha;cases x with
 |agg cs=>
  simp only[V.fits,Kd,decide_eq_true_eq] at hf;match cs,hf.1 with
  | [a0,a1,a2,a3,a4,a5],_=>
   obtain⟨r,m0,e0⟩:=eZ (ho 0 ZM);obtain⟨o,l,m1,e1⟩:=ml (ho 1 ZM);obtain⟨g,e2⟩:=dI (ho 2 ZM);obtain⟨c,e3⟩:=dI (ho 3 ZM);obtain⟨ob,b,m4,e4⟩:=AV (ho 4 ZM);obtain⟨at_,e5⟩:=dI (ho 5 ZM);refine⟨⟨⟨r,o,l⟩,g,c,ob,b,at_⟩,⟨⟨m0,m1⟩,m4⟩,?_⟩;show V.agg [a0,a1,a2,a3,a4,a5]=_;rw[show a0=_ from e0,show a1=_ from e1,show a2=_ from e2,show a3=_ from e3,show a4=_ from e4,show a5=_ from e5];rfl
 |_=>simp[V.fits] at hf
theorem At{P:Program}{t:TypeId}{x:V}(ek:bX P t=some .leaf)(ea:sX P 12 t=some [.sl .leaf [.sl (.agg 4) atT]])(h:l9 P t x):∃o l,(∀p:TB,p∈l→∀t∈p.2,t.s47)∧x=tbs o l:=by
 cases vn ek ea h with
 |nil=>exact⟨.nil,[],Zm,rfl⟩
 |sl _ _ vs hl hf hc=>
  obtain⟨l,h1,rfl⟩:=oP (fun p:TB=>∀t∈p.2,t.s47) TB.v vs (fun v hv=>by
   have h0:=hc v hv 0 Zm;have hv2:v.cell 0=v:=gV (by have:=hf v hv;rwa [kL] at this);rw[hv2] at h0;obtain⟨o,l,h2,h3⟩:=ml h0;exact⟨(o,l),h2,h3⟩)
  exact⟨.free,l,h1,rfl⟩
section
variable{H:Type}{enc:TypeId×Value→H}{P:Program}
theorem vY{C:Checked}{os:Os}{f:FuncId}{fn:Func}{s:ChangeSpec}{tb:TypeId}{l:List (String×DataW Unit)}
 (own:ownKnob C.prog.godebug=none) (started:os.Started) (aG3:C.prog.inits.idxOf? f=none) (hfn:C.prog.funcs[f]?=some fn)
 (witness:∃(w:World) (tape:Tape) (i:Input),w.os=os∧(w.forCall tape i).Shaped C.prog∧i.vars=[]∧Input.okWide C.prog (w.forCall tape i) .any w.heap.size f i∧
   ((s.pre enc C.prog fn [] false (w.forCall tape i).memory i.args∧laidMetH C.prog l (w.forCall tape i).memory)∧sizedMet enc C.prog fn (OpenSpec.ofChange s) false (w.forCall tape i).memory i.args)∧({}:Assume).holds C.prog (lone (Frame.enter C.prog f i.args .normal) [] (w.forCall tape i)))
 (aFt:s.vars=[]) (aK1:∀ds:List (DataW H),ds.length=fn.params.size→s.fn H ds={results:=[.lit (.bool true)],args:=ds})
 (aFN:fn.resultTypes=#[tb]) (hb:C.prog.underlying tb=some .bool) (hl:laidOutB C.prog=true)
 (hrd:∀t∈fn.params.toList,C.prog.readableRec t=true∧t<C.prog.types.size)
 (contract:∀(W:World) (base:Nat) (args:Array Value) (ds:List (DataW H)) (p:List MemPlace),
   (∀(j:Nat) t v,fn.params[j]?=some t→args[j]?=some v→Value.okWide C.prog W .any base t v)→
   DataW.TrodAll enc C.prog W 0 (fun _=>true) true fn.params.toList args.toList ds p→(∀x∈p,x.block<W.heap.size)→(DataW.weightsEach C.prog fn.params.toList ds).all (·≤reachBytes)=true→laidMetH C.prog l W→
   Calls C.prog f args W fun e W'=>e= .returned (.bool true)∧Below W.heap.size W W'):
 ReturnsInHanded {} C os f .any (fun w args=>(s.pre enc C.prog fn [] false w args∧laidMetH C.prog l w)∧sizedMet enc C.prog fn (OpenSpec.ofChange s) false w args) (s.post enc C.prog fn false true false false):=by
 refine returnsInHanded_of_change_and (X:=fun w _=>laidMetH C.prog l w) (fun _ _ _ hh h=>h.of_heap hh) own started aG3 hfn witness ?_;intro W base args ds gs before hval hW _ hsz hX _;have hW':=hW;obtain⟨p,q,hA,hV,rfl,hfz,hnd⟩:=hW;rw[aFt] at hV;obtain⟨rfl,rfl⟩:=trodVars_none hV;have hvt:s.plain.varTypes C.prog=[]:=by
  simp[DataSpec.varTypes,ChangeSpec.plain,aFt]
 rw[hvt,Kb,Kb] at hsz;have hlt:∀x∈p,x.block<W.heap.size:=fun x hx=>hW'.lt x (by simp[hx]);refine(contract W base args ds p hval hA hlt hsz hX).mono fun e W' ⟨he,aQg⟩=>?_;subst he;have hlen:=(rN hA).2;have hs:=aK1 ds (by simpa using hlen);refine⟨_,rfl,ds,[],p++[],[],p,[],hW',?_,?_,?_,aQg.frame _,fun h=>by cases h⟩
 ·rw[Kb,hs,aFN];exact trodAll_mk1 (shut_bool hb _)
 ·rw[Kb,hs];exact qO hl aQg hrd hA hlt
 rw[Kb,hs,aFt];exact rfl
theorem pc{w:World}{n:String}{g t e m fuel:Nat}{cs:Array Value}{p:List MemPlace}{l:List (List UInt8)}(hg:P.globalNamed n=some g)(hv:w.var? P n=some cs)
 (hu:P.underlying t=some (.array m e)) (hue:P.underlying e=some .string) (hce:P.cellsOf e=1)
 (hd:DataW.trod enc P w 0 (fun _=>true) false fuel t cs.toList=some (.agg (l.map fun s=> .lit (.string s)),p)):∀i (hi:i<l.length),w.cell? ⟨g,i,none⟩=some (.string ⟨(l[i]).toArray⟩):=by
 intro i hi;obtain⟨xs,m1,rfl,hx1,hlen,hn3,hel⟩:=DataW.trod_array hu hd;simp only[Prod.mk.injEq,DataW.agg.injEq] at hx1;have hxl:xs.length=l.length:=by have:=congrArg Kp hx1.1;simpa using this.symm
 have h1:=hel i or;rw[Ka or] at h1;obtain⟨s,e1,e2,_⟩:=DataW.trod_string hue h1;have e3:(xs[i]'or).1= .lit (.string l[i]):=by
  have:=congrArg (fun z=>z[i]?) hx1.1;simp only[Kc] at this;rw[Ka hi,Ka or] at this;simpa using this.symm
 rw[e2] at e3;simp only[DataW.lit.injEq,Lit.string.injEq] at e3;rw[Kg hg hv i];rw[hce,Ku] at e1;have e4:cs.toList[i]?=some (.string s):=by
  have:=congrArg (fun z=>z[0]?) e1;simpa [Kk,Km] using this
 rw[←Ke,e4,←e3]
theorem sK{W:World}:∀{l:List (String×DataW Unit)} {ps:List MemPlace},DataW.LaidVars P W l ps→∀n d,(n,d)∈l→∃g t cs fuel p,P.globalNamed n=some g∧(P.globals[g]?).map (·.type)=some t∧W.var? P n=some cs∧
 DataW.trod (fun _=>()) P W 0 (fun _=>true) false fuel t cs.toList=some (d,p)
 | [],_,_,n,d,hm=>by cases hm
 |(n0,d0)::r,ps,h,n,d,hm=>by
  obtain⟨g,t,cs,fuel,p,q,h1,h2,h3,h4,h5,_⟩:=h;rcases List.mem_cons.1 hm with e|e
  ·injection e with e1 e2;subst e1 e2;exact⟨g,t,cs,fuel,p,h1,h2,h3,h4⟩
  exact sK h5 n d e
theorem yp{W:World}{l:List (String×DataW Unit)}(h:laidMetH P l W)(hp:(l.all fun x=>x.2.handleName?.isNone)=true){n:String}{ss:List (List UInt8)}(hm:(n,DataW.agg (ss.map fun s=> .lit (.string s)))∈l){g t m e:Nat}(hg:P.globalNamed n=some g)(ht:(P.globals[g]?).map (·.type)=some t)
 (hu:P.underlying t=some (.array m e)) (hue:P.underlying e=some .string) (hce:P.cellsOf e=1) (h0:0<ss.length):(Ker.base W).fro g∧∀o,o<(ss.map fun s=>(Value.string ⟨s.toArray⟩)).length→(Ker.base W).w.cell? ⟨g,o,none⟩=some ((ss.map fun s=>(Value.string ⟨s.toArray⟩)).getD o Ks):=by
 rw[MakeChecks.laidMetH_plain _ _ _ hp] at h;obtain⟨ps,h,_⟩:=h;obtain⟨g',t',cs,fuel,p,h1,h2,h3,h4⟩:=sK h _ _ hm;obtain rfl:=Option.some.inj (hg.symm.trans h1);obtain rfl:=Option.some.inj (ht.symm.trans h2);have key:=pc hg h3 hu hue hce h4;refine⟨(wH (key 0 h0)).1,fun o ho=>?_⟩;rw[Kf] at ho;rw[Kh,Kc,Ka ho];exact key o ho
theorem mn{t:TypeId}{fuel:Nat}{W:World}{cs:List Value}{s:String}{d:DataW Unit}{p:List MemPlace}(hc:P.underlying t=some (.interface #[])∨∃ms,P.underlying t=some (.interface ms))(h:DataW.trod (fun _=>()) P W 0 (fun _=>true) false fuel t cs=some (.iface s d,p)):∃te pe,cs=[.iface te pe]:=by
 obtain⟨ms,hu⟩:∃ms,P.underlying t=some (.interface ms):=hc.elim (fun h=>⟨_,h⟩) id;cases fuel with
 |zero=>simp[DataW.trod] at h
 |succ n=>
  unfold DataW.trod at h;rw[hu] at h;split at h<;>simp_all
theorem jz{W:World}{l:List (String×DataW Unit)}(h:laidMetH P l W)(hp:(l.all fun x=>x.2.handleName?.isNone)=true){n s:String}{d:DataW Unit}(hm:(n,DataW.iface s d)∈l){g t:Nat}(hg:P.globalNamed n=some g)(ht:(P.globals[g]?).map (·.type)=some t)(hc:∃ms,P.underlying t=some (.interface ms)):
 (Ker.base W).fro g∧∃ev,(Ker.base W).w.cell? ⟨g,0,none⟩=some ev∧(ev= .nilIface∨∃te pe,ev= .iface te pe):=by
 rw[MakeChecks.laidMetH_plain _ _ _ hp] at h;obtain⟨ps,h,_⟩:=h;obtain⟨g',t',cs,fuel,p,h1,h2,h3,h4⟩:=sK h _ _ hm;obtain rfl:=Option.some.inj (hg.symm.trans h1);obtain rfl:=Option.some.inj (ht.symm.trans h2);obtain⟨te,pe,hcs⟩:=mn (.inr hc) h4;have hcell:=Kg hg h3 0;rw[←Ke,hcs] at hcell;exact⟨(wH hcell).1,_,hcell, .inr ⟨te,pe,rfl⟩⟩
theorem ba{W:World}{n:String}{g:Nat}{cs:Array Value}(hg:P.globalNamed n=some g)(h:W.var? P n=some cs):∃T,W.shape? g=some (T,cs.size):=by
 simp only[World.var?,hg,Option.bind_some] at h;split at h<;>simp_all [World.shape?]
theorem rk{W:World}{l:List (String×DataW Unit)}(h:laidMetH P l W)(hp:(l.all fun x=>x.2.handleName?.isNone)=true){n:String}{ss:List (List UInt8)}(hm:(n,DataW.agg (ss.map fun s=> .lit (.string s)))∈l){g t m e:Nat}(hg:P.globalNamed n=some g)(ht:(P.globals[g]?).map (·.type)=some t)
 (hu:P.underlying t=some (.array m e)) (hue:P.underlying e=some .string) (hce:P.cellsOf e=1) (h0:0<ss.length) (hct:P.cellsOf t=ss.length):
 (Ker.base W).fro g∧(∃T,(Ker.base W).w.shape? g=some (T,(ss.map fun s=>(Value.string ⟨s.toArray⟩)).length))∧∀o,o<(ss.map fun s=>(Value.string ⟨s.toArray⟩)).length→(Ker.base W).w.cell? ⟨g,o,none⟩=some ((ss.map fun s=>(Value.string ⟨s.toArray⟩)).getD o Ks):=by
 obtain⟨h1,h2⟩:=yp h hp hm hg ht hu hue hce h0;refine⟨h1,?_,h2⟩;rw[MakeChecks.laidMetH_plain _ _ _ hp] at h;obtain⟨ps,h,_⟩:=h;obtain⟨g',t',cs,fuel,p,k1,k2,k3,k4⟩:=sK h _ _ hm;obtain rfl:=Option.some.inj (hg.symm.trans k1);obtain rfl:=Option.some.inj (ht.symm.trans k2);obtain⟨T,hT⟩:=ba hg k3;obtain⟨xs,m1,rfl,hx1,hlen,hn3,hel⟩:=DataW.trod_array hu k4;refine⟨T,?_⟩;show W.shape? g=_;rw[hT,Kf];have:cs.toList.length=ss.length:=by rw[hlen,hct]
 simpa using this
theorem uf{w:World}{n:String}{g t e m fuel:Nat}{k:IntKind}{cs:Array Value}{p:List MemPlace}{l:List Int}(hg:P.globalNamed n=some g)(hv:w.var? P n=some cs)
 (hu:P.underlying t=some (.array m e)) (hue:P.underlying e=some (.int k)) (hce:P.cellsOf e=1)
 (hd:DataW.trod enc P w 0 (fun _=>true) false fuel t cs.toList=some (.agg (l.map fun s=> .lit (.int k s)),p)):∀i (hi:i<l.length),w.cell? ⟨g,i,none⟩=some (.int k l[i]):=by
 intro i hi;obtain⟨xs,m1,rfl,hx1,hlen,hn3,hel⟩:=DataW.trod_array hu hd;simp only[Prod.mk.injEq,DataW.agg.injEq] at hx1;have hxl:xs.length=l.length:=by have:=congrArg Kp hx1.1;simpa using this.symm
 have h1:=hel i or;rw[Ka or] at h1;obtain⟨s,e1,e2,_⟩:=DataW.trod_int hue h1;have e3:(xs[i]'or).1= .lit (.int k l[i]):=by
  have:=congrArg (fun z=>z[i]?) hx1.1;simp only[Kc] at this;rw[Ka hi,Ka or] at this;simpa using this.symm
 rw[e2] at e3;simp only[DataW.lit.injEq,Lit.int.injEq,true_and] at e3;rw[Kg hg hv i];rw[hce,Ku] at e1;have e4:cs.toList[i]?=some (.int k s):=by
  have:=congrArg (fun z=>z[0]?) e1;simpa [Kk,Km] using this
 rw[←Ke,e4,←e3]
theorem ym{W:World}{l:List (String×DataW Unit)}(h:laidMetH P l W)(hp:(l.all fun x=>x.2.handleName?.isNone)=true){n:String}{k:IntKind}{ss:List Int}(hm:(n,DataW.agg (ss.map fun s=> .lit (.int k s)))∈l){g t m e:Nat}(hg:P.globalNamed n=some g)(ht:(P.globals[g]?).map (·.type)=some t)
 (hu:P.underlying t=some (.array m e)) (hue:P.underlying e=some (.int k)) (hce:P.cellsOf e=1) (h0:0<ss.length) (hct:P.cellsOf t=ss.length):
 (Ker.base W).fro g∧(∃T,(Ker.base W).w.shape? g=some (T,(ss.map fun s=>(Value.int k s)).length))∧∀o,o<(ss.map fun s=>(Value.int k s)).length→(Ker.base W).w.cell? ⟨g,o,none⟩=some ((ss.map fun s=>(Value.int k s)).getD o Ks):=by
 rw[MakeChecks.laidMetH_plain _ _ _ hp] at h;obtain⟨ps,h,_⟩:=h;obtain⟨g',t',cs,fuel,p,k1,k2,k3,k4⟩:=sK h _ _ hm;obtain rfl:=Option.some.inj (hg.symm.trans k1);obtain rfl:=Option.some.inj (ht.symm.trans k2);have key:=uf hg k3 hu hue hce k4;obtain⟨T,hT⟩:=ba hg k3;obtain⟨xs,m1,rfl,hx1,hlen,hn3,hel⟩:=DataW.trod_array hu k4;refine⟨(wH (key 0 h0)).1,⟨T,?_⟩,fun o ho=>?_⟩
 ·show W.shape? g=_;rw[hT,Kf];have:cs.toList.length=ss.length:=by rw[hlen,hct]
  simpa using this
 rw[Kf] at ho;rw[Kh,Kc,Ka ho];exact key o ho
end
end Go.Proofs.YtjfdoohogiojcaaGreatDoor
