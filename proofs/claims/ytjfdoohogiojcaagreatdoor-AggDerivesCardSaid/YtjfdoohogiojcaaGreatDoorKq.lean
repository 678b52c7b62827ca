/-
Texts of this proof,one behind the other. No conditions.
-/
import Derived.Test.YtjfdoohogiojcaaGreatDoorKd
import Derived.Test.YtjfdoohogiojcaaGreatDoorKo
open Go.Proofs.YtjfdoohogiojcaaGreatDoor.Vl renaming aAA→Ka,v→Ke
open Go.Proofs.YtjfdoohogiojcaaGreatDoor.V renaming undef→Kb,fits→Kg
open Go.Proofs.YtjfdoohogiojcaaGreatDoor.Hp renaming le_refl→Kc,set→Kd,same→Kf
open Nat renaming lt_succ_of_lt→Kh,le_succ_of_le→Kk,le_refl→Km,lt_succ_self→Ko,le_succ→Ky,lt_or_ge→KC,zero_le→KD,zero_lt_one→KE
open List renaming take_succ_eq_append_getElem→Ki,length_set→Kj,getD_cons_zero→Kp,mem_singleton→Kq,getD_eq_getElem?_getD→Kt,not_mem_nil→Ku,length_take→Kv,getElem_mem→Kw,mem_append→Kx,set_cons_zero→KB,mem_cons→KH
open Bool renaming false_eq_true→Ks,false_and→Kz,true_and→KA,not_false→KF,not_true→KG
open Int renaming le_refl→KI
open Nat renaming reduceAdd→jA,reduceSub→jB,reduceLT→jC,reduceLeDiff→jD,reduceEqDiff→jE
open Int renaming reduceToNat→jF,toNat_natCast→jG,natCast_add→jH,natCast_one→jI,natCast_zero→jJ
open List renaming length_map→jK,length_cons→jL,length_nil→jM,replicate_succ→jN,replicate_zero→jO,cons_append→jP,nil_append→jQ
set_option linter.unusedSimpArgs false
set_option linter.unusedVariables false
set_option linter.unusedSectionVars false
set_option maxHeartbeats 8000000
namespace Go.Proofs.YtjfdoohogiojcaaGreatDoor
open Go.RowKit Go.Sort
attribute [local irreducible] IntKind.wrap
abbrev bx(x:Vl):Blk:= .arr (.agg 3) [x.v]
abbrev z8:aJ:=(((aJ.ops L.aDz).seq (aJ.cond (aK.slot 78) ((aJ.ops L.aDy).seq (aJ.ops L.aDx)) aJ.skip)).seq (((aJ.draw 6 L.aDw L.aC2).seq (aJ.cond (aK.slot 93) (aJ.ops L.aDv) aJ.skip)).seq ((aJ.draw 6 L.aDu L.aC1).seq (aJ.cond (aK.slot 103) (aJ.ops L.aDt) aJ.skip))))
abbrev rfS(g:Int)(o:Own)(l:List Vl)(nx b1 b2:Nat)(many sum:Int)(i:Nat):List (Nat×V):=[(0, .int .i64 g),(1,vls o l),(4, .ptr nx (.agg 3) 0 0),(7, .int .i64 many),(8, .int .i64 sum),(9, .ptr b1 (.agg 3) 0 0),(10, .ptr b2 (.agg 3) 0 0),(11, .int .i64 i)]
set_option maxRecDepth 100000 in
set_option maxHeartbeats 8000000 in
theorem wz(g:Int)(o:Own)(l:List Vl)(hl:l.length≤1000000)(aAh:∀x∈l,cF x=true)(hp:Hp)(nx nx3 b1 b2:Nat)(many sum:Int)(i:Nat)(hlt:i<l.length)(low high:Vl)(hf:lA l i many sum low high)(m1:b1<nx3)(m2:b2<nx3)(ne:b1≠b2)(hb1:hp b1=some (bx low))(hb2:hp b2=some (bx high))(hdm:aW hp nx3)(Qx:bE→St→Prop)
 (hq:∀aDT aG0 aKT aEu hp2 nx5,lA l (i+1) aDT aG0 aKT aEu→nx3≤nx5→aW hp2 nx5→(∀m,m≠b1→m≠b2→hp2 m=hp m)→hp2 b1=some (bx aKT)→hp2 b2=some (bx aEu)→∀sl,WkL sl (aD 126 0 (rfS g o l nx b1 b2 aDT aG0 i))→Qx .normal ⟨sl,hp2,nx5⟩):
 lwp Tryz.prog (.loop L.aFZ) (cW 4 (mI (lwp Tryz.prog z8) Qx)) ⟨aD 126 0 (rfS g o l nx b1 b2 many sum i++[(12, .bool true),(13, .int .i64 0)]),hp,nx3⟩:=by
 have hg:(l.map Ke).getD i (.tup [])= .agg [.int .i64 l[i].k, .int .i64 l[i].n, .str l[i].s]:=aR Ke l i hlt;have E0:=e5 hg hlt (@jK Vl V) jG Ka
 refine aT (fun k:Nat=>aD 126 0 [(0, .int .i64 g),(1,vls o l),(4, .ptr nx (.agg 3) 0 0),(7, .int .i64 many),(8, .int .i64 sum),(9, .ptr b1 (.agg 3) 0 0),(10, .ptr b2 (.agg 3) 0 0),(11, .int .i64 i),(12, .bool (decide (l[i]∉l.take k))),(13, .int .i64 k)])
  (fun k hp2 nx4=>k≤i∧nx3≤nx4∧hp2=hp) (fun k=>i-k) 0 ⟨KD _,Km _,rfl⟩ (by simp only[WkL,aD,jH,jI,jJ,rfS,jP,jQ,List.take_zero,Ku,not_false_eq_true,decide_true,go_sem,reduceIte,jA,jB,jC,jD,reduceCtorEq,jE,jF]) ?_
 rintro k hp2 nx4 ⟨hk,aLE,rfl⟩;generalize hQ2:bB _ _ _ _ _=Q2;simp only[aD,go_sem,reduceIte,jA,jB,jC,jD,reduceCtorEq,jE,jF];rcases KC k i with hki|hki
 ·have hck:decide ((k:Int)<(i:Int))=true:=dct;have hwk:IntKind.i64.wrap ((k:Int)+1)=((k+1:Nat):Int):=wrp;have hkl:k<l.length:=or;have hgk:(l.map Ke).getD k (.tup [])= .agg [.int .i64 l[k].k, .int .i64 l[k].n, .str l[k].s]:=aR Ke l k hkl;have hv:=zw l[k] l[i];have aA9:decide (l[i]∉l.take (k+1))=(decide (l[i]∉l.take k)&& !decide (l[k]=l[i])):=by
   rw[Ki hkl,Bool.eq_iff_iff];simp only[Kx,Kq,decide_eq_true_eq,Bool.and_eq_true,Bool.not_eq_true',decide_eq_false_iff_not,not_or];exact⟨fun h=>⟨h.1,fun e=>h.2 e.symm⟩,fun h=>⟨h.1,fun e=>h.2 e.symm⟩⟩
  have Ek:=e8 hck hwk hgk hkl hv E0 KA Kz;cases fr:decide (l[i]∉l.take k) with
  |true=>
   rw[fr,KA] at aA9;refine aue (e2 Ek fr) ?_;rw[←hQ2];exact aH (k+1) or ⟨hki,or,rfl⟩ (by simp only[WkL,aD,jH,jI,jJ,hwk,aA9,go_sem,reduceIte,jA,jB,jC,jD,reduceCtorEq,jE,jF])
  |false=>
   rw[fr,Kz] at aA9;refine aue (e2 Ek fr) ?_;rw[←hQ2];exact aH (k+1) or ⟨hki,or,rfl⟩ (by simp only[WkL,aD,jH,jI,jJ,hwk,aA9,go_sem,reduceIte,jA,jB,jC,jD,reduceCtorEq,jE,jF])
 have hck:decide ((k:Int)<(i:Int))=false:=dcf;have hke:k=i:=or;subst hke;have hst:=hf.step hlt;have D1:=fun h=>nT l[k] low h;have D2:=fun h=>nT high l[k] h;have hsb:-2147483647000000≤lB (bL dQ (l.take (k+1)))∧lB (bL dQ (l.take (k+1)))≤2147483647000000:=mr (fun x hx=>aAh x (List.mem_of_mem_take hx)) (by rw[Kv];omega);have hsn:=hst.sum;have hmn:=hf.many;have hml:=dV (c:=dQ) (l.take k);rw[Kv] at hml;have hl1:=low.aAA;have hh1:=high.aAA;have hgv:(l.map Ke).getD k (.tup [])=l[k].v:=hg;have aKi:hp2 b1=some (.arr (.agg 3) [low.v]):=hb1;have aKh:hp2 b2=some (.arr (.agg 3) [high.v]):=hb2;have n12:(b1=b2)=False:=eq_false ne;have n21:(b2=b1)=False:=eq_false (fun e=>ne e.symm);refine aue hck ?_;rw[←hQ2];clear hQ2 Q2 hck hki;have aHG:∀a b,yA a b=decide (dQ a b<0):=fun a b=>rfl;have Ez:=e9 aKi aKh m1 m2 n12 n21 E0 hgv (e4 hl1 hh1 KA Kz);rw[←aHG,←aHG] at hst;by_cases hm:l[k]∈l.take k
 case' pos=>
  have fr:decide (l[k]∉l.take k)=false:=decide_eq_false (fun h=>h hm);rw[if_pos hm,if_pos hm] at hst;have Ey:=fr
 case' neg=>
  have fr:decide (l[k]∉l.take k)=true:=decide_eq_true hm;rw[if_neg hm,if_neg hm] at hst;have hw3:IntKind.i64.wrap (many+1)=many+1:=wrp;have hw4:IntKind.i64.wrap (sum+l[k].n)=sum+l[k].n:=wrp rfl (by rw[if_neg hm] at hsn;omega) (by rw[if_neg hm] at hsn;omega);have Ey:=e3 fr hw3 hw4
 all_goals
  cases c1:yA l[k] low<;>cases c2:yA high l[k]<;>rw[c1] at D1 hst<;>rw[c2] at D2 hst
  all_goals
   simp only[Ks,if_false,if_true] at hst;refine aue (e2 Ez Ey) ?_;refine hq _ _ _ _ _ _ hst or (by exact dmo (aW.up hdm aLE)) (fun m h1 h2=>by simp[Kd,h1,h2]) (by simp[Kd,n12,n21,aKi]<;>rfl) (by simp[Kd,n12,n21,aKh]<;>rfl) _ ?_;simp only[WkL,aD,jH,jI,jJ,rfS,go_sem,reduceIte,jA,jB,jC,jD,reduceCtorEq,jE,jF]
abbrev s6:aJ:=(((aJ.ops L.aD0).seq (aJ.block 2 (.loop L.aFY))).seq (((aJ.ops L.aDs).seq (aJ.cond (aK.slot 109) ((aJ.ops L.aDr).seq aJ.ret) aJ.skip)).seq (((aJ.ops L.aDq).seq (aJ.cond (aK.slot 112) ((aJ.ops L.aDp).seq aJ.ret) aJ.skip)).seq (((aJ.ops L.aDo).seq (aJ.cond (aK.slot 115) (aJ.ops L.aDn) aJ.skip)).seq (((aJ.ops L.aDm).seq (aJ.cond (aK.slot 122) ((aJ.ops L.aDl).seq aJ.ret) aJ.skip)).seq ((aJ.ops L.aDk).seq aJ.ret))))))
set_option maxRecDepth 100000 in
set_option maxHeartbeats 8000000 in
theorem nw(g:Int)(o:Own)(l:List Vl)(hl:l.length≤1000000)(h1:¬g<1)(h2:¬4<g)(h3:l≠ [])(aAh:∀x∈l,cF x=true)(x0:Vl)(hx0:x0∈l)(h':Hp)(nx:Nat)(hd:aW h' nx)(hp2:Hp)(n2 b1 b2:Nat)(n1:nx+1≤b1∧b1<n2)(n3:nx+1≤b2∧b2<n2)(n4:nx+1≤n2)(ne:b1≠b2)
 (h6:hp2 b1=some (bx x0)) (h7:hp2 b2=some (bx x0)) (dm:aW hp2 n2) (aCB:hp2 nx=some (.arr (.agg 3) [zvl])) (aBF:Kf nx h' hp2):
 lwp Tryz.prog s6 (oF [vC.cell 4 (Sh.agg 3),vC.slot 5] fun v' h'' x=>v'=V.tup [(dD g l).1.v,V.int IntKind.i64 (dD g l).2]∧h''=h')
  ⟨aD 126 0 [(0, .int .i64 g),(1,vls o l),(4, .ptr nx (.agg 3) 0 0),(7, .int .i64 0),(8, .int .i64 0),(9, .ptr b1 (.agg 3) 0 0),(10, .ptr b2 (.agg 3) 0 0)],hp2,n2⟩:=by
 have hgr:¬(g<1∨4<g):=or;have hzf:Kg (.agg 3) zvl=true:=rfl;simp only[aD,go_sem,reduceIte,jA,jB,jC,jD,reduceCtorEq,jE,jF];refine au ?_
 refine aT (fun q:Nat×Int×Int=>aD 126 0 [(0, .int .i64 g),(1,vls o l),(4, .ptr nx (.agg 3) 0 0),(7, .int .i64 q.2.1),(8, .int .i64 q.2.2),(9, .ptr b1 (.agg 3) 0 0),(10, .ptr b2 (.agg 3) 0 0),(11, .int .i64 q.1)])
  (fun q hp nx3=>q.1≤l.length∧n2≤nx3∧aW hp nx3∧Kf nx h' hp∧hp nx=some (.arr (.agg 3) [zvl])∧(g=2→∀x∈l.take q.1,x.k=1)∧∃low high,lA l q.1 q.2.1 q.2.2 low high∧hp b1=some (bx low)∧hp b2=some (bx high))
  (fun q=>l.length-q.1) (0,0,0) ⟨KD _,ZN,dmo dm,aBF,aCB,Zm,x0,x0,lA.zero hx0,h6,h7⟩ (by simp only[WkL,aD,jH,jI,jJ,go_sem,reduceIte,jA,jB,jC,jD,reduceCtorEq,jE,jF]) ?_
 rintro⟨i,many,sum⟩ hp nx3 ⟨hi,aF2,hdm,hsm,hbx,aCx,low,high,hf,hb1,hb2⟩;generalize hQ:bB _ _ _ _ _=Q0;dsimp only at hi aCx hf;simp only[aD,go_sem,reduceIte,jA,jB,jC,jD,reduceCtorEq,jE,jF];have m1:b1<nx3:=or;have m2:b2<nx3:=or;have m0:nx<nx3:=or;rcases KC i l.length with hlt|hge
 ·have hc:decide ((i:Int)<(l.length:Int))=true:=dct;have hw:IntKind.i64.wrap ((i:Int)+1)=((i+1:Nat):Int):=wrp;have hg:(l.map Ke).getD i (.tup [])= .agg [.int .i64 l[i].k, .int .i64 l[i].n, .str l[i].s]:=aR Ke l i hlt;have E0:=e6 hc hg hlt (@jK Vl V) jG Ka;have aEh:(g==2)=true→(l[i].k != 1)=true→dD g l=(eD,7):=fun k1 k2=>by
   have k1:g=2:=by simpa using k1
   have k2:l[i].k≠1:=by simpa using k2
   unfold dD;rw[if_neg hgr,if_neg h3,if_neg (fun k=>k aAh),if_pos ⟨k1,fun k=>k2 (k _ (Kw hlt))⟩]
  have tst:((g==2)=true∧(l[i].k != 1)=true)∨((g==2)=true∧(l[i].k != 1)=false)∨(g==2)=false:=by
   cases (g==2)<;>cases (l[i].k != 1)<;>simp
  rcases tst with⟨c5,kb⟩|⟨c5,kb⟩|c5
  ·refine aue (e6 c5 kb E0 hbx m0 hzf) ?_;rw[←hQ];refine au ?_;refine aL (by simp only[go_sem,reduceIte,jA,jB,jC,jD,reduceCtorEq,jE,jF]) h' (lef hd (hsm.le hd (Kc _))) ⟨?_,rfl⟩;refine Zn ?_;rw[aEh c5 kb];rfl
  case' inr.inl=>
   have E1:=e2 c5 kb;have hk1:g=2→l[i].k=1:=fun _=>by simpa using kb
  case' inr.inr=>
   have E1:=c5;have hk1:g=2→l[i].k=1:=fun e=>by simp[e] at c5
  all_goals
   have aLC:g=2→∀x∈l.take (i+1),x.k=1:=fun e y hy=>by
    rw[Ki hlt] at hy;rcases Kx.1 hy with hy|hy
    ·exact aCx e y hy
    rw[Kq.1 hy];exact hk1 e
   refine aue (e2 E0 E1) ?_;clear E1 hk1;refine tT (s':=⟨aD 126 0 (rfS g o l nx b1 b2 many sum i++[(12, .bool true),(13, .int .i64 0)]),hp,nx3⟩) (Wk.tell ⟨by simp only[WkL,aD,jH,jI,jJ,rfS,jP,jQ,go_sem,reduceIte,jA,jB,jC,jD,reduceCtorEq,jE,jF],Kc _,by first|exact Km _|(dsimp only;omega)⟩) ?_;refine wz g o l hl aAh hp nx nx3 b1 b2 many sum i hlt low high hf m1 m2 ne hb1 hb2 hdm _ ?_;intro aDT aG0 aKT aEu hp2 nx5 hf2 hn5 hd5 hk5 aKi aKh sl hsl;refine bW (mX ⟨aD 126 0 (rfS g o l nx b1 b2 aDT aG0 i),hp2,nx5⟩ ⟨hsl,Kc _,Km _⟩ ?_);simp only[aD,go_sem,reduceIte,jA,jB,jC,jD,reduceCtorEq,jE,jF];refine aue hw ?_;rw[←hQ];exact aH (i+1,aDT,aG0) Zw ⟨hlt,or,hd5,fun m hm=>by rw[hk5 m or or];exact hsm m hm,by rw[hk5 nx or or];exact hbx,aLC,aKT,aEu,hf2,aKi,aKh⟩ (by simp only[WkL,aD,jH,jI,jJ,hw,go_sem,reduceIte,jA,jB,jC,jD,reduceCtorEq,jE,jF])
 have hc:decide ((i:Int)<(l.length:Int))=false:=dcf;have hie:i=l.length:=or;subst hie;rw[List.take_length] at aCx;have aBB:=hf.done hgr aAh aCx;refine aue hc ?_;rw[←hQ];have hmb:many≤1000000∧0≤many:=by
  have:=hf.many;have:=dV (c:=dQ) (l.take l.length);rw[Kv] at this;omega
 have hlf:=low.aAA;have hhf:=high.aAA;have E1:=e8 hb1 hb2 hbx m0 m1 m2 hzf Ka;cases c3:(g==3) with
 |true=>
  have g3:g=3:=by simpa using c3
  rw[if_pos g3] at aBB;refine aue (e2 c3 E1) ?_;refine aL (by simp only[Ka,aQ (Ka _),aV hzf (Ka _),go_sem,reduceIte,jA,jB,jC,jD,reduceCtorEq,jE,jF]) h' (lef hd (hsm.le hd (Kc _))) ⟨?_,rfl⟩;simp only[Ka,aQ (Ka _),aV hzf (Ka _),go_sem,reduceIte,jA,jB,jC,jD,reduceCtorEq,jE,jF];rw[aBB]
 |false=>
 have g3:g≠3:=by simpa using c3
 rw[if_neg g3] at aBB;cases c4:(g==4) with
 |true=>
  have g4:g=4:=by simpa using c4
  rw[if_pos g4] at aBB;refine aue (e3 c3 c4 E1) ?_;refine aL (by simp only[Ka,aQ (Ka _),aV hzf (Ka _),go_sem,reduceIte,jA,jB,jC,jD,reduceCtorEq,jE,jF]) h' (lef hd (hsm.le hd (Kc _))) ⟨?_,rfl⟩;simp only[Ka,aQ (Ka _),aV hzf (Ka _),go_sem,reduceIte,jA,jB,jC,jD,reduceCtorEq,jE,jF];rw[aBB]
 |false=>
 have g4:g≠4:=by simpa using c4
 rw[if_neg g4] at aBB;cases c5:(g==1) with
 |true=>
  have g1:g=1:=by simpa using c5
  rw[if_pos g1] at aBB;have k1:decide (2147483647<many)=false:=dcf;have k2:decide (many< -2147483647)=false:=dcf;refine aue (e6 c3 c4 c5 k1 k2 E1) ?_;refine aL (by simp only[Ka,aQ (Ka _),aV hzf (Ka _),go_sem,reduceIte,jA,jB,jC,jD,reduceCtorEq,jE,jF]) h' (lef hd (hsm.le hd (Kc _))) ⟨?_,rfl⟩;simp only[Ka,aQ (Ka _),aV hzf (Ka _),go_sem,reduceIte,jA,jB,jC,jD,reduceCtorEq,jE,jF];have:iI many=true:=decide_eq_true or;rw[aBB,ofV,if_pos this];rfl
 |false=>
 have g1:g≠1:=by simpa using c5
 rw[if_neg g1] at aBB;cases k1:decide (2147483647<sum) with
 |true=>
  have:=of_decide_eq_true k1;have hbn:¬iI sum=true:=by simp only[iI,decide_eq_true_eq];omega
  refine aue (e5 c3 c4 c5 k1 E1) ?_;refine aL (by simp only[Ka,aQ (Ka _),aV hzf (Ka _),go_sem,reduceIte,jA,jB,jC,jD,reduceCtorEq,jE,jF]) h' (lef hd (hsm.le hd (Kc _))) ⟨?_,rfl⟩;simp only[Ka,aQ (Ka _),aV hzf (Ka _),go_sem,reduceIte,jA,jB,jC,jD,reduceCtorEq,jE,jF];rw[aBB,ofV,if_neg hbn];rfl
 |false=>
 have:=of_decide_eq_false k1;cases k2:decide (sum< -2147483647) with
 |true=>
  have:=of_decide_eq_true k2;have hbn:¬iI sum=true:=by simp only[iI,decide_eq_true_eq];omega
  refine aue (e6 c3 c4 c5 k1 k2 E1) ?_;refine aL (by simp only[Ka,aQ (Ka _),aV hzf (Ka _),go_sem,reduceIte,jA,jB,jC,jD,reduceCtorEq,jE,jF]) h' (lef hd (hsm.le hd (Kc _))) ⟨?_,rfl⟩;simp only[Ka,aQ (Ka _),aV hzf (Ka _),go_sem,reduceIte,jA,jB,jC,jD,reduceCtorEq,jE,jF];rw[aBB,ofV,if_neg hbn];rfl
 |false=>
  have:=of_decide_eq_false k2;have hbn:iI sum=true:=by simp only[iI,decide_eq_true_eq];omega
  refine aue (e6 c3 c4 c5 k1 k2 E1) ?_;refine aL (by simp only[Ka,aQ (Ka _),aV hzf (Ka _),go_sem,reduceIte,jA,jB,jC,jD,reduceCtorEq,jE,jF]) h' (lef hd (hsm.le hd (Kc _))) ⟨?_,rfl⟩;simp only[Ka,aQ (Ka _),aV hzf (Ka _),go_sem,reduceIte,jA,jB,jC,jD,reduceCtorEq,jE,jF];rw[aBB,ofV,if_pos hbn];rfl
theorem gs(l:List V)(i j:Nat)(v d:V):(l.set i v).getD j d=if i=j∧j<l.length then v else l.getD j d:=by
 rw[Kt,Kt,List.getElem?_set];split
 ·rename_i e;subst e;split
  ·rename_i h;rw[if_pos ⟨rfl,h⟩];rfl
  rename_i h;rw[if_neg (fun k=>h k.2),List.getElem?_eq_none or]
 rename_i e;rw[if_neg (fun k=>e k.1)]
theorem rM:∀(n k:Nat) (ps:List (Nat×V)) (sl:List V),sl.length=n→(∀p∈ps,k≤p.1→p.1<k+n→sl.getD (p.1-k) Kb=p.2)→WkL sl (aD n k ps)
 |0,k,ps,sl,hl,_=>by
  have:sl=[]:=List.length_eq_zero_iff.1 hl;subst this;trivial
 |n+1,k,ps,[],hl,_=>by simp at hl
 |n+1,k,ps,a::sl,hl,h=>by
  have hl:sl.length=n:=by simpa using hl
  cases ps with
  |nil=>exact⟨.inr rfl,rM n (k+1) [] sl hl Zm⟩
  |cons q r=>
   obtain⟨j,v⟩:=q;have tail:∀p∈(j,v)::r,k+1≤p.1→p.1<k+1+n→sl.getD (p.1-(k+1)) Kb=p.2:=fun p hp h1 h2=>by
    have:=h p hp or or;rw[show p.1-k=(p.1-(k+1))+1 by omega,List.getD_cons_succ] at this;exact this
   unfold aD;split
   ·rename_i e;subst e;have h0:=h (j,v) Zm (Km _) (Nat.lt_add_of_pos_right (Nat.succ_pos n));rw[Nat.sub_self,Kp] at h0;exact⟨.inl h0.symm,rM n (j+1) r sl hl fun p hp=>tail p (by simp[hp])⟩
   exact⟨.inr rfl,rM n (k+1) _ sl hl tail⟩
structure RI(A:V)(es:List V)(x:Vl)(g:V)(nx n1:Nat)(hp:Hp)(D:Nat→Bool)(b1 b2:Nat)(s:St):Prop where
 len:s.sl.length=126
 s0:s.sl.getD 0 Kb=g
 s1:s.sl.getD 1 Kb=A
 s4:s.sl.getD 4 Kb= .ptr nx (.agg 3) 0 0
 d0:D 0=true→s.sl.getD 38 Kb=A
 d1:D 1=true→s.sl.getD 39 Kb= .ept (.agg 3) es 0 0
 d2:D 2=true→s.sl.getD 40 Kb=x.v
 d3:D 3=true→s.sl.getD 41 Kb=A
 d4:D 4=true→s.sl.getD 42 Kb= .ept (.agg 3) es 0 0
 d5:D 5=true→s.sl.getD 43 Kb=x.v
 d6:D 6=true→s.sl.getD 9 Kb= .ptr b1 (.agg 3) 0 0
 d7:D 7=true→s.sl.getD 10 Kb= .ptr b2 (.agg 3) 0 0
 d8:D 8=true→s.sl.getD 7 Kb= .int .i64 0
 d9:D 9=true→s.sl.getD 8 Kb= .int .i64 0
 n6:D 6=true→n1≤b1∧b1<s.nx
 n7:D 7=true→n1≤b2∧b2<s.nx
 ne:D 6=true→D 7=true→b1≠b2
 h6:D 6=true→s.h b1=some (bx (if D 10=true then x else eD))
 h7:D 7=true→s.h b2=some (bx (if D 11=true then x else eD))
 dm:aW s.h s.nx
 sm:Kf n1 hp s.h
 nn:n1≤s.nx
theorem RI.slot{A:V}{es:List V}{x:Vl}{g:V}{nx n1:Nat}{hp:Hp}{D:Nat→Bool}{b1 b2:Nat}{sl:List V}{h:Hp}{n2:Nat}(r:RI A es x g nx n1 hp D b1 b2 ⟨sl,h,n2⟩)(t i:Nat)(v:V)
 (hi:(i=0∧t=38∧v=A)∨(i=1∧t=39∧v= .ept (.agg 3) es 0 0)∨(i=2∧t=40∧v=x.v)∨(i=3∧t=41∧v=A)∨(i=4∧t=42∧v= .ept (.agg 3) es 0 0)∨(i=5∧t=43∧v=x.v)∨(i=8∧t=7∧v= .int .i64 0)∨(i=9∧t=8∧v= .int .i64 0)):
 RI A es x g nx n1 hp (fun j=>if j=i then true else D j) b1 b2 ⟨sl.set t v,h,n2⟩:=by
 obtain⟨len,s0,s1,s4,d0,d1,d2,d3,d4,d5,d6,d7,d8,d9,n6,n7,ne,h6,h7,dm,sm,nn⟩:=r;dsimp only at*;rcases hi with⟨rfl,rfl,rfl⟩|⟨rfl,rfl,rfl⟩|⟨rfl,rfl,rfl⟩|⟨rfl,rfl,rfl⟩|⟨rfl,rfl,rfl⟩|⟨rfl,rfl,rfl⟩|⟨rfl,rfl,rfl⟩|⟨rfl,rfl,rfl⟩<;>
  (constructor<;>(try simp only[gs,len,Kj])<;>first|(simp;done)|(simp;assumption)|assumption)
section
variable{A:V}{es:List V}{x:Vl}{g:V}{nx n1:Nat}{hp:Hp}{D:Nat→Bool}{b1 b2:Nat}{sl:List V}{h:Hp}{n2:Nat}
theorem RI.aT9(r:RI A es x g nx n1 hp D b1 b2 ⟨sl,h,n2⟩)(n10:D 10=false):RI A es x g nx n1 hp (fun j=>if j=6 then true else D j) n2 b2 ⟨sl.set 9 (.ptr n2 (.agg 3) 0 0),h.set n2 (bx eD),n2+1⟩:=by
 obtain⟨len,s0,s1,s4,d0,d1,d2,d3,d4,d5,d6,d7,d8,d9,n6,n7,ne,h6,h7,dm,sm,nn⟩:=r;dsimp only at*;constructor;case n6=>exact fun _=>⟨nn,Ko _⟩
 case n7=>exact fun e=>by have:=n7 e;exact⟨this.1,Kh this.2⟩
 case ne=>exact fun _ e=>by have:=n7 e;omega
 case h6=>exact fun _=>by simp[Kd,n10]
 case h7=>exact fun e=>by have:=n7 e;dsimp only[Kd];rw[if_neg or];simpa using h7 e
 case dm=>exact aW.set dm (Ko _) (Ky _) _
 case sm=>exact eT sm nn _
 case nn=>exact Kk nn
 all_goals ((try simp only[gs,len,Kj])<;>first|(simp;done)|(simp;assumption)|assumption)
theorem RI.aT8(r:RI A es x g nx n1 hp D b1 b2 ⟨sl,h,n2⟩)(n11:D 11=false):RI A es x g nx n1 hp (fun j=>if j=7 then true else D j) b1 n2 ⟨sl.set 10 (.ptr n2 (.agg 3) 0 0),h.set n2 (bx eD),n2+1⟩:=by
 obtain⟨len,s0,s1,s4,d0,d1,d2,d3,d4,d5,d6,d7,d8,d9,n6,n7,ne,h6,h7,dm,sm,nn⟩:=r;dsimp only at*;constructor;case n7=>exact fun _=>⟨nn,Ko _⟩
 case n6=>exact fun e=>by have:=n6 e;exact⟨this.1,Kh this.2⟩
 case ne=>exact fun e _=>by have:=n6 e;omega
 case h7=>exact fun _=>by simp[Kd,n11]
 case h6=>exact fun e=>by have:=n6 e;dsimp only[Kd];rw[if_neg or];simpa using h6 e
 case dm=>exact aW.set dm (Ko _) (Ky _) _
 case sm=>exact eT sm nn _
 case nn=>exact Kk nn
 all_goals ((try simp only[gs,len,Kj])<;>first|(simp;done)|(simp;assumption)|assumption)
theorem RI.st1(r:RI A es x g nx n1 hp D b1 b2 ⟨sl,h,n2⟩)(q6:D 6=true):RI A es x g nx n1 hp (fun j=>if j=10 then true else D j) b1 b2 ⟨sl,h.set b1 (bx x),n2+1⟩:=by
 obtain⟨len,s0,s1,s4,d0,d1,d2,d3,d4,d5,d6,d7,d8,d9,n6,n7,ne,h6,h7,dm,sm,nn⟩:=r;dsimp only at*;constructor;case h6=>exact fun _=>by simp[Kd]
 case h7=>exact fun e=>by have:=ne q6 e;dsimp only[Kd];rw[if_neg or];simpa using h7 e
 case n6=>exact fun e=>by have:=n6 e;exact⟨this.1,Kh this.2⟩
 case n7=>exact fun e=>by have:=n7 (by simpa using e);exact⟨this.1,Kh this.2⟩
 case dm=>exact aW.set dm (Kh (n6 q6).2) (Ky _) _
 case nn=>exact Kk nn
 case sm=>exact eT sm (n6 q6).1 _
 all_goals ((try simp only[gs,len,Kj])<;>first|(simp;done)|(simp;assumption)|assumption)
theorem RI.st2(r:RI A es x g nx n1 hp D b1 b2 ⟨sl,h,n2⟩)(q7:D 7=true):RI A es x g nx n1 hp (fun j=>if j=11 then true else D j) b1 b2 ⟨sl,h.set b2 (bx x),n2+1⟩:=by
 obtain⟨len,s0,s1,s4,d0,d1,d2,d3,d4,d5,d6,d7,d8,d9,n6,n7,ne,h6,h7,dm,sm,nn⟩:=r;dsimp only at*;constructor;case h7=>exact fun _=>by simp[Kd]
 case h6=>exact fun e=>by have:=ne e q7;dsimp only[Kd];rw[if_neg or];simpa using h6 e
 case n6=>exact fun e=>by have:=n6 (by simpa using e);exact⟨this.1,Kh this.2⟩
 case n7=>exact fun e=>by have:=n7 e;exact⟨this.1,Kh this.2⟩
 case dm=>exact aW.set dm (Kh (n7 q7).2) (Ky _) _
 case nn=>exact Kk nn
 case sm=>exact eT sm (n7 q7).1 _
 all_goals ((try simp only[gs,len,Kj])<;>first|(simp;done)|(simp;assumption)|assumption)
end
set_option maxRecDepth 100000 in
set_option maxHeartbeats 4000000 in
theorem ny(g:Int)(o:Own)(l:List Vl)(hl:l.length≤1000000)(hs:∀x∈l,x.sm)(h:Hp):aO Tryz.prog 53 [.int .i64 g,vls o l] h (.tup [(dD g l).1.v, .int .i64 (dD g l).2]):=by
 refine aI (fun L=>⟨Vl.aAI L _,trivial,trivial⟩) fun h' nx hh=>aB L.aS5 fun hd=>?_;simp only[jL,jM,jA,jB,jN,jO,jP,jQ,Kb];have hzf:Kg (.agg 3) zvl=true:=rfl;by_cases h1:g<1
 ·have c1:decide (g<1)=true:=dct;refine aue c1 ?_;refine aL (by simp only[go_sem,reduceIte,jA,jB,jC,jD,reduceCtorEq,jE,jF]) h' (leo hd) ⟨?_,rfl⟩;refine Zn ?_;unfold dD;rw[if_pos (.inl h1)];rfl
 have c1:decide (g<1)=false:=dcf;by_cases h2:4<g
 ·have c2:decide (4<g)=true:=dct;refine aue (e2 c1 c2) ?_;refine aL (by simp only[go_sem,reduceIte,jA,jB,jC,jD,reduceCtorEq,jE,jF]) h' (leo hd) ⟨?_,rfl⟩;refine Zn ?_;unfold dD;rw[if_pos (.inr h2)];rfl
 have c2:decide (4<g)=false:=dcf;have hgr:¬(g<1∨4<g):=or;by_cases h3:l=[]
 ·have c3:((l.length:Int)==0)=true:=by rw[h3];rfl
  refine aue (e4 c1 c2 c3 (@jK Vl V)) ?_;refine aL (by simp only[go_sem,reduceIte,jA,jB,jC,jD,reduceCtorEq,jE,jF]) h' (leo hd) ⟨?_,rfl⟩;refine Zn ?_;unfold dD;rw[if_neg hgr,if_pos h3];rfl
 have hlp:0<l.length:=List.length_pos_iff.2 h3;have c3:((l.length:Int)==0)=false:=bqf;refine aue (e4 c1 c2 c3 (@jK Vl V)) ?_
 refine aT (fun i:Nat=>aD 126 0 [(0, .int .i64 g),(1,vls o l),(4, .ptr nx (.agg 3) 0 0),(6, .int .i64 i)])
  (fun i hp nx1=>i≤l.length∧nx+1≤nx1∧aW hp nx1∧Kf nx h' hp∧hp nx=some (.arr (.agg 3) [zvl])∧∀x∈l.take i,cF x=true)
  (fun i=>l.length-i) 0 ⟨KD _,ZN,dmo hd,kep Hp.same.aAt,by simp[Kd,zvl,Ke],Zm⟩ (by simp only[WkL,aD,jH,jI,jJ,go_sem,reduceIte,jA,jB,jC,jD,reduceCtorEq,jE,jF]) ?_
 rintro i hp nx1 ⟨hi,hnx,hdm,hsm,hbx,aAh⟩;generalize hQ:bB _ _ _ _ _=Q0;simp only[aD,go_sem,reduceIte,jA,jB,jC,jD,reduceCtorEq,jE,jF];have aLJ:nx<nx1:=or;rcases KC i l.length with hlt|hge
 ·have hc:decide ((i:Int)<(l.length:Int))=true:=dct;have hw:IntKind.i64.wrap ((i:Int)+1)=((i+1:Nat):Int):=wrp;have hg:=aR Ke l i hlt;have C1:=fun h=>kC l[i] (hs _ (Kw _)) h;cases hr:cF l[i] with
  |true=>
   rw[hr] at C1;refine aue (e9 hc hw hg hlt (@jK Vl V) jG Ka KG KF) ?_;rw[←hQ];refine aH (i+1) or ⟨hlt,or,dmo hdm,kep hsm,hbx,fun y hy=>?_⟩ (by simp only[WkL,aD,jH,jI,jJ,hw,go_sem,reduceIte,jA,jB,jC,jD,reduceCtorEq,jE,jF]);rw[Ki hlt] at hy;rcases Kx.1 hy with hy|hy
   ·exact aAh y hy
   rw[Kq.1 hy];exact hr
  |false=>
   rw[hr] at C1;refine aue (e12 hc hw hg hlt (@jK Vl V) jG Ka KG KF hbx aLJ hzf) ?_;rw[←hQ];refine au ?_;refine aL (by simp only[go_sem,reduceIte,jA,jB,jC,jD,reduceCtorEq,jE,jF]) h' (lef hd (hsm.le hd (Kc _))) ⟨?_,rfl⟩;refine Zn ?_;unfold dD;rw[if_neg hgr,if_neg h3,if_pos (fun k=>by rw[k _ (Kw hlt)] at hr;cases hr)];rfl
 have hc:decide ((i:Int)<(l.length:Int))=false:=dcf;rw[List.take_of_length_le hge] at aAh;refine aue hc ?_;rw[←hQ];refine aus ?_;clear hQ Q0 hge hi hc;obtain⟨x0,l',hxl⟩:∃x l',l=x::l':=by
  cases l with
  |nil=>exact absurd rfl h3
  |cons a b=>exact⟨a,b,rfl⟩
 refine tS ?_;have hfA:Kg (.agg 3) x0.v=true:=x0.aAA;obtain⟨es,hes⟩:∃es,es=l.map Ke:=⟨_,rfl⟩;have hel:0<es.length:=by rw[hes];simpa using hlp
 have he0:es.getD 0 Kb=x0.v:=by rw[hes,hxl];rfl
 refine⟨fun D s=>∃b1 b2,RI (.sl (.agg 3) o es) es x0 (.int .i64 g) nx nx1 hp D b1 b2 s,⟨0,0,?_⟩,?_,?_⟩
 ·constructor<;>first|exact hdm|exact Hp.same.aAt|exact Km _|(intro h;cases h)|(rw[hes];rfl)|rfl|skip
 ·rintro D i oo aAJ ⟨sl,hq,n2⟩ hi hDi aAm hcl ⟨b1,b2,r⟩;rcases i with _|_|_|_|_|_|_|_|_|_|_|_|i;all_goals first|(injection hi with hi;injection hi with q1 q2;subst q1;subst q2)|skip
  all_goals try simp only[KH,Ku,or_false,forall_eq_or_imp,forall_eq,false_implies,implies_true] at aAm
  all_goals simp only[aZ,LOp.run,LOp.sem,aY.sem,aK.ev,r.s1,bJ]
  ·exact⟨b1,b2,r.slot 38 0 _ Zm⟩
  ·simp only[r.d0 aAm];exact⟨trivial,KI _,or,b1,b2,r.slot 39 1 _ Zm⟩
  ·simp only[r.d1 aAm.2];exact⟨hel,by simp[bV],b1,b2,r.slot 40 2 _ (by rw[aQ (by rw[he0];exact hfA),he0];simp)⟩
  ·exact⟨b1,b2,r.slot 41 3 _ Zm⟩
  ·simp only[r.d3 aAm];exact⟨trivial,KI _,or,b1,b2,r.slot 42 4 _ Zm⟩
  ·simp only[r.d4 aAm.2];exact⟨hel,by simp[bV],b1,b2,r.slot 43 5 _ (by rw[aQ (by rw[he0];exact hfA),he0];simp)⟩
  ·exact⟨rfl,n2,b2,r.aT9 (by
    cases h:D 10 with
    |false=>rfl
    |true=>have:=hcl 10 _ _ rfl h 6 Zm;rw[hDi] at this;cases this)⟩
  ·exact⟨rfl,b1,n2,r.aT8 (by
    cases h:D 11 with
    |false=>rfl
    |true=>have:=hcl 11 _ _ rfl h 7 Zm;rw[hDi] at this;cases this)⟩
  ·exact⟨b1,b2,r.slot 7 8 _ Zm⟩
  ·exact⟨b1,b2,r.slot 8 9 _ Zm⟩
  ·have q6:=aAm.2.2.2.1;have e1:=r.h6 q6;have e2:=r.d2 aAm.2.2.1;dsimp only at e1 e2;rw[hDi] at e1;simp only[r.d6 q6,e1,e2];exact⟨trivial,KE,by simp[bV],hfA,b1,b2,by
    have:=r.st1 q6;simp only[Ks,if_false,Kp,KB];rw[aV (show Kg (.agg 3) eD.v=true from rfl) hfA];exact this⟩
  ·have q7:=aAm.2.2.2.2.2.2.2.1;have e1:=r.h7 q7;have e2:=r.d5 aAm.2.2.2.2.2.1;dsimp only at e1 e2;rw[hDi] at e1;simp only[r.d7 q7,e1,e2];exact⟨trivial,KE,by simp[bV],hfA,b1,b2,by
    have:=r.st2 q7;simp only[Ks,if_false,Kp,KB];rw[aV (show Kg (.agg 3) eD.v=true from rfl) hfA];exact this⟩
  simp[L.aD1] at hi
 rintro D ⟨sl,hp2,n2⟩ hD ⟨b1,b2,r⟩;have dd:=fun i (h:i<12)=>hD i h;obtain⟨len,s0,s1,s4,_,_,_,_,_,_,d6,d7,d8,d9,n6,n7,ne,h6,h7,dm,sm,nn⟩:=r;dsimp only at*;have d6:=d6 (dd 6 or);have d7:=d7 (dd 7 or);have d8:=d8 (dd 8 or);have d9:=d9 (dd 9 or);have n6:=n6 (dd 6 or);have n7:=n7 (dd 7 or);have ne:=ne (dd 6 or) (dd 7 or);have h6:=h6 (dd 6 or);have h7:=h7 (dd 7 or);rw[dd 10 or,if_pos rfl] at h6;rw[dd 11 or,if_pos rfl] at h7;refine fC ?_;refine mX ⟨aD 126 0 [(0, .int .i64 g),(1,vls o l),(4, .ptr nx (.agg 3) 0 0),(7, .int .i64 0),(8, .int .i64 0),(9, .ptr b1 (.agg 3) 0 0),(10, .ptr b2 (.agg 3) 0 0)],hp2,n2⟩ ⟨rM 126 0 _ sl len ?_,Kc _,Km _⟩ ?_
 ·simp only[KH,Ku,or_false,forall_eq_or_imp,forall_eq,Nat.sub_zero];rw[s0,s1,s4,d6,d7,d8,d9,hes];simp
 have aCB:hp2 nx=some (.arr (.agg 3) [zvl]):=by rw[sm nx or];exact hbx
 have aBF:Kf nx h' hp2:=fun m hm=>by rw[sm m or];exact hsm m hm
 clear hdm hsm hbx hD dd d6 d7 d8 d9 s0 s1 s4 len hnx sm;exact nw g o l hl h1 h2 h3 aAh x0 (by rw[hxl];simp) h' nx hd hp2 n2 b1 b2 or or or ne h6 h7 dm aCB aBF
end Go.Proofs.YtjfdoohogiojcaaGreatDoor
