/-
Texts of this proof,one behind the other. No conditions.
-/
import Derived.Test.YtgbiopfghdilnaaGreatDoorKd
import Derived.Test.YtgbiopfghdilnaaGreatDoorKs
import Derived.Test.YtgbiopfghdilnaaGreatDoorKe
open Go.Proofs.YtgbiopfghdilnaaGreatDoor.Hp renaming le_refl→Ka
open Nat renaming reduceAdd→Kb,reduceSub→Kc,reduceLeDiff→Kj,reduceEqDiff→Kk,reduceLT→Ko
open List renaming replicate_succ→Kd,replicate_zero→Ke,length_cons→Kf,cons_append→Kg,length_nil→Kh,nil_append→Ki
open Int renaming reduceToNat→Km
open Nat renaming reduceAdd→jA,reduceSub→jB,reduceLT→jC,reduceLeDiff→jD,reduceEqDiff→jE
open Int renaming reduceToNat→jF
open List renaming length_cons→jL,length_nil→jM,replicate_succ→jN,replicate_zero→jO,cons_append→jP,nil_append→jQ
set_option linter.unusedSimpArgs false
set_option linter.unusedVariables false
set_option linter.unusedSectionVars false
set_option maxHeartbeats 8000000
namespace Go.Proofs.YtgbiopfghdilnaaGreatDoor
open Go.RowKit Go.Sort
attribute [local irreducible] IntKind.wrap
set_option maxHeartbeats 4000000
def nS(p:Vl×Int):Int×Int:=if p.2≠0 then (0,p.2) else if p.1.k≠1 then (0,7) else (p.1.n,0)
def opB(op a b:Int):Int:=if op=1 then a+b else if op=2 then a-b else a*b
def cM(l:List Tr):Nat→Ex→Vl×Int
 |0, .mk _ t _ _=>cO t l
 |n+1, .mk op t _ ks=>if op=0 then cO t l else match ks with
  | [a,b]=>if (nS (cM l n a)).2≠0 then (gR,(nS (cM l n a)).2) else if (nS (cM l n b)).2≠0 then (gR,(nS (cM l n b)).2) else ofV (opB op (nS (cM l n a)).1 (nS (cM l n b)).1)
  |_=>(gR,0)
theorem jv{t:Tr}{l:List Tr}(h:(cO t l).2=0):cC (cO t l).1=true:=by
 unfold cO at h⊢;split
 ·rename_i h0;rw[if_pos h0] at h;split
  ·rename_i h1;exact h1
  rename_i h1;rw[if_neg h1] at h;cases h
 rename_i h0;rw[if_neg h0] at h;cases hk:lkB t.x l with
 |none=>rw[hk] at h;cases h
 |some w=>
  rw[hk] at h;simp only at h⊢;split
  ·rename_i h1;exact h1
  rename_i h1;rw[if_neg h1] at h;cases h
theorem BM{n:Int}(h:(ofV n).2=0):cC (ofV n).1=true:=by
 unfold ofV at h⊢;split
 ·rename_i hb;simp only[cC];rw[hb];rfl
 rename_i hb;rw[if_neg hb] at h;cases h
theorem zL{l:List Tr}:∀{n:Nat} {e:Ex},eW n e=true→(cM l n e).2=0→cC (cM l n e).1=true
 |0, .mk op t o ks,_,h=>jv h
 |n+1, .mk op t o ks,hr,h=>by
  unfold cM at h⊢;unfold eW at hr;by_cases h0:op=0
  ·rw[if_pos h0] at h⊢;exact jv h
  rw[if_neg h0] at h hr⊢;match ks,hr with
  | [a,b],_=>
   simp only at h⊢;split
   ·rename_i h1;rw[if_pos h1] at h;exact absurd h h1
   rename_i h1;rw[if_neg h1] at h;split
   ·rename_i h2;rw[if_pos h2] at h;exact absurd h h2
   rename_i h2;rw[if_neg h2] at h;exact BM h
theorem s8{l:List Tr}{n:Nat}{e:Ex}(hr:eW n e=true):-2147483647≤(nS (cM l n e)).1∧(nS (cM l n e)).1≤2147483647:=by
 unfold nS;split
 ·simp
 split
 ·simp
 rename_i h _;exact gz (zL hr (Classical.not_not.1 h))
theorem BP{a b:Int}(a1:-2147483647≤a)(a2:a≤2147483647)(b1:-2147483647≤b)(b2:b≤2147483647):-4611686014132420609≤a*b∧a*b≤4611686014132420609:=by
 have h1:a.natAbs*b.natAbs≤2147483647*2147483647:=Nat.mul_le_mul or or;have h2:(a*b).natAbs=a.natAbs*b.natAbs:=Int.natAbs_mul a b;omega
theorem BO{a b:Int}(a1:-2147483647≤a)(a2:a≤2147483647)(b1:-2147483647≤b)(b2:b≤2147483647):IntKind.i64.wrap (a*b)=a*b:=by
 have:=BP a1 a2 b1 b2;exact wrp
theorem BE(e:Int):veq (mS.iface true) (dP e) V.nilIface=some (decide (e=0)):=by
 unfold dP;split
 ·rename_i h;rw[decide_eq_true h];rfl
 rename_i h;rw[decide_eq_false h];rfl
theorem uh{e:Ex}{p:Vl×Int}{n:Nat}{es:List ME}{c:Nat}{h:Hp}(hm:h n=some (.mp es c))(hE:∀h':Hp,h' n=some (.mp es c)→aM Tryz.prog 151 [e.v, .map n] h' (.tup [p.1.v,dP p.2])):
 aM Tryz.prog 183 [e.v, .map n] h (.tup [.int .i64 (nS p).1,dP (nS p).2]):=by
 refine aJ (fun L=>⟨trivial,dO L _,trivial⟩) fun h' nx hh=>aB L.aR2 fun hd=>?_;simp only[jL,jM,jA,jB,jN,jO,jP,jQ,V.undef];have hn1:=hh _ _ hm rfl;have hn2:n<nx:=hd _ _ hn1;have C:=hE (h'.set nx (.arr (.agg 6) [e.v])) (by simp only[Hp.set];rw[if_neg or];exact hn1);have hf:=Ex.aAD e;obtain⟨X,hX⟩:∃X,e.v=X:=⟨_,rfl⟩;rw[hX] at C hf⊢;have hv:=BE p.2;have hwf:=Vl.aAD p.1;obtain⟨T,hT,hk0,hk1⟩:∃T,p.1.v= .agg T∧T.getD 0 (.tup [])= .int .i64 p.1.k∧T.getD 1 (.tup [])= .int .i64 p.1.n:=⟨_,rfl,rfl,rfl⟩;rw[hT] at C hwf;unfold nS;by_cases h0:p.2=0
 ·rw[decide_eq_true h0] at hv;rw[if_neg (by simp[h0])];by_cases h1:p.1.k=1
  ·have g1:(p.1.k != 1)=false:=bnf;rw[if_neg (by simp[h1])];refine aue hf ?_;refine aH C rfl (aK _) ?_;refine aue (e5 hv hwf hk0 hk1 g1) ?_;exact aV h' (leo hd) ⟨rfl,rfl⟩
  have g1:(p.1.k != 1)=true:=bnt;rw[if_pos h1];refine aue hf ?_;refine aH C rfl (aK _) ?_;refine aue (e5 hv hwf hk0 hk1 g1) ?_;exact aV h' (leo hd) ⟨rfl,rfl⟩
 rw[decide_eq_false h0] at hv;rw[if_pos h0];refine aue hf ?_;refine aH C rfl (aK _) ?_;refine aue (e3 hv hwf hk0) ?_;exact aV h' (leo hd) ⟨rfl,rfl⟩
theorem rD(l:List Tr):∀(k:Nat) (e:Ex),eW k e=true→∀(n:Nat) (es:List ME) (c:Nat) (h:Hp),h n=some (.mp es c)→vW es l→aM Tryz.prog 151 [e.v, .map n] h (.tup [(cM l k e).1.v,dP (cM l k e).2]):=by
 have base:∀(t:Tr) (o:Own) (ks:List Ex) (n:Nat) (es:List ME) (c:Nat) (h:Hp),h n=some (.mp es c)→vW es l→aM Tryz.prog 151 [(Ex.mk 0 t o ks).v, .map n] h (.tup [(cO t l).1.v,dP (cO t l).2]):=by
  intro t o ks n es c h hm he;refine aJ (fun L=>⟨Vl.aAQ L _,dO L _,trivial⟩) fun h' nx hh=>aB L.aSY fun hd=>?_;simp only[jL,jM,jA,jB,jN,jO,jP,jQ,V.undef];have hn1:=hh _ _ hm rfl;have hn2:n<nx:=hd _ _ hn1;have hev:(Ex.mk 0 t o ks).v= .agg [.int .i64 0, .str t.x, .int .i64 t.w.k, .int .i64 t.w.n, .str t.w.s, .sl (.agg 6) o (ks.map Ex.v)]:=by rw[Ex.aAs];rfl
  rw[hev];have hwf:=Vl.aAD (cO t l).1;have hz:((0:Int)==0)=true:=rfl;have C:∀h,h n=some (.mp es c)→aM Tryz.prog 62 [.agg [.str t.x, .int .i64 t.w.k, .int .i64 t.w.n, .str t.w.s], .map n] h (.tup [(cO t l).1.v,dP (cO t l).2]):=fun h hm=>rB t l n es c h hm he;refine aue hz ?_;refine aH (C _ ?_) rfl (aK _) ?_
  ·simp only[hn1,hn2,go_sem,reduceIte,jA,jB,jC,jD,reduceCtorEq,jE,jF]
  refine aue hwf ?_;refine bI (by simp only[hwf,bC hwf,go_sem,reduceIte,jA,jB,jC,jD,reduceCtorEq,jE,jF]) h' (leo hd) ⟨?_,rfl⟩;simp only[hwf,bC hwf,go_sem,reduceIte,jA,jB,jC,jD,reduceCtorEq,jE,jF]
 intro k;induction k with
 |zero=>
  rintro⟨op,t,o,ks⟩ hr n es c h hm he;obtain⟨rfl,_⟩:=of_decide_eq_true hr;exact base t o ks n es c h hm he
 |succ k ih=>
  rintro⟨op,t,o,ks⟩ hr n es c h hm he;by_cases h0:op=0
  ·subst h0;unfold cM;rw[if_pos rfl];exact base t o ks n es c h hm he
  unfold eW at hr;unfold cM;rw[if_neg h0] at hr⊢;match ks,hr with
  | [a,b],hr=>
   obtain⟨_,_,_,ha,hb⟩:=of_decide_eq_true hr;simp only;refine aJ (fun L=>⟨Vl.aAQ L _,dO L _,trivial⟩) fun h' nx hh=>aB L.aSY fun hd=>?_;simp only[jL,jM,jA,jB,jN,jO,jP,jQ,V.undef];have hn1:=hh _ _ hm rfl;have hn2:n<nx:=hd _ _ hn1;have hev:(Ex.mk op t o [a,b]).v= .agg [.int .i64 op, .str t.x, .int .i64 t.w.k, .int .i64 t.w.n, .str t.w.s, .sl (.agg 6) o [a.v,b.v]]:=by rw[Ex.aAs];rfl
   rw[hev];have CA:∀h,h n=some (.mp es c)→aM Tryz.prog 183 [a.v, .map n] h (.tup [.int .i64 (nS (cM l k a)).1,dP (nS (cM l k a)).2]):=fun h hm=>uh hm fun h' hm'=>ih a ha n es c h' hm' he;have CB:∀h,h n=some (.mp es c)→aM Tryz.prog 183 [b.v, .map n] h (.tup [.int .i64 (nS (cM l k b)).1,dP (nS (cM l k b)).2]):=fun h hm=>uh hm fun h' hm'=>ih b hb n es c h' hm' he;obtain⟨a1,a2⟩:=s8 (l:=l) ha;obtain⟨b1,b2⟩:=s8 (l:=l) hb;have hfa:=Ex.aAD a;have hfb:=Ex.aAD b;generalize nS (cM l k a)=pa at*;generalize nS (cM l k b)=pb at*;have va:=BE pa.2;have vb:=BE pb.2;have hz:(op==0)=false:=bqf;generalize a.v=A at*;generalize b.v=B at*;refine aue (e2 hz hfa) ?_;refine aH (CA _ ?_) rfl (aK _) ?_
   ·simp only[hn1,hn2,go_sem,reduceIte,jA,jB,jC,jD,reduceCtorEq,jE,jF]
   by_cases ea:pa.2=0
   ·rw[decide_eq_true ea] at va;rw[if_neg (by simp[ea])];refine aue (e3 hz hfb va) ?_;refine aH (CB _ ?_) rfl (aK _) ?_
    ·simp only[hn1,hn2,go_sem,reduceIte,jA,jB,jC,jD,reduceCtorEq,jE,jF]
    by_cases eb:pb.2=0
    ·rw[decide_eq_true eb] at vb;rw[if_neg (by simp[eb])];have C1:=fun h=>x9 (opB op pa.1 pb.1) h;have hwf:=Vl.aAD (ofV (opB op pa.1 pb.1)).1;unfold opB at C1 hwf⊢;by_cases o1:op=1
     ·have g1:(op==1)=true:=bqt;rw[if_pos o1] at C1 hwf⊢;have hw:IntKind.i64.wrap (pa.1+pb.1)=pa.1+pb.1:=wrp;refine aue (e4 g1 vb hw hwf) ?_;refine bI (by simp only[hwf,bC hwf,go_sem,reduceIte,jA,jB,jC,jD,reduceCtorEq,jE,jF]) h' (leo hd) ⟨?_,rfl⟩;simp only[hwf,bC hwf,go_sem,reduceIte,jA,jB,jC,jD,reduceCtorEq,jE,jF]
     have g1:(op==1)=false:=bqf;rw[if_neg o1] at C1 hwf⊢;by_cases o2:op=2
     ·have g2:(op==2)=true:=bqt;rw[if_pos o2] at C1 hwf⊢;have hw:IntKind.i64.wrap (pa.1-pb.1)=pa.1-pb.1:=wrp;refine aue (e5 g1 g2 vb hw hwf) ?_;refine bI (by simp only[hwf,bC hwf,go_sem,reduceIte,jA,jB,jC,jD,reduceCtorEq,jE,jF]) h' (leo hd) ⟨?_,rfl⟩;simp only[hwf,bC hwf,go_sem,reduceIte,jA,jB,jC,jD,reduceCtorEq,jE,jF]
     have g2:(op==2)=false:=bqf;rw[if_neg o2] at C1 hwf⊢;have hw:IntKind.i64.wrap (pa.1*pb.1)=pa.1*pb.1:=BO a1 a2 b1 b2;refine aue (e5 g1 g2 vb hw hwf) ?_;refine bI (by simp only[hwf,bC hwf,go_sem,reduceIte,jA,jB,jC,jD,reduceCtorEq,jE,jF]) h' (leo hd) ⟨?_,rfl⟩;simp only[hwf,bC hwf,go_sem,reduceIte,jA,jB,jC,jD,reduceCtorEq,jE,jF]
    rw[decide_eq_false eb] at vb;rw[if_pos eb];refine aue (e2 hz vb) ?_;refine bI (by simp only[go_sem,reduceIte,jA,jB,jC,jD,reduceCtorEq,jE,jF]) h' (leo hd) ⟨?_,rfl⟩;refine Zn ?_;rfl
   rw[decide_eq_false ea] at va;rw[if_pos ea];refine aue (e2 hz va) ?_;refine bI (by simp only[go_sem,reduceIte,jA,jB,jC,jD,reduceCtorEq,jE,jF]) h' (leo hd) ⟨?_,rfl⟩;refine Zn ?_;rfl
end Go.Proofs.YtgbiopfghdilnaaGreatDoor
namespace Go.Proofs.YtgbiopfghdilnaaGreatDoor
open Go.RowKit Go.Sort
attribute [local irreducible] IntKind.wrap
set_option maxHeartbeats 4000000
def t6(op:Int)(a b:Vl):Bool×Int:=
 if 3≤op∧(a.k≠1∨b.k≠1) then (false,7) else
 (if op=1 then decide (a=b) else if op=2 then !decide (a=b) else if op=3 then decide (a.n<b.n) else if op=4 then decide (a.n≤b.n) else if op=5 then decide (b.n<a.n) else decide (b.n≤a.n),0)
theorem oq(op:Int)(a b:Vl)(h1:1≤op)(h6:op≤6)(ha:cC a=true)(hb:cC b=true)(h:Hp):aM Tryz.prog 152 [.int .i64 op,a.v,b.v] h (.tup [.bool (t6 op a b).1,dP (t6 op a b).2]):=by
 refine aJ (fun L=>⟨trivial,dO L _,trivial⟩) fun h' nx hh=>aB L.aTo fun hd=>?_;simp only[Kf,Kh,Kb,Kc,Kd,Ke,Kg,Ki,V.undef];have C1:=fun h=>gB a h;have C2:=fun h=>gB b h;rw[ha] at C1;rw[hb] at C2;have hv:=fz a b;have hfa:=Vl.aAD a;have hfb:=Vl.aAD b;obtain⟨A,hA,ak,an⟩:∃T,a.v= .agg T∧T.getD 0 (.tup [])= .int .i64 a.k∧T.getD 1 (.tup [])= .int .i64 a.n:=⟨_,rfl,rfl,rfl⟩;obtain⟨B,hB,bk,bn⟩:∃T,b.v= .agg T∧T.getD 0 (.tup [])= .int .i64 b.k∧T.getD 1 (.tup [])= .int .i64 b.n:=⟨_,rfl,rfl,rfl⟩;rw[hA] at C1 hv hfa⊢;rw[hB] at C2 hv hfb⊢;have z1:decide (op<1)=false:=dcf;have z6:decide ((6:Int)<op)=false:=dcf;unfold t6;by_cases h3:3≤op
 ·have z3:decide (3≤op)=true:=dct;have e1:(op==1)=false:=bqf;have e2':(op==2)=false:=bqf;have n1:¬op=1:=or;have n2:¬op=2:=or;by_cases ka:a.k=1
  ·have ga:(a.k != 1)=false:=bnf;by_cases kb:b.k=1
   ·have gb:(b.k != 1)=false:=bnf;rw[if_neg (by simp[ka,kb]),if_neg n1,if_neg n2];by_cases o3:op=3
    ·have g3:(op==3)=true:=bqt;rw[if_pos o3];refine aue (e14 z1 z6 z3 hfa hfb ak an bk bn e1 e2' ga gb g3) ?_;exact aV h' (leo hd) ⟨rfl,rfl⟩
    have g3:(op==3)=false:=bqf;rw[if_neg o3];by_cases o4:op=4
    ·have g4:(op==4)=true:=bqt;rw[if_pos o4];refine aue (e14 z1 z6 z3 hfa hfb ak an bk bn e1 e2' ga gb (e2 g3 g4)) ?_;exact aV h' (leo hd) ⟨rfl,rfl⟩
    have g4:(op==4)=false:=bqf;rw[if_neg o4];by_cases o5:op=5
    ·have g5:(op==5)=true:=bqt;rw[if_pos o5];refine aue (e14 z1 z6 z3 hfa hfb ak an bk bn e1 e2' ga gb (e3 g3 g4 g5)) ?_;exact aV h' (leo hd) ⟨rfl,rfl⟩
    have g5:(op==5)=false:=bqf;rw[if_neg o5];refine aue (e14 z1 z6 z3 hfa hfb ak an bk bn e1 e2' ga gb (e3 g3 g4 g5)) ?_;exact aV h' (leo hd) ⟨rfl,rfl⟩
   have gb:(b.k != 1)=true:=bnt;rw[if_pos ⟨h3, .inr kb⟩];refine aue (e12 z1 z6 z3 hfa hfb ak an bk bn ga gb trivial) ?_;exact aV h' (leo hd) ⟨rfl,rfl⟩
  have ga:(a.k != 1)=true:=bnt;rw[if_pos ⟨h3, .inl ka⟩];refine aue (e10 z1 z6 z3 hfa hfb ak an bk bn ga) ?_;exact aV h' (leo hd) ⟨rfl,rfl⟩
 have z3:decide (3≤op)=false:=dcf;rw[if_neg (fun e=>h3 e.1)];by_cases o1:op=1
 ·have g1:(op==1)=true:=bqt;rw[if_pos o1];refine aue (e7 z1 z6 z3 hfa hfb hv g1) ?_;exact aV h' (leo hd) ⟨rfl,rfl⟩
 have g1:(op==1)=false:=bqf;have g2:(op==2)=true:=bqt;rw[if_neg o1,if_pos or];refine aue (e8 z1 z6 z3 hfa hfb hv g1 g2) ?_;exact aV h' (leo hd) ⟨rfl,rfl⟩
theorem qF(l:Li)(hr:cF l=true)(h3:l.k=3)(h:Hp):aM Tryz.prog 101 [l.v] h (.bool true):=by
 refine aJ (fun L=>trivial) fun h' nx hh=>aB L.aUd fun hd=>?_;simp only[Kf,Kh,Kb,Kc,Kd,Ke,Kg,Ki,V.undef];have C1:=fun h=>db l h;rw[hr] at C1;have hf:=Li.aAD l;obtain⟨T,hT,hk⟩:∃T,l.v= .agg T∧T.getD 0 (.tup [])= .int .i64 l.k:=⟨_,rfl,rfl⟩;rw[hT] at C1 hf⊢;have g:(l.k==3)=true:=bqt;refine aue (e3 hf hk g) ?_;exact aC h' (leo hd) ⟨rfl,rfl⟩
theorem xS{l:Li}(hr:cF l=true)(h3:l.k=3):1≤l.op∧l.op≤6∧eW 20 l.x=true∧eW 20 l.y=true:=by
 unfold cF at hr;rw[if_neg or] at hr;simp only[Bool.and_eq_true,decide_eq_true_eq] at hr;exact⟨or,or,hr.1.2,hr.2⟩
def xG(l:List Tr)(x:Li):Bool×Int:=if (cM l 20 x.x).2≠0 then (false,(cM l 20 x.x).2) else if (cM l 20 x.y).2≠0 then (false,(cM l 20 x.y).2) else t6 x.op (cM l 20 x.x).1 (cM l 20 x.y).1
theorem sb(l:List Tr)(x:Li)(hr:cF x=true)(h3:x.k=3)(n:Nat)(es:List ME)(c:Nat)(h:Hp)(hm:h n=some (.mp es c))(he:vW es l):aM Tryz.prog 104 [x.v, .map n] h (.tup [.bool (xG l x).1,dP (xG l x).2]):=by
 refine aJ (fun L=>⟨trivial,dO L _,trivial⟩) fun h' nx hh=>aB L.aUR fun hd=>?_;simp only[Kf,Kh,Kb,Kc,Kd,Ke,Kg,Ki,V.undef];obtain⟨p1,p6,px,py⟩:=xS hr h3;have hn1:=hh _ _ hm rfl;have hn2:n<nx:=hd _ _ hn1;have C1:=fun h=>qF x hr h3 h;have CX:=fun h hm=>rD l 20 x.x px n es c h hm he;have CY:=fun h hm=>rD l 20 x.y py n es c h hm he;have hvx:=lA (cM l 20 x.x).2;have hvy:=lA (cM l 20 x.y).2;have hrx:=fun e=>zL (l:=l) px e;have hry:=fun e=>zL (l:=l) py e;unfold xG;generalize cM l 20 x.x=P at*;generalize cM l 20 x.y=Q at*;have hfP:=Vl.aAD P.1;have hfQ:=Vl.aAD Q.1;have hf:=Li.aAD x;have hXf:=Ex.aAD x.x;have hYf:=Ex.aAD x.y;obtain⟨T,hT,htx,hty,hto⟩:∃T,x.v= .agg T∧(.agg ((T.drop 4).take 6))=x.x.v∧(.agg ((T.drop 10).take 6))=x.y.v∧(V.agg T).cell 3= .int .i64 x.op:=⟨_,rfl,by rw[Ex.aAs];rfl,by rw[Ex.aAs];rfl,rfl⟩;have hlx:aX (.agg 6) 4 (.agg T)=x.x.v:=htx;have hly:aX (.agg 6) 10 (.agg T)=x.y.v:=hty;rw[hT] at C1 hf⊢;generalize x.x.v=X at*;generalize x.y.v=Y at*;have hto:T.getD 3 (.tup [])= .int .i64 x.op:=hto;refine aue (e4 hf hlx hly hXf) ?_;refine aH (CX _ ?_) rfl (aK _) ?_
 ·simp only[hn1,hn2,go_sem,reduceIte,Kb,Kc,Ko,Kj,reduceCtorEq,Kk,Km]
 by_cases e1:P.2=0
 ·rw[decide_eq_true e1] at hvx;rw[if_neg (by simp[e1])];refine aue (e6 hf hlx hly hYf hvx hfP) ?_;refine aH (CY _ ?_) rfl (aK _) ?_
  ·simp only[hn1,hn2,go_sem,reduceIte,Kb,Kc,Ko,Kj,reduceCtorEq,Kk,Km]
  by_cases e2':Q.2=0
  ·rw[decide_eq_true e2'] at hvy;rw[if_neg (by simp[e2'])];have C2:=fun h=>oq x.op P.1 Q.1 p1 p6 (hrx e1) (hry e2') h;clear C1;generalize P.1.v=PV at*;generalize Q.1.v=QV at*;refine aue (e6 hf hto hvy hfP hfQ hvx) ?_;exact aV h' (leo hd) ⟨rfl,rfl⟩
  rw[decide_eq_false e2'] at hvy;rw[if_pos e2'];refine aue (e5 hf hlx hly hvy hfQ) ?_;exact aV h' (leo hd) ⟨rfl,rfl⟩
 rw[decide_eq_false e1] at hvx;rw[if_pos e1];refine aue (e5 hf hlx hly hvx hfP) ?_;exact aV h' (leo hd) ⟨rfl,rfl⟩
end Go.Proofs.YtgbiopfghdilnaaGreatDoor
namespace Go.Proofs.YtgbiopfghdilnaaGreatDoor
open Go.RowKit Go.Sort
attribute [local irreducible] IntKind.wrap
set_option maxHeartbeats 4000000
def gT(l:List Tr)(e:Ex):ByteArray:=if e.op≠0∨(lkB e.t.x l).isSome=true then ⟨#[]⟩ else e.t.x
theorem vB{l:List Tr}{e:Ex}(h:(gT l e).size≠0):lkB (gT l e) l=none:=by
 unfold gT at h⊢;split at h
 ·exact absurd rfl h
 rename_i hc;rw[if_neg hc];simp only[not_or,Bool.not_eq_true,Option.isSome_eq_false_iff,Option.isNone_iff_eq_none] at hc;exact hc.2
theorem xD(l:List Tr)(e:Ex)(n:Nat)(es:List ME)(c:Nat)(h:Hp)(hm:h n=some (.mp es c))(he:vW es l):aM Tryz.prog 102 [e.v, .map n] h (.str (gT l e)):=by
 refine aJ (fun L=>trivial) fun h' nx hh=>aB L.aUc fun hd=>?_;simp only[jL,jM,jA,jB,jN,jO,jP,jQ,V.undef];have hn1:=hh _ _ hm rfl;have hn2:n<nx:=hd _ _ hn1;obtain⟨op,t,o,ks⟩:=e;have hev:(Ex.mk op t o ks).v= .agg [.int .i64 op, .str t.x, .int .i64 t.w.k, .int .i64 t.w.n, .str t.w.s, .sl (.agg 6) o (ks.map Ex.v)]:=by rw[Ex.aAs];rfl
 rw[hev];obtain⟨R,hR⟩:∃R,(if op≠0∨(lkB t.x l).isSome=true then ⟨#[]⟩ else t.x)=R:=⟨_,rfl⟩;have hu:gT l (Ex.mk op t o ks)=R:=hR;rw[hu];clear hu hev;have hx:=he t.x;cases k:lkB t.x l with
 |none=>
  rw[k] at hx hR;have hg0:iX true (.agg [.int .i64 0, .int .i64 0, .str ⟨#[]⟩]) es none= .tup [.agg [.int .i64 0, .int .i64 0, .str ⟨#[]⟩], .bool false]:=rfl;by_cases h0:op=0
  ·have g:(op != 0)=false:=bnf;refine aue (e5 hn1 hn2 hx hg0 g) ?_;refine aC h' (leo hd) ⟨?_,rfl⟩;rw[if_neg (by simp[h0])] at hR;rw[←hR];rfl
  have g:(op != 0)=true:=bnt;refine aue (e5 hn1 hn2 hx hg0 g) ?_;refine aC h' (leo hd) ⟨?_,rfl⟩;rw[if_pos (Or.inl h0)] at hR;rw[←hR];rfl
 |some w=>
  rw[k] at hx hR;obtain⟨j,hj1,hj2,hj3⟩:=hx;have hg0:iX true (.agg [.int .i64 0, .int .i64 0, .str ⟨#[]⟩]) es (some j)= .tup [w.v, .bool true]:=by rw[←hj2];rfl
  have hwf:=Vl.aAD w;by_cases h0:op=0
  ·have g:(op != 0)=false:=bnf;refine aue (e6 hn1 hn2 hj1 hg0 g hwf) ?_;refine aC h' (leo hd) ⟨?_,rfl⟩;rw[if_pos Zm] at hR;rw[←hR];rfl
  have g:(op != 0)=true:=bnt;refine aue (e6 hn1 hn2 hj1 hg0 g hwf) ?_;refine aC h' (leo hd) ⟨?_,rfl⟩;rw[if_pos (Or.inl h0)] at hR;rw[←hR];rfl
def pr(l:List Tr)(x:ByteArray)(e:Ex):Option (List Tr)×Int:=if (cM l 20 e).2≠0 then (none,(cM l 20 e).2) else (some (l++[⟨x,(cM l 20 e).1⟩]),0)
def gp(l:List Tr)(x:Li):Option (List Tr)×Int:=
 if x.op=1∧(gT l x.x).size≠0 then pr l (gT l x.x) x.y
 else if x.op=1∧(gT l x.y).size≠0 then pr l (gT l x.y) x.x
 else if (xG l x).2≠0∨(xG l x).1=false then (none,(xG l x).2) else (some l,0)
def Cz(r:Option (List Tr)×Int)(nx:Nat)(v:V)(h':Hp)(nx':Nat):Prop:=match r.1 with
 |none=>v= .tup [.aAH, .bool false,dP r.2]
 |some l=>∃n es c,v= .tup [.map n, .bool true, .nilIface]∧nx≤n∧n<nx'∧h' n=some (.mp es c)∧pV es c l
theorem ae(l:List Tr)(x:ByteArray)(hx:lkB x l=none)(e:Ex)(hr:eW 20 e=true)(n:Nat)(es:List ME)(c:Nat)(h:Hp)(nx:Nat)(hm:h n=some (.mp es c))(he:pV es c l):
 aQ Tryz.prog 103 [.map n, .str x,e.v] h nx fun v h' nx'=>Cz (pr l x e) nx v h' nx'∧∀k,k<nx→h' k=h k:=by
 refine aB L.aUb fun hd=>?_;simp only[jL,jM,jA,jB,jN,jO,jP,jQ,V.undef];have hn2:n<nx:=hd _ _ hm;have CX:=fun h hm=>rD l 20 e hr n es c h hm he.at
 have hv:=lA (cM l 20 e).2;unfold pr;generalize cM l 20 e=P at*;have hfP:=Vl.aAD P.1;have hf:=Ex.aAD e;generalize e.v=X at*;refine aue hf ?_;refine aH (CX _ ?_) rfl (aK _) ?_
 ·simp only[hm,hn2,go_sem,reduceIte,jA,jB,jC,jD,reduceCtorEq,jE,jF]
 by_cases e1:P.2=0
 ·rw[decide_eq_true e1] at hv;rw[if_neg (by simp[e1])];refine aue (e2 hv hfP) ?_;refine bG ((lN n es c l he _ _ ?_).dom.mono ?_)
  ·simp only[hm,hn2,go_sem,reduceIte,jA,jB,jC,jD,reduceCtorEq,jE,jF]
  rintro v h2 nx2 hle ⟨⟨n2,es2,c2,rfl,p1,p2,p3,p4,p5⟩,hd2,_⟩;unfold cN;dsimp only at p1 p5;refine Zn ?_;have hx2:=p4.at x;rw[hx] at hx2;have hb9:h2 (nx+1)=some (.arr (.agg 3) [P.1.v]):=by rw[p5 (nx+1) or];simp only[go_sem,reduceIte,jA,jB,jC,jD,reduceCtorEq,jE,jF]
  have n9:nx+1<nx2:=or;have hk2:∀k,k<nx→h2 k=h k:=fun k hk=>by
   rw[p5 k or];simp only[Hp.set];repeat rw[if_neg or]
  refine aue (e3 hb9 hfP n9) ?_;refine mK (es:=es2) (c:=c2) (n:=n2) rfl rfl (by simp only[p3,go_sem,reduceIte,jA,jB,jC,jD,reduceCtorEq,jE,jF]) hx2 ?_;refine Zn ?_;refine au ?_;refine bN _ (Ka _) ⟨⟨n2,_,_,rfl,or,Zw,by simp only[Hp.set,if_true],p4.add ⟨x,P.1⟩ hx⟩,fun k hk=>?_⟩;simp only[Hp.set];rw[if_neg or];exact hk2 k hk
 rw[decide_eq_false e1] at hv;rw[if_pos e1];refine aue (e2 hv hfP) ?_;refine⟨_,Ka _,rfl,fun k hk=>?_⟩;simp only[Hp.set];repeat rw[if_neg or]
theorem i6(l:List Tr)(x:Li)(hr:cF x=true)(h3:x.k=3)(n:Nat)(es:List ME)(c:Nat)(h:Hp)(nx:Nat)(hm:h n=some (.mp es c))(he:pV es c l):
 aQ Tryz.prog 60 [x.v, .map n] h nx fun v h' nx'=>Cz (gp l x) nx v h' nx'∧∀k,k<nx→h' k=h k:=by
 refine aB L.aU0 fun hd=>?_;simp only[jL,jM,jA,jB,jN,jO,jP,jQ,V.undef];have hn2:n<nx:=hd _ _ hm;obtain⟨p1,p6,px,py⟩:=xS hr h3;have C1:=fun h=>qF x hr h3 h;have UX:=fun h hm=>xD l x.x n es c h hm he.at
 have UY:=fun h hm=>xD l x.y n es c h hm he.at
 have TT:=fun h hm=>sb l x hr h3 n es c h hm he.at
 have hf:=Li.aAD x;have hXf:=Ex.aAD x.x;have hYf:=Ex.aAD x.y;have SX:=fun hz h nx hm=>ae l (gT l x.x) (vB hz) x.y py n es c h nx hm he;have SY:=fun hz h nx hm=>ae l (gT l x.y) (vB hz) x.x px n es c h nx hm he;obtain⟨T,hT,htx,hty,hto⟩:∃T,x.v= .agg T∧(.agg ((T.drop 4).take 6))=x.x.v∧(.agg ((T.drop 10).take 6))=x.y.v∧(V.agg T).cell 3= .int .i64 x.op:=⟨_,rfl,by rw[Ex.aAs];rfl,by rw[Ex.aAs];rfl,rfl⟩;have hlx:aX (.agg 6) 4 (.agg T)=x.x.v:=htx;have hly:aX (.agg 6) 10 (.agg T)=x.y.v:=hty;have hto:T.getD 3 (.tup [])= .int .i64 x.op:=hto;rw[hT] at C1 TT hf⊢;unfold gp;generalize gT l x.x=A at*;generalize gT l x.y=B at*;generalize xG l x=R at*;generalize x.x.v=X at*;generalize x.y.v=Y at*;obtain⟨H,hH⟩:∃H,h.set nx (.arr (.agg 17) [.agg T])=H:=⟨_,rfl⟩;have hHn:H n=some (.mp es c):=by rw[←hH];simp only[Hp.set];rw[if_neg or];exact hm
 have D1:=UX H hHn;have D2:=UY H hHn;have TT:=TT H hHn;rw[←hH] at D1 D2 TT;generalize hDC:aU.draw _ _ _=DC;refine aue hf ?_;rw[←hDC];refine iM rfl ?_;have zA:=rI A;have zB:=rI B;refine aue (e3 hf hlx hXf) ?_;refine bH D1 rfl (aK _) ?_;refine aue (e3 hf hly hYf) ?_;refine bH D2 rfl (aK _) ?_;have hvR:=lA R.2;by_cases o1:x.op=1
 ·have g1:(x.op==1)=true:=bqt;by_cases hA:A.size=0
  ·rw[decide_eq_true hA] at zA;rw[if_neg (fun e=>e.2 hA)];by_cases hB:B.size=0
   ·rw[decide_eq_true hB] at zB;rw[if_neg (fun e=>e.2 hB)];refine aue (e5 hf hto g1 zA zB) ?_;refine aH TT rfl (aK _) ?_;by_cases hR2:R.2=0
    ·rw[decide_eq_true hR2] at hvR;cases hR1:R.1 with
     |true=>
      rw[if_neg (by simp[hR2])];refine aue (e2 hvR hR1) ?_;refine bG ((lN n es c l he _ _ ?_).dom.mono ?_)
      ·simp only[hm,hn2,go_sem,reduceIte,jA,jB,jC,jD,reduceCtorEq,jE,jF]
      rintro v h2 nx2 hle ⟨⟨n2,es2,c2,rfl,q1,q2,q3,q4,q5⟩,hd2,_⟩;unfold cN;dsimp only at q1 q5;refine Zn ?_;refine au ?_;refine bN _ (Ka _) ⟨⟨n2,es2,c2,rfl,or,Zw,q3,q4⟩,fun k hk=>?_⟩;refine(q5 k or).trans ?_;simp only[Hp.set];rw[if_neg or]
     |false=>
      rw[if_pos (.inr rfl)];refine aue (e2 hvR hR1) ?_;refine bN _ (Ka _) ⟨rfl,fun k hk=>?_⟩;simp only[Hp.set];rw[if_neg or]
    rw[decide_eq_false hR2] at hvR;rw[if_pos (.inl hR2)];refine aue hvR ?_;refine bN _ (Ka _) ⟨rfl,fun k hk=>?_⟩;simp only[Hp.set];rw[if_neg or]
   rw[decide_eq_false hB] at zB;rw[if_pos ⟨o1,hB⟩];refine aue (e7 hf hto g1 zA zB hlx hXf) ?_;refine bG ((SY hB _ _ ?_).dom.mono ?_)
   ·simp only[hm,hn2,go_sem,reduceIte,jA,jB,jC,jD,reduceCtorEq,jE,jF]
   rintro v h2 nx2 hle ⟨⟨q,hk⟩,hd2,_⟩;unfold cN;dsimp only at q hk;have hk2:∀k,k<nx→h2 k=h k:=fun k hkn=>by
    rw[hk k or];simp only[Hp.set];rw[if_neg or]
   obtain⟨⟨r,e⟩,hr⟩:∃r,pr l B x.x=r:=⟨_,rfl⟩;rw[hr] at q⊢;cases r with
   |none=>
    have q:v= .tup [.aAH, .bool false,dP e]:=q;subst q;refine Zn ?_;refine au ?_;exact bN _ (Ka _) ⟨rfl,hk2⟩
   |some l2=>
    obtain⟨n2,es2,c2,q1,q2,q3,q4,q5⟩:=q;subst q1;refine Zn ?_;refine au ?_;exact bN _ (Ka _) ⟨⟨n2,es2,c2,rfl,or,Zw,q4,q5⟩,hk2⟩
  rw[decide_eq_false hA] at zA;rw[if_pos ⟨o1,hA⟩];refine aue (e6 hf hto g1 zA hly hYf) ?_;refine bG ((SX hA _ _ ?_).dom.mono ?_)
  ·simp only[hm,hn2,go_sem,reduceIte,jA,jB,jC,jD,reduceCtorEq,jE,jF]
  rintro v h2 nx2 hle ⟨⟨q,hk⟩,hd2,_⟩;unfold cN;dsimp only at q hk;have hk2:∀k,k<nx→h2 k=h k:=fun k hkn=>by
   rw[hk k or];simp only[Hp.set];rw[if_neg or]
  obtain⟨⟨r,e⟩,hr⟩:∃r,pr l A x.y=r:=⟨_,rfl⟩;rw[hr] at q⊢;cases r with
  |none=>
   have q:v= .tup [.aAH, .bool false,dP e]:=q;subst q;refine Zn ?_;refine au ?_;exact bN _ (Ka _) ⟨rfl,hk2⟩
  |some l2=>
   obtain⟨n2,es2,c2,q1,q2,q3,q4,q5⟩:=q;subst q1;refine Zn ?_;refine au ?_;exact bN _ (Ka _) ⟨⟨n2,es2,c2,rfl,or,Zw,q4,q5⟩,hk2⟩
 have g1:(x.op==1)=false:=bqf;rw[if_neg (fun e=>o1 e.1),if_neg (fun e=>o1 e.1)];refine aue (e3 hf hto g1) ?_;refine aH TT rfl (aK _) ?_;by_cases hR2:R.2=0
 ·rw[decide_eq_true hR2] at hvR;cases hR1:R.1 with
  |true=>
   rw[if_neg (by simp[hR2])];refine aue (e2 hvR hR1) ?_;refine bG ((lN n es c l he _ _ ?_).dom.mono ?_)
   ·simp only[hm,hn2,go_sem,reduceIte,jA,jB,jC,jD,reduceCtorEq,jE,jF]
   rintro v h2 nx2 hle ⟨⟨n2,es2,c2,rfl,q1,q2,q3,q4,q5⟩,hd2,_⟩;unfold cN;dsimp only at q1 q5;refine Zn ?_;refine au ?_;refine bN _ (Ka _) ⟨⟨n2,es2,c2,rfl,or,Zw,q3,q4⟩,fun k hk=>?_⟩;refine(q5 k or).trans ?_;simp only[Hp.set];rw[if_neg or]
  |false=>
   rw[if_pos (.inr rfl)];refine aue (e2 hvR hR1) ?_;refine bN _ (Ka _) ⟨rfl,fun k hk=>?_⟩;simp only[Hp.set];rw[if_neg or]
 rw[decide_eq_false hR2] at hvR;rw[if_pos (.inl hR2)];refine aue hvR ?_;refine bN _ (Ka _) ⟨rfl,fun k hk=>?_⟩;simp only[Hp.set];rw[if_neg or]
end Go.Proofs.YtgbiopfghdilnaaGreatDoor
