/-
Texts of this proof,one behind the other. No conditions.
-/
import Derived.Test.YtgbiopfghdilnaaGreatDoorKd
import Derived.Test.YtgbiopfghdilnaaGreatDoorKh
open Go.Proofs.YtgbiopfghdilnaaGreatDoor.V renaming undef→Ka
open List renaming map_append→Kb,map_nil→Ke,map_cons→Kg,length_cons→Kk,length_nil→Kp,replicate_succ→Ks,replicate_zero→Kt,cons_append→Kv,nil_append→Kw
open Nat renaming lt_or_ge→Kc,le_refl→Kd,zero_le→Kf,reduceAdd→Kh,reduceSub→Ki,reduceLeDiff→Km,reduceEqDiff→Ko,reduceLT→Ku
open Go.IntKind renaming wrap→Kj
open Int renaming reduceToNat→Kq
open Nat renaming reduceAdd→jA,reduceSub→jB,reduceLT→jC,reduceLeDiff→jD,reduceEqDiff→jE
open Int renaming reduceToNat→jF,toNat_natCast→jG,natCast_add→jH,natCast_one→jI,natCast_zero→jJ
open List renaming length_cons→jL,length_nil→jM,replicate_succ→jN,replicate_zero→jO,cons_append→jP,nil_append→jQ
set_option linter.unusedSimpArgs false
set_option linter.unusedVariables false
set_option linter.unusedSectionVars false
set_option maxHeartbeats 8000000
namespace Go.Proofs.YtgbiopfghdilnaaGreatDoor
open Go.RowKit Go.Sort
attribute [local irreducible] Kj
set_option maxHeartbeats 4000000
theorem yO(own:Own)(l:List ByteArray)(hl:l.length≤1000000000)(x:ByteArray)(h:Hp):aI Tryz.prog 229 [.sl .leaf own (l.map V.str), .str x] h (.bool (l.any fun y=>decide (y=x))):=by
 refine aH (fun L=>trivial) fun h' nx hh=>aC L.aR5 fun hd=>?_;simp only[jL,jM,jA,jB,jN,jO,jP,jQ,Ka];refine aue trivial ?_;refine aO (fun i:Nat=>aD 18 0 [(0, .sl .leaf own (l.map V.str)),(1, .str x),(4, .bool false),(5, .int .i64 i)]) (fun i hp nx1=>i≤l.length∧hp=h'∧∀y∈l.take i,decide (y=x)=false) (fun i=>l.length-i) 0 ⟨Kf _,rfl,Zm⟩ (by simp only[WkL,aD,jH,jI,jJ,go_sem,reduceIte,jA,jB,jC,jD,reduceCtorEq,jE,jF]) ?_;rintro i hp nx1 ⟨hi,rfl,hno⟩;generalize hQ:aX _ _ _ _ _=Q0;simp only[aD,go_sem,reduceIte,jA,jB,jC,jD,reduceCtorEq,jE,jF];rcases Kc i l.length with hlt|hge
 ·have hc:decide ((i:Int)<(l.length:Int))=true:=dct;have hg:=aM V.str l i hlt;have hw:IntKind.i64.wrap ((i:Int)+1)=((i+1:Nat):Int):=wrp;have hbe:=cV l[i] x;cases k:decide (l[i]=x) with
  |true=>
   rw[k] at hbe;refine aue (e5 hc hg hbe hlt (jG i)) ?_;rw[←hQ];refine au ?_;refine aB hp (leo hd) ⟨vb ?_,rfl⟩;simp only[List.any_eq_true,true_iff];exact⟨l[i],List.getElem_mem _,k⟩
  |false=>
   rw[k] at hbe;refine aue (e6 hc hg hbe hlt (jG i) hw) ?_;rw[←hQ];refine aE (i+1) or ⟨or,rfl,fun y hy=>?_⟩ (by simp only[WkL,aD,jH,jI,jJ,go_sem,reduceIte,jA,jB,jC,jD,reduceCtorEq,jE,jF]);rw[List.take_succ_eq_append_getElem hlt,List.mem_append,List.mem_singleton] at hy;rcases hy with hy|rfl
   ·exact hno y hy
   exact k
 have hc:decide ((i:Int)<(l.length:Int))=false:=dcf;refine aue hc ?_;rw[←hQ];refine au ?_;have hi':i=l.length:=or;rw[hi',List.take_length] at hno;refine aB hp (leo hd) ⟨?_,rfl⟩;have:(l.any fun y=>decide (y=x))=false:=by
  rw[List.any_eq_false];intro y hy;rw[hno y hy];simp
 rw[this];rfl
theorem y0(w:ByteArray):(zV.any fun y=>decide (y=w))=zW w:=by
 rw[←pf];congr 1;funext y;rw[decide_eq_decide];exact⟨fun e=>e.symm,fun e=>e.symm⟩
theorem kO(c:Nat)(h:Hp):aI Tryz.prog 227 [.int .u8 c] h (.bool (bX c)):=by
 refine aH (fun L=>trivial) fun h' nx hh=>aC L.aR6 fun hd=>?_;simp only[jL,jM,jA,jB,jN,jO,jP,jQ,Ka]
 (repeat' (first|(with_reducible first|refine stp ?_|refine bW ZM ?_|refine nL (fun _=>?_) (fun _=>?_))|((first|(with_reducible refine kQ ?_;first|refine iI rfl ?_ ?_|refine Zx ?_)|(with_reducible refine kU ?_;first|refine iM rfl ?_ ?_|refine ZX ?_)|refine Zy ?_)<;>try simp only[ go_sem,reduceIte,jA,jB,jC,jD,reduceCtorEq,jE,jF])|refine ZY ?_|omega))
 all_goals refine aB h' (leo hd) ⟨vb ?_,rfl⟩
 all_goals simp_all [bX,dL,fC,vF]
 all_goals try omega
def bu(t:ByteArray):Nat→Int
 |0=>0
 |i+1=>IntKind.i64.wrap (IntKind.i64.wrap (10*bu t i)+IntKind.i64.wrap (IntKind.u8.wrap ((byt t i:Int)-48)))
theorem z6(t:ByteArray)(i:Nat):bu t (i+1)=IntKind.i64.wrap (IntKind.i64.wrap (10*bu t i)+IntKind.i64.wrap (IntKind.u8.wrap ((byt t i:Int)-48))):=rfl
theorem na(t:ByteArray)(sg:Int)(w:Vl)(z:Bool)(j:Nat)(hp0:True)(htl:t.size≤4000)(a:True)(b:j≤t.size)(c:∀k,0≤k→k<j→vF (byt t k)=true)(d:j=t.size∨vF (byt t j)=false)
 (hwz:(j<t.size∧w=⟨0,0,⟨#[]⟩⟩∧z=false)∨(j=t.size∧((decide (2147483647<bu t t.size)=true∧w=⟨0,0,⟨#[]⟩⟩∧z=false)∨(decide (2147483647<bu t t.size)=false∧w=⟨1,IntKind.i64.wrap (sg*bu t t.size),⟨#[]⟩⟩∧z=true))))
 (h':Hp) (nx:Nat) (hd:aQ h' nx) (sl:List V) (hw:WkL sl (aD 78 0 [(2, .ptr nx (.agg 3) 0 0),(3, .bool false),(4, .str t),(5, .int .i64 sg),(6, .int .i64 0),(7, .int .i64 0)])):
 lwp Tryz.prog (.loop L.aDN) (eH 0 (lJ (lwp Tryz.prog (((aP.ops L.aCY).seq (aP.cond (aJ.slot 72) ((aP.ops L.aCX).seq aP.ret) aP.skip)).seq ((aP.ops L.aCW).seq aP.ret)))
  (sI [.cell 2 (.agg 3), .slot 3] fun v' h'' x=>v'= .tup [w.v, .bool z]∧h''=h'))) ⟨sl,h'.set nx (.arr (.agg 3) [.agg [.int .i64 0, .int .i64 0, .str ⟨#[]⟩]]),nx+1⟩:=by
 refine aO (fun i:Nat=>aD 78 0 [(2, .ptr nx (.agg 3) 0 0),(3, .bool false),(4, .str t),(5, .int .i64 sg),(6, .int .i64 (bu t i)),(7, .int .i64 i)]) (fun i hp nx1=>i≤j∧hp=h'.set nx (.arr (.agg 3) [.agg [.int .i64 0, .int .i64 0, .str ⟨#[]⟩]])∧nx<nx1) (fun i=>t.size-i) 0 ⟨Kf _,rfl,Zw⟩ hw ?_;rintro i hp nx1 ⟨hi,rfl,aCQ⟩;generalize hQ:aX _ _ _ _ _=Q0;simp only[aD,go_sem,reduceIte,jA,jB,jC,jD,reduceCtorEq,jE,jF];have hbi:(t.data.toList.getD i 0).toNat=byt t i:=rfl;rcases Kc i t.size with hlt|hge
 ·have hc:decide ((i:Int)<(t.size:Int))=true:=dct;have hw:IntKind.i64.wrap ((i:Int)+1)=((i+1:Nat):Int):=wrp;rcases Kc i j with hij|hij
  ·have hf:=c i or hij;have hf':48≤byt t i∧byt t i≤57:=of_decide_eq_true hf;have g1:decide ((byt t i:Int)<48)=false:=dcf;have g2:decide ((57:Int)<(byt t i:Int))=false:=dcf;refine aue (e7 hc hbi hw g1 g2 hlt (jG i)) ?_;rw[←hQ];refine aE (i+1) or ⟨or,rfl,or⟩ (by rw[z6];simp only[WkL,aD,jH,jI,jJ,go_sem,reduceIte,jA,jB,jC,jD,reduceCtorEq,jE,jF])
  have hij:i=j:=or;subst hij;have hf:vF (byt t i)=false:=by
   rcases d with d|d
   ·omega
   exact d
  have hf':¬(48≤byt t i∧byt t i≤57):=of_decide_eq_false hf;rcases hwz with⟨q1,rfl,rfl⟩|⟨q1,_⟩
  ·by_cases q:byt t i<48
   ·have g1:decide ((byt t i:Int)<48)=true:=dct;refine aue (e6 hc hbi hw g1 hlt (jG i)) ?_;rw[←hQ];refine au ?_;refine cO (by simp only[go_sem,reduceIte,jA,jB,jC,jD,reduceCtorEq,jE,jF]) h' (leo hd) ⟨?_,rfl⟩;refine Zn ?_;rfl
   have g1:decide ((byt t i:Int)<48)=false:=dcf;have g2:decide ((57:Int)<(byt t i:Int))=true:=dct;refine aue (e7 hc hbi hw g1 g2 hlt (jG i)) ?_;rw[←hQ];refine au ?_;refine cO (by simp only[go_sem,reduceIte,jA,jB,jC,jD,reduceCtorEq,jE,jF]) h' (leo hd) ⟨?_,rfl⟩;refine Zn ?_;rfl
  omega
 have hc:decide ((i:Int)<(t.size:Int))=false:=dcf;refine aue hc ?_;rw[←hQ];have hij:i=t.size:=or;subst hij;rcases hwz with⟨q1,_⟩|⟨q1,⟨q2,rfl,rfl⟩|⟨q2,rfl,rfl⟩⟩
 ·omega
 ·refine aue q2 ?_;refine cO (by simp only[go_sem,reduceIte,jA,jB,jC,jD,reduceCtorEq,jE,jF]) h' (leo hd) ⟨?_,rfl⟩;refine Zn ?_;rfl
 refine aue q2 ?_;refine cO (by simp only[go_sem,reduceIte,jA,jB,jC,jD,reduceCtorEq,jE,jF]) h' (leo hd) ⟨?_,rfl⟩;refine Zn ?_;rfl
theorem xc(s:ByteArray)(hs:s.size≤4000):∃(w:Vl) (b:Bool),∀h,aI Tryz.prog 236 [.str s] h (.tup [w.v, .bool b]):=by
 have C1:=fun h=>rF s or h;cases hN:fZ s with
 |true=>
  rw[hN] at C1;refine⟨⟨2,0,s⟩,true,fun h=>aH (fun L=>⟨Vl.aAQ L _,trivial,trivial⟩) fun h' nx hh=>aC L.aED fun hd=>?_⟩;simp only[jL,jM,jA,jB,jN,jO,jP,jQ,Ka];refine au ?_;refine cO (by simp only[go_sem,reduceIte,jA,jB,jC,jD,reduceCtorEq,jE,jF]) h' (leo hd) ⟨?_,rfl⟩;refine Zn ?_;rfl
 |false=>
  rw[hN] at C1;have hb:(s.data.toList.getD 0 0).toNat=byt s 0:=rfl;by_cases h0:s.size=0
  ·refine⟨⟨0,0,⟨#[]⟩⟩,false,fun h=>aH (fun L=>⟨Vl.aAQ L _,trivial,trivial⟩) fun h' nx hh=>aC L.aED fun hd=>?_⟩;simp only[jL,jM,jA,jB,jN,jO,jP,jQ,Ka];have g1:decide ((0:Int)<(s.size:Int))=false:=dcf;have g2:((s.size:Int)==0)=true:=bqt;refine aue (e2 g1 g2) ?_;refine cO (by simp only[go_sem,reduceIte,jA,jB,jC,jD,reduceCtorEq,jE,jF]) h' (leo hd) ⟨?_,rfl⟩;refine Zn ?_;rfl
  have hp0:0<s.size:=or;have hp1:1≤s.size:=or;have g1:decide ((0:Int)<(s.size:Int))=true:=dct;obtain⟨t,sg,htl,ht⟩:∃(t:ByteArray) (sg:Int),t.size≤4000∧((((byt s 0:Int)==45)=false∧s=t∧sg=1)∨(((byt s 0:Int)==45)=true∧s.extract 1 s.size=t∧sg=-1)):=by
   cases hq:((byt s 0:Int)==45) with
   |false=>exact⟨s,1,hs, .inl ⟨rfl,rfl,rfl⟩⟩
   |true=>exact⟨s.extract 1 s.size,-1,by rw[cL];omega, .inr ⟨rfl,rfl,rfl⟩⟩
  have hbt:(t.data.toList.getD 0 0).toNat=byt t 0:=rfl;by_cases aNq:t.size=0∨10<t.size∨(byt t 0=48∧(1<t.size∨sg<0))
  ·refine⟨⟨0,0,⟨#[]⟩⟩,false,fun h=>aH (fun L=>⟨Vl.aAQ L _,trivial,trivial⟩) fun h' nx hh=>aC L.aED fun hd=>?_⟩;simp only[jL,jM,jA,jB,jN,jO,jP,jQ,Ka];have hB:((t.size:Int)==0)=true∨(((t.size:Int)==0)=false∧decide ((10:Int)<(t.size:Int))=true)∨(((t.size:Int)==0)=false∧decide ((10:Int)<(t.size:Int))=false∧0<t.size∧((byt t 0:Int)==48)=true∧decide ((1:Int)<(t.size:Int))=true)∨(((t.size:Int)==0)=false∧decide ((10:Int)<(t.size:Int))=false∧0<t.size∧((byt t 0:Int)==48)=true∧decide ((1:Int)<(t.size:Int))=false∧decide (sg<0)=true):=by
    simp only[decide_eq_true_eq,decide_eq_false_iff_not,beq_iff_eq,beq_eq_false_iff_ne];omega
   rcases ht with⟨g2,rfl,rfl⟩|⟨g2,ht,rfl⟩<;>rcases hB with k1|⟨k1,k2⟩|⟨k1,k2,k3,k4,k5⟩|⟨k1,k2,k3,k4,k5,k6⟩
   all_goals first
    |refine aue (e12 hb g1 g2 hp0 hp1 k1 k2 k3 k4 k5 k6 (e2 hbt ht)) ?_
    |refine aue (e11 hb g1 g2 hp0 hp1 k1 k2 k3 k4 k5 (e2 hbt ht)) ?_
    |refine aue (e8 hb g1 g2 hp0 hp1 k1 k2 ht) ?_
    |refine aue (e7 hb g1 g2 hp0 hp1 k1 ht) ?_
    |refine aue (e11 hb g1 g2 hp0 hp1 k1 k2 k3 k4 k5 k6) ?_
    |refine aue (e10 hb g1 g2 hp0 hp1 k1 k2 k3 k4 k5) ?_
    |refine aue (e7 hb g1 g2 hp0 hp1 k1 k2) ?_
    |refine aue (e6 hb g1 g2 hp0 hp1 k1) ?_
   all_goals
    refine cO (by simp only[go_sem,reduceIte,jA,jB,jC,jD,reduceCtorEq,jE,jF]) h' (leo hd) ⟨?_,rfl⟩;refine Zn ?_;rfl
  have k1:((t.size:Int)==0)=false:=bqf;have k2:decide ((10:Int)<(t.size:Int))=false:=dcf;have k3:0<t.size:=or;obtain⟨a,b,c,d⟩:=eM vF t 0 (Kf _);generalize eK vF t 0=j at a b c d;obtain⟨w,z,hwz⟩:∃(w:Vl) (z:Bool),(j<t.size∧w=⟨0,0,⟨#[]⟩⟩∧z=false)∨(j=t.size∧((decide (2147483647<bu t t.size)=true∧w=⟨0,0,⟨#[]⟩⟩∧z=false)∨(decide (2147483647<bu t t.size)=false∧w=⟨1,IntKind.i64.wrap (sg*bu t t.size),⟨#[]⟩⟩∧z=true))):=by
   rcases Kc j t.size with q|q
   ·exact⟨_,_, .inl ⟨q,rfl,rfl⟩⟩
   cases hq:decide (2147483647<bu t t.size) with
   |true=>exact⟨_,_, .inr ⟨or, .inl ⟨rfl,rfl,rfl⟩⟩⟩
   |false=>exact⟨_,_, .inr ⟨or, .inr ⟨rfl,rfl,rfl⟩⟩⟩
  refine⟨w,z,fun h=>aH (fun L=>⟨Vl.aAQ L _,trivial,trivial⟩) fun h' nx hh=>aC L.aED fun hd=>?_⟩;simp only[jL,jM,jA,jB,jN,jO,jP,jQ,Ka];have hB:((byt t 0:Int)==48)=false∨(((byt t 0:Int)==48)=true∧decide ((1:Int)<(t.size:Int))=false∧decide (sg<0)=false):=by
   simp only[decide_eq_true_eq,decide_eq_false_iff_not,beq_iff_eq,beq_eq_false_iff_ne];omega
  have hsg:sg=1∨sg=-1:=by rcases ht with⟨_,_,q⟩|⟨_,_,q⟩<;>omega
  clear aNq;rcases ht with⟨g2,rfl,hs1⟩|⟨g2,ht,hs1⟩<;>rcases hB with k4|⟨k4,k5,k6⟩<;>subst hs1
  all_goals first
   |refine aue (e12 hb g1 g2 hp0 hp1 k1 k2 k3 k4 k5 k6 (e2 hbt ht)) ?_
   |refine aue (e10 hb g1 g2 hp0 hp1 k1 k2 k3 k4 (e2 hbt ht)) ?_
   |refine aue (e11 hb g1 g2 hp0 hp1 k1 k2 k3 k4 k5 k6) ?_
   |refine aue (e9 hb g1 g2 hp0 hp1 k1 k2 k3 k4) ?_
  all_goals exact na _ _ w z j trivial or trivial b c d hwz h' nx hd _ (by simp only[WkL,aD,jH,jI,jJ,go_sem,reduceIte,jA,jB,jC,jD,reduceCtorEq,jE,jF])
noncomputable def dO(w:ByteArray):Int:=@ite _ (aI Tryz.prog 228 [.str w] Hp.none (.int .i64 4)) (Classical.propDecidable _) 4 0
theorem vh(w:ByteArray):dO w=0∨dO w=4:=by
 unfold dO;split
 ·exact .inr rfl
 exact .inl rfl
theorem rv(w:ByteArray)(h1:1≤w.size)(h2:w.size≤4000)(h:Hp):aI Tryz.prog 228 [.str w] h (.int .i64 (eJ dO w)):=by
 have aOD:(zW w=false→fZ w=false→¬(fC (byt w 0)=true∧w.size≤32)→∀k:Int,(k=4∨k=0)→aI Tryz.prog 228 [.str w] Hp.none (.int .i64 k)→aI Tryz.prog 228 [.str w] h (.int .i64 (eJ dO w))):=by
  intro g1 g2 g3 k hk hp;have:eJ dO w=dO w:=by unfold eJ;rw[if_neg (by simp[g1]),if_neg (by simp[g2]),if_neg g3]
  rw[this];unfold dO;split
  ·rename_i q;exact q.mono (aZ h)
  rename_i q;rcases hk with rfl|rfl
  ·exact absurd hp q
  exact hp.mono (aZ h)
 have C5:∀{o:Own} {h:Hp},aI Tryz.prog 229 [.sl .leaf o [.str ⟨#[114,101,108]⟩, .str ⟨#[105,110,116]⟩, .str ⟨#[115,121,109]⟩, .str ⟨#[110,111,116]⟩, .str ⟨#[99,111,117,110,116]⟩, .str ⟨#[115,117,109]⟩, .str ⟨#[109,105,110]⟩, .str ⟨#[109,97,120]⟩], .str w] h (.bool (zW w)):=fun{o h}=>y0 w▸yO o zV ZM w h;have C2:=fun h=>rF w or h;have hb:(w.data.toList.getD 0 0).toNat=byt w 0:=rfl;have hp0:0<w.size:=h1;cases k1:zW w with
 |true=>
  rw[k1] at C5;refine aH (fun L=>trivial) fun h' nx hh=>aC L.aEE fun hd=>?_;simp only[jL,jM,jA,jB,jN,jO,jP,jQ,Ka];refine au ?_;exact aB h' (leo hd) ⟨by unfold eJ;rw[if_pos k1]<;>rfl,rfl⟩
 |false=>
  rw[k1] at C5;cases k2:fZ w with
  |true=>
   rw[k2] at C2;refine aH (fun L=>trivial) fun h' nx hh=>aC L.aEE fun hd=>?_;simp only[jL,jM,jA,jB,jN,jO,jP,jQ,Ka];refine au ?_;exact aB h' (leo hd) ⟨by unfold eJ;rw[if_neg (by simp[k1]),if_pos k2]<;>rfl,rfl⟩
  |false=>
   rw[k2] at C2;by_cases k3:fC (byt w 0)=true∧w.size≤32
   ·have k4:65≤byt w 0∧byt w 0≤90:=of_decide_eq_true k3.1;have g1:decide ((65:Int)≤(byt w 0:Int))=true:=dct;have g2:decide ((byt w 0:Int)≤90)=true:=dct;have g3:decide ((w.size:Int)≤32)=true:=dct;refine aH (fun L=>trivial) fun h' nx hh=>aC L.aEE fun hd=>?_;simp only[jL,jM,jA,jB,jN,jO,jP,jQ,Ka];refine aue (e5 hb g1 g2 g3 hp0) ?_;exact aB h' (leo hd) ⟨by unfold eJ;rw[if_neg (by simp[k1]),if_neg (by simp[k2]),if_pos k3]<;>rfl,rfl⟩
   obtain⟨v,z,C3⟩:=xc w h2;have hG:decide ((65:Int)≤(byt w 0:Int))=false∨(decide ((65:Int)≤(byt w 0:Int))=true∧decide ((byt w 0:Int)≤90)=false)∨(decide ((65:Int)≤(byt w 0:Int))=true∧decide ((byt w 0:Int)≤90)=true∧decide ((w.size:Int)≤32)=false):=by
    simp only[fC,decide_eq_true_eq,decide_eq_false_iff_not] at k3⊢;omega
   refine aOD k1 k2 k3 (if z=true∧v.k=1 then 4 else 0) (by split<;>simp) ?_;refine aH (fun L=>trivial) fun h' nx hh=>aC L.aEE fun hd=>?_;simp only[jL,jM,jA,jB,jN,jO,jP,jQ,Ka];cases z with
   |false=>
    rcases hG with g1|⟨g1,g2⟩|⟨g1,g2,g3⟩
    all_goals first
     |refine aue (e6 hb g1 g2 g3 hp0 Vl.v.eq_1) ?_
     |refine aue (e5 hb g1 g2 hp0 Vl.v.eq_1) ?_
     |refine aue (e4 hb g1 hp0 Vl.v.eq_1) ?_
    all_goals exact aB h' (leo hd) ⟨rfl,rfl⟩
   |true=>
    cases k5:(v.k==1) with
    |true=>
     have k6:v.k=1:=by simpa using k5
     rw[if_pos ⟨rfl,k6⟩];rcases hG with g1|⟨g1,g2⟩|⟨g1,g2,g3⟩
     all_goals first
      |refine aue (e7 hb g1 g2 g3 hp0 Vl.v.eq_1 k5) ?_
      |refine aue (e6 hb g1 g2 hp0 Vl.v.eq_1 k5) ?_
      |refine aue (e5 hb g1 hp0 Vl.v.eq_1 k5) ?_
     all_goals exact aB h' (leo hd) ⟨rfl,rfl⟩
    |false=>
     have k6:v.k≠1:=by simpa using k5
     rw[if_neg (fun q=>k6 q.2)];rcases hG with g1|⟨g1,g2⟩|⟨g1,g2,g3⟩
     all_goals first
      |refine aue (e7 hb g1 g2 g3 hp0 Vl.v.eq_1 k5) ?_
      |refine aue (e6 hb g1 g2 hp0 Vl.v.eq_1 k5) ?_
      |refine aue (e5 hb g1 hp0 Vl.v.eq_1 k5) ?_
     all_goals exact aB h' (leo hd) ⟨rfl,rfl⟩
end Go.Proofs.YtgbiopfghdilnaaGreatDoor
namespace Go.Proofs.YtgbiopfghdilnaaGreatDoor
open Go.RowKit Go.Sort
attribute [local irreducible] Kj
set_option maxHeartbeats 4000000
def rg:List ByteArray:=[⟨[58,45].toArray⟩,⟨[33,61].toArray⟩,⟨[60,61].toArray⟩,⟨[62,61].toArray⟩]
def sb:List ByteArray:=[⟨[40].toArray⟩,⟨[41].toArray⟩,⟨[44].toArray⟩,⟨[46].toArray⟩,⟨[61].toArray⟩,⟨[60].toArray⟩,⟨[62].toArray⟩,⟨[43].toArray⟩,⟨[45].toArray⟩,⟨[42].toArray⟩]
theorem ah(r:ByteArray)(n:Nat):∀(l:List ByteArray),(∀t∈l,t.size=n)→l.find? (oP r)=if n≤r.size∧(l.any fun y=>decide (y=r.extract 0 n))=true then some (r.extract 0 n) else none
 | [],_=>Zm
 |a::l,h=>by
  have ih:=ah r n l (fun t ht=>h t (List.mem_cons_of_mem _ ht));have ha:=h a List.mem_cons_self;have hp:oP r a=(decide (n≤r.size)&&decide (a=r.extract 0 n)):=by
   rw[u6,ha];congr 1;rw[decide_eq_decide];exact⟨fun e=>e.symm,fun e=>e.symm⟩
  rw[List.find?_cons,hp,List.any_cons];by_cases h1:n≤r.size
  ·by_cases h2:a=r.extract 0 n
   ·simp[h1,h2]
   simp only[h1,h2,decide_true,decide_false,Bool.and_false,Bool.false_or,true_and] at ih⊢;exact ih
  simp only[h1,decide_false,Bool.false_and,false_and,if_false] at ih⊢;exact ih
theorem Aj(r:ByteArray):oH r=if 2≤r.size∧(rg.any fun y=>decide (y=r.extract 0 2))=true then (5,r.extract 0 2) else if 1≤r.size∧(sb.any fun y=>decide (y=r.extract 0 1))=true then (5,r.extract 0 1) else (0,⟨#[]⟩):=by
 unfold oH;have e:eN=rg++sb:=rfl;rw[e,List.find?_append,ah r 2 rg ZM,ah r 1 sb ZM];split
 ·rename_i t h;split at h
  ·rename_i c;rw[if_pos c];simp at h;rw[←h]
  rename_i c;rw[if_neg c];split at h
  ·rename_i c2;rw[if_pos c2];simp at h;rw[←h]
  simp at h
 rename_i h;split at h
 ·simp at h
 rename_i c;rw[if_neg c];split at h
 ·simp at h
 rename_i c2;rw[if_neg c2]
theorem jt(s:ByteArray)(i n:Nat)(h:i+n≤s.size):(s.extract i s.size).extract 0 n=s.extract i (i+n):=by
 apply ByteArray.ext;rw[ByteArray.data_extract,ByteArray.data_extract,ByteArray.data_extract,Array.extract_extract];congr 1;have:s.size=s.data.size:=rfl;omega
theorem u0{s:ByteArray}{i:Nat}(h:i≤s.size):lV (s.extract i s.size)=eK bX s i-i:=by
 obtain⟨a,b,c,d⟩:=eM bX s i h;unfold lV;have hs:(s.extract i s.size).size=s.size-i:=by rw[cL];omega
 refine pR (Kf _) (by rw[hs];omega) (fun k _ hk=>?_) ?_
 ·rw[qJ or (Kd _)];exact c _ or or
 rcases d with d|d
 ·left;rw[hs,d]
 rcases Kc (eK bX s i) s.size with q|q
 ·right;rw[qJ or (Kd _)];have:i+(eK bX s i-i)=eK bX s i:=or;rw[this];exact d
 left;rw[hs];omega
theorem xz{κ:ByteArray→Int}{s:ByteArray}{i:Nat}(h:i<s.size)(hw:bX (byt s i)=true)(h5:byt s i≠95):bT κ (s.extract i s.size)=(eJ κ (s.extract i (eK bX s i)),s.extract i (eK bX s i))∧i<eK bX s i∧eK bX s i≤s.size:=by
 obtain⟨a,b,c,d⟩:=eM bX s i or;have hlt:i<eK bX s i:=by
  rcases Kc i (eK bX s i) with q|q
  ·exact q
  have e:eK bX s i=i:=or;rw[e] at d;rcases d with d|d
  ·omega
  rw[hw] at d;cases d
 have hb0:byt (s.extract i s.size) 0=byt s i:=by rw[qJ or (Kd _)];rfl
 unfold bT;rw[u0 or,hb0,if_pos ⟨or,h5⟩,jt _ _ _ or];have:i+(eK bX s i-i)=eK bX s i:=or;rw[this];exact⟨rfl,hlt,b⟩
theorem x5{κ:ByteArray→Int}{s:ByteArray}{i:Nat}(h:i<s.size)(hw:bX (byt s i)=false∨byt s i=95):bT κ (s.extract i s.size)=if i+2≤s.size∧(rg.any fun y=>decide (y=s.extract i (i+2)))=true then (5,s.extract i (i+2)) else if (sb.any fun y=>decide (y=s.extract i (i+1)))=true then (5,s.extract i (i+1)) else (0,⟨#[]⟩):=by
 have hb0:byt (s.extract i s.size) 0=byt s i:=by rw[qJ or (Kd _)];rfl
 have hsz:(s.extract i s.size).size=s.size-i:=by rw[cL];omega
 obtain⟨a,b,c,d⟩:=eM bX s i or;have hno:¬(0<lV (s.extract i s.size)∧byt (s.extract i s.size) 0≠95):=by
  rw[u0 or,hb0];rintro⟨q1,q2⟩;rcases hw with hw|hw
  ·have:=c i (Kd _) or;rw[hw] at this;cases this
  exact q2 hw
 unfold bT;rw[if_neg hno,Aj,hsz,jt s i 1 or];by_cases h2:i+2≤s.size
 ·rw[jt s i 2 h2];have e1:(2≤s.size-i)=True:=eq_true or;have e2:(1≤s.size-i)=True:=eq_true or;have e3:(i+2≤s.size)=True:=eq_true or;simp only[e1,e2,e3,true_and]
 have e1:(2≤s.size-i)=False:=eq_false or;have e2:(1≤s.size-i)=True:=eq_true or;have e3:(i+2≤s.size)=False:=eq_false or;simp only[e1,e2,e3,true_and,false_and,if_false]
def r8:Option Nat→Int
 |none=>-1
 |some a=>a
theorem ot(l:List Tk)(a:Int)(L:Nat→Prop):(V.tup [.sl (.agg 3) (frO l) (l.map Tk.v), .int .i64 a]).names L:=by
 refine⟨⟨?_,aS (fun x=>Tk.aAQ L x) _⟩,trivial,trivial⟩;intro n e;unfold frO at e;split at e<;>cases e
def rlS(s:ByteArray)(o:Own)(done:List Tk)(i:Nat):List V:=aD 134 0 [(0, .str s),(2, .sl (.agg 3) .nil []),(3, .int .i64 0),(4, .sl (.agg 3) o (done.map Tk.v)),(5, .int .i64 i)]
end Go.Proofs.YtgbiopfghdilnaaGreatDoor
namespace Go.Proofs.YtgbiopfghdilnaaGreatDoor
open Go.RowKit Go.Sort
attribute [local irreducible] Kj
set_option maxHeartbeats 4000000
set_option maxRecDepth 100000 in
theorem Ao(s:ByteArray)(hs:s.size≤4000)(o:Own)(done:List Tk)(i:Nat)(hlt:i<s.size)(hp:Hp)(nx1:Nat)(Q0:bE→St→Prop)(hbl:iP (byt s i)=true)
 (hQ:∀sl,WkL sl (rlS s o done (i+1))→Q0 .normal ⟨sl,hp,nx1⟩):lwp Tryz.prog L.aBN Q0 ⟨rlS s o done i,hp,nx1⟩:=by
 simp only[rlS,aD,go_sem,reduceIte,jA,jB,jC,jD,reduceCtorEq,jE,jF];have hbi:(s.data.toList.getD i 0).toNat=byt s i:=rfl;have hc:decide ((i:Int)<(s.size:Int))=true:=dct;have hw1:IntKind.i64.wrap ((i:Int)+1)=((i+1:Nat):Int):=wrp;have hK:((byt s i:Int)==9)=true∨(((byt s i:Int)==9)=false∧((byt s i:Int)==10)=true)∨(((byt s i:Int)==9)=false∧((byt s i:Int)==10)=false∧((byt s i:Int)==13)=true)∨(((byt s i:Int)==9)=false∧((byt s i:Int)==10)=false∧((byt s i:Int)==13)=false∧((byt s i:Int)==32)=true):=by
  simp only[iP,decide_eq_true_eq,beq_iff_eq,beq_eq_false_iff_ne] at hbl⊢;omega
 rcases hK with k1|⟨k1,k2⟩|⟨k1,k2,k3⟩|⟨k1,k2,k3,k4⟩
 all_goals first
  |refine aue (e9 hc hbi hw1 k1 k2 k3 k4 hlt (jG i)) ?_
  |refine aue (e8 hc hbi hw1 k1 k2 k3 hlt (jG i)) ?_
  |refine aue (e7 hc hbi hw1 k1 k2 hlt (jG i)) ?_
  |refine aue (e6 hc hbi hw1 k1 hlt (jG i)) ?_
 all_goals exact hQ _ (by unfold rlS;simp only[WkL,aD,jH,jI,jJ,go_sem,reduceIte,jA,jB,jC,jD,reduceCtorEq,jE,jF])
set_option maxRecDepth 100000 in
theorem BA(s:ByteArray)(hs:s.size≤4000)(o:Own)(done:List Tk)(i:Nat)(hlt:i<s.size)(hp:Hp)(nx1:Nat)(Q0:bE→St→Prop)(hbl:iP (byt s i)=false)(h37:byt s i=37)
 (hQ:∀sl,WkL sl (rlS s o done (eK (fun c=>decide (c≠10)) s i))→Q0 .normal ⟨sl,hp,nx1⟩):lwp Tryz.prog L.aBN Q0 ⟨rlS s o done i,hp,nx1⟩:=by
 simp only[rlS,aD,go_sem,reduceIte,jA,jB,jC,jD,reduceCtorEq,jE,jF];have hbi:(s.data.toList.getD i 0).toNat=byt s i:=rfl;have hc:decide ((i:Int)<(s.size:Int))=true:=dct;have k1:((byt s i:Int)==9)=false:=bqf;have k2:((byt s i:Int)==10)=false:=bqf;have k3:((byt s i:Int)==13)=false:=bqf;have k4:((byt s i:Int)==32)=false:=bqf;have k5:((byt s i:Int)==37)=true:=bqt;obtain⟨a,b⟩:=qD hlt h37;obtain⟨_,_,c,d⟩:=eM (fun c=>decide (c≠10)) s i or;generalize eK (fun c=>decide (c≠10)) s i=j at a b c d hQ;refine aue (e9 hc hbi hlt k1 k2 k3 k4 k5 (jG i)) ?_;refine aO (fun n:Nat=>rlS s o done n) (fun n hp2 nx2=>i≤n∧n≤j∧hp2=hp∧nx2=nx1) (fun n=>s.size-n) i ⟨Kd _,or,rfl,rfl⟩ (by unfold rlS;simp only[WkL,aD,jH,jI,jJ,go_sem,reduceIte,jA,jB,jC,jD,reduceCtorEq,jE,jF]) ?_;rintro n hp2 nx2 ⟨hn1,hn2,rfl,rfl⟩;generalize hQ2:aX _ _ _ _ _=Q2;simp only[rlS,aD,go_sem,reduceIte,jA,jB,jC,jD,reduceCtorEq,jE,jF];have hbn:(s.data.toList.getD n 0).toNat=byt s n:=rfl;rcases Kc n j with q|q
 ·have hc:decide ((n:Int)<(s.size:Int))=true:=dct;have hns:n<s.size:=or;have hw:IntKind.i64.wrap ((n:Int)+1)=((n+1:Nat):Int):=wrp;have h10:byt s n≠10:=of_decide_eq_true (c n hn1 q);have k:((byt s n:Int) != 10)=true:=bnt;refine aue (e6 hc hbn hw k hns (jG n)) ?_;rw[←hQ2];exact aE (n+1) or ⟨or,or,rfl,rfl⟩ (by unfold rlS;simp only[WkL,aD,jH,jI,jJ,go_sem,reduceIte,jA,jB,jC,jD,reduceCtorEq,jE,jF])
 have hnj:n=j:=or;subst hnj;rcases Kc n s.size with q2|q2
 ·have hc:decide ((n:Int)<(s.size:Int))=true:=dct;have h10:byt s n=10:=by
   rcases d with d|d
   ·omega
   have:=of_decide_eq_false d;omega
  have k:((byt s n:Int) != 10)=false:=bnf;refine aue (e5 hc hbn k q2 (jG n)) ?_;rw[←hQ2];refine au ?_;exact hQ _ (by unfold rlS;simp only[WkL,aD,jH,jI,jJ,go_sem,reduceIte,jA,jB,jC,jD,reduceCtorEq,jE,jF])
 have hc:decide ((n:Int)<(s.size:Int))=false:=dcf;refine aue hc ?_;rw[←hQ2];refine au ?_;exact hQ _ (by unfold rlS;simp only[WkL,aD,jH,jI,jJ,go_sem,reduceIte,jA,jB,jC,jD,reduceCtorEq,jE,jF])
set_option maxHeartbeats 4000000
set_option maxRecDepth 100000 in
theorem By(s:ByteArray)(hs:s.size≤4000)(o:Own)(done:List Tk)(i:Nat)(hlt:i<s.size)(nx:Nat)(hp:Hp)(nx1:Nat)(hnx:nx≤nx1)(hdm:aQ hp nx1)(aAK:Acc hp nx o (done.map Tk.v))(hlen:done.length≤i)(Q0:bE→St→Prop)(hbl:iP (byt s i)=false)(h37:byt s i≠37)(hw:bX (byt s i)=true)(h95:byt s i≠95)
 (hR:∀sl,(bT dO (s.extract i s.size)).1=0→sl.getD 2 Ka= .sl (.agg 3) o (done.map Tk.v)→sl.getD 3 Ka= .int .i64 i→Q0 .ret ⟨sl,hp,nx1⟩)
 (hQ:∀sl hp2 nx2 o2,(bT dO (s.extract i s.size)).1≠0→nx1≤nx2→aQ hp2 nx2→Hp.same nx hp hp2→Acc hp2 nx o2 ((done++[(⟨(bT dO (s.extract i s.size)).1,(bT dO (s.extract i s.size)).2,i⟩:Tk)]).map Tk.v)→WkL sl (rlS s o2 (done++[(⟨(bT dO (s.extract i s.size)).1,(bT dO (s.extract i s.size)).2,i⟩:Tk)]) (i+(bT dO (s.extract i s.size)).2.size))→Q0 .normal ⟨sl,hp2,nx2⟩):
 lwp Tryz.prog L.aBN Q0 ⟨rlS s o done i,hp,nx1⟩:=by
 have aUe:¬(byt s i=9∨byt s i=10∨byt s i=13∨byt s i=32):=of_decide_eq_false hbl;obtain⟨hn,a,b⟩:=xz (κ:=dO) hlt hw h95;obtain⟨_,_,c,d⟩:=eM bX s i or;rw[hn] at hR hQ;dsimp only at hR hQ;generalize eK bX s i=j at a b c d hR hQ;have hsz:i+(s.extract i j).size=j:=by rw[cL];omega
 rw[hsz] at hQ;have W1:=fun h=>rv (s.extract i j) (by rw[cL];omega) (by rw[cL];omega) h;generalize eJ dO (s.extract i j)=K at W1 hR hQ;simp only[rlS,aD,go_sem,reduceIte,jA,jB,jC,jD,reduceCtorEq,jE,jF];have hbi:(s.data.toList.getD i 0).toNat=byt s i:=rfl;have hc:decide ((i:Int)<(s.size:Int))=true:=dct;have k1:((byt s i:Int)==9)=false:=bqf;have k2:((byt s i:Int)==10)=false:=bqf;have k3:((byt s i:Int)==13)=false:=bqf;have k4:((byt s i:Int)==32)=false:=bqf;have k5:((byt s i:Int)==37)=false:=bqf;have k6:((byt s i:Int) != 95)=true:=bnt;have C1:=fun h=>kO (byt s i) h;rw[hw] at C1;refine aue (e10 hc hbi hlt k1 k2 k3 k4 k5 k6 (jG i)) ?_;clear C1;refine aO (fun n:Nat=>aD 134 0 [(0, .str s),(2, .sl (.agg 3) .nil []),(3, .int .i64 0),(4, .sl (.agg 3) o (done.map Tk.v)),(5, .int .i64 i),(7, .int .i64 n)]) (fun n hp2 nx2=>i≤n∧n≤j∧hp2=hp∧nx2=nx1) (fun n=>s.size-n) i ⟨Kd _,or,rfl,rfl⟩ (by simp only[WkL,aD,jH,jI,jJ,go_sem,reduceIte,jA,jB,jC,jD,reduceCtorEq,jE,jF]) ?_;rintro n hp2 nx2 ⟨hn1,hn2,rfl,rfl⟩;generalize hQ2:aX _ _ _ _ _=Q2;simp only[aD,go_sem,reduceIte,jA,jB,jC,jD,reduceCtorEq,jE,jF];have hbn:(s.data.toList.getD n 0).toNat=byt s n:=rfl;rcases Kc n j with q|q
 ·have hc:decide ((n:Int)<(s.size:Int))=true:=dct;have hns:n<s.size:=or;have hw:IntKind.i64.wrap ((n:Int)+1)=((n+1:Nat):Int):=wrp;have C1:=fun h=>kO (byt s n) h;rw[c n hn1 q] at C1;refine aue (e5 hc hbn hw hns (jG n)) ?_;rw[←hQ2];exact aE (n+1) or ⟨or,or,rfl,rfl⟩ (by simp only[WkL,aD,jH,jI,jJ,go_sem,reduceIte,jA,jB,jC,jD,reduceCtorEq,jE,jF])
 have hnj:n=j:=or;subst hnj;have aHF:decide ((n:Int)<(s.size:Int))=false∨(decide ((n:Int)<(s.size:Int))=true∧n<s.size∧bX (byt s n)=false):=by
  rcases Kc n s.size with q2|q2
  ·right;rcases d with d|d
   ·omega
   exact⟨dct,q2,d⟩
  left;exact dcf
 have C1:=fun h=>kO (byt s n) h;have C2:=W1;have hcap:done.length≤1000000:=or;by_cases hK:K=0
 ·have g1:(K==0)=true:=bqt;rcases aHF with hc|⟨hc,hns,hwf⟩
  ·refine aue hc ?_;rw[←hQ2];refine aue (e5 g1 a b (jG i) (jG n)) ?_;exact hR _ hK (by simp only[go_sem,reduceIte,jA,jB,jC,jD,reduceCtorEq,jE,jF]) (by simp only[go_sem,reduceIte,jA,jB,jC,jD,reduceCtorEq,jE,jF])
  rw[hwf] at C1;refine aue (e4 hc hbn hns (jG n)) ?_;rw[←hQ2];refine aue (e5 g1 a b (jG i) (jG n)) ?_;exact hR _ hK (by simp only[go_sem,reduceIte,jA,jB,jC,jD,reduceCtorEq,jE,jF]) (by simp only[go_sem,reduceIte,jA,jB,jC,jD,reduceCtorEq,jE,jF])
 have g1:(K==0)=false:=bqf;rcases aHF with hc|⟨hc,hns,hwf⟩
 ·refine aue hc ?_;rw[←hQ2];refine aue (e6 g1 a b (jG i) (jG n) hcap) ?_;exact hQ _ _ _ _ hK or (dmo hdm) (rM Hp.same.aA0 aAK) (by rw[Kb];exact Acc.new _ Zm or) (by unfold rlS;simp only[WkL,aD,jH,jI,jJ,Kb,Kg,Ke,Tk.v,go_sem,reduceIte,jA,jB,jC,jD,reduceCtorEq,jE,jF])
 rw[hwf] at C1;refine aue (e4 hc hbn hns (jG n)) ?_;rw[←hQ2];refine aue (e6 g1 a b (jG i) (jG n) hcap) ?_;exact hQ _ _ _ _ hK or (dmo hdm) (rM Hp.same.aA0 aAK) (by rw[Kb];exact Acc.new _ Zm or) (by unfold rlS;simp only[WkL,aD,jH,jI,jJ,Kb,Kg,Ke,Tk.v,go_sem,reduceIte,jA,jB,jC,jD,reduceCtorEq,jE,jF])
set_option maxHeartbeats 4000000
set_option maxRecDepth 100000 in
theorem Bz(s:ByteArray)(hs:s.size≤4000)(o:Own)(done:List Tk)(i:Nat)(hlt:i<s.size)(h0:Hp)(nx:Nat)(hd:aQ h0 nx)(hp:Hp)(hle:h0.le hp)(nx1:Nat)(hnx:nx≤nx1)(hdm:aQ hp nx1)(aAK:Acc hp nx o (done.map Tk.v))(hlen:done.length≤i)(Q0:bE→St→Prop)(hbl:iP (byt s i)=false)(h37:byt s i≠37)(hw:bX (byt s i)=false∨byt s i=95)
 (hR:∀sl hp2 nx2,(bT dO (s.extract i s.size)).1=0→h0.le hp2→sl.getD 2 Ka= .sl (.agg 3) o (done.map Tk.v)→sl.getD 3 Ka= .int .i64 i→Q0 .ret ⟨sl,hp2,nx2⟩)
 (hQ:∀sl hp2 nx2 o2,(bT dO (s.extract i s.size)).1≠0→nx1≤nx2→aQ hp2 nx2→Hp.same nx hp hp2→Acc hp2 nx o2 ((done++[(⟨(bT dO (s.extract i s.size)).1,(bT dO (s.extract i s.size)).2,i⟩:Tk)]).map Tk.v)→WkL sl (rlS s o2 (done++[(⟨(bT dO (s.extract i s.size)).1,(bT dO (s.extract i s.size)).2,i⟩:Tk)]) (i+(bT dO (s.extract i s.size)).2.size))→Q0 .normal ⟨sl,hp2,nx2⟩):
 lwp Tryz.prog L.aBN Q0 ⟨rlS s o done i,hp,nx1⟩:=by
 have aUe:¬(byt s i=9∨byt s i=10∨byt s i=13∨byt s i=32):=of_decide_eq_false hbl;have hn:=x5 (κ:=dO) hlt hw;rw[hn] at hR hQ;have C5:∀{o:Own} {h:Hp},aI Tryz.prog 229 [.sl .leaf o [.str ⟨#[58,45]⟩, .str ⟨#[33,61]⟩, .str ⟨#[60,61]⟩, .str ⟨#[62,61]⟩], .str (s.extract i (i+2))] h (.bool (rg.any fun y=>decide (y=s.extract i (i+2)))):=fun{o h}=>yO o rg ZM _ h;have C6:∀{o:Own} {h:Hp},aI Tryz.prog 229 [.sl .leaf o [.str ⟨#[40]⟩, .str ⟨#[41]⟩, .str ⟨#[44]⟩, .str ⟨#[46]⟩, .str ⟨#[61]⟩, .str ⟨#[60]⟩, .str ⟨#[62]⟩, .str ⟨#[43]⟩, .str ⟨#[45]⟩, .str ⟨#[42]⟩], .str (s.extract i (i+1))] h (.bool (sb.any fun y=>decide (y=s.extract i (i+1)))):=fun{o h}=>yO o sb ZM _ h;have hs1:i+(s.extract i (i+1)).size=i+1:=by rw[cL];omega
 have hs2:i+2≤s.size→i+(s.extract i (i+2)).size=i+2:=fun _=>by rw[cL];omega
 generalize hT2:(rg.any fun y=>decide (y=s.extract i (i+2)))=T2 at C5 hR hQ;generalize hT1:(sb.any fun y=>decide (y=s.extract i (i+1)))=T1 at C6 hR hQ;clear hT1 hT2 hn;simp only[rlS,aD,go_sem,reduceIte,jA,jB,jC,jD,reduceCtorEq,jE,jF];have hbi:(s.data.toList.getD i 0).toNat=byt s i:=rfl;have hc:decide ((i:Int)<(s.size:Int))=true:=dct;have k1:((byt s i:Int)==9)=false:=bqf;have k2:((byt s i:Int)==10)=false:=bqf;have k3:((byt s i:Int)==13)=false:=bqf;have k4:((byt s i:Int)==32)=false:=bqf;have k5:((byt s i:Int)==37)=false:=bqf;have C1:=fun h=>kO (byt s i) h;have hcap:done.length≤1000000:=or;have hw1:IntKind.i64.wrap ((i:Int)+1)=((i+1:Nat):Int):=wrp;have hw2:IntKind.i64.wrap ((i:Int)+2)=((i+2:Nat):Int):=wrp;have hi1:i≤i+1:=or;have hi2:i≤i+2:=or;have hj1:i+1≤s.size:=or;have e0:(((byt s i:Int) != 95)=((byt s i:Int) != 95)):=rfl;have hW:bX (byt s i)=false∨(bX (byt s i)=true∧((byt s i:Int) != 95)=false):=by
  cases k:bX (byt s i) with
  |false=>exact .inl rfl
  |true=>
   right;rcases hw with hw|hw
   ·rw[hw] at k;cases k
   exact⟨rfl,bnf⟩
 by_cases h2:i+2≤s.size
 ·have g2:decide (((i+2:Nat):Int)≤(s.size:Int))=true:=dct;have hs2:=hs2 h2;cases T2 with
  |true=>
   rw[if_pos ⟨h2,rfl⟩] at hR hQ;dsimp only at hQ;rw[hs2] at hQ;rcases hW with hwf|⟨hwf,k6⟩<;>rw[hwf] at C1
   all_goals first
    |refine aue (e12 hc hbi hlt k1 k2 k3 k4 k5 (e3 hw1 hw2 k6) (e5 hi1 hi2 hj1 h2 hcap) g2 jG) ?_
    |refine aue (e12 hc hbi hlt k1 k2 k3 k4 k5 (e2 hw1 hw2) (e5 hi1 hi2 hj1 h2 hcap) g2 jG) ?_
   all_goals exact hQ _ _ _ _ ZM or (dmo hdm) (rM Hp.same.aA0 aAK) (by rw[Kb];exact Acc.new _ Zm or) (by unfold rlS;simp only[WkL,aD,jH,jI,jJ,Kb,Kg,Ke,Tk.v,go_sem,reduceIte,jA,jB,jC,jD,reduceCtorEq,jE,jF])
  |false=>
   rw[if_neg (fun k=>by cases k.2)] at hR hQ;cases T1 with
   |true=>
    rw[if_pos rfl] at hR hQ;dsimp only at hQ;rw[hs1] at hQ;rcases hW with hwf|⟨hwf,k6⟩<;>rw[hwf] at C1
    all_goals first
     |refine aue (e12 hc hbi hlt k1 k2 k3 k4 k5 (e3 hw1 hw2 k6) (e5 hi1 hi2 hj1 h2 hcap) g2 jG) ?_
     |refine aue (e12 hc hbi hlt k1 k2 k3 k4 k5 (e2 hw1 hw2) (e5 hi1 hi2 hj1 h2 hcap) g2 jG) ?_
    all_goals exact hQ _ _ _ _ ZM or (dmo hdm) (rM Hp.same.aA0 aAK) (by rw[Kb];exact Acc.new _ Zm or) (by unfold rlS;simp only[WkL,aD,jH,jI,jJ,Kb,Kg,Ke,Tk.v,go_sem,reduceIte,jA,jB,jC,jD,reduceCtorEq,jE,jF])
   |false=>
    rw[if_neg Zm] at hR;rcases hW with hwf|⟨hwf,k6⟩<;>rw[hwf] at C1
    all_goals first
     |refine aue (e12 hc hbi hlt k1 k2 k3 k4 k5 (e3 hw1 hw2 k6) (e5 hi1 hi2 hj1 h2 hcap) g2 jG) ?_
     |refine aue (e12 hc hbi hlt k1 k2 k3 k4 k5 (e2 hw1 hw2) (e5 hi1 hi2 hj1 h2 hcap) g2 jG) ?_
    all_goals exact hR _ _ _ rfl (lef hd hle) (by simp only[go_sem,reduceIte,jA,jB,jC,jD,reduceCtorEq,jE,jF]) (by simp only[go_sem,reduceIte,jA,jB,jC,jD,reduceCtorEq,jE,jF])
 have g2:decide (((i+2:Nat):Int)≤(s.size:Int))=false:=dcf;rw[if_neg (fun k=>h2 k.1)] at hR hQ;cases T1 with
 |true=>
  rw[if_pos rfl] at hR hQ;dsimp only at hQ;rw[hs1] at hQ;rcases hW with hwf|⟨hwf,k6⟩<;>rw[hwf] at C1
  all_goals first
   |refine aue (e12 hc hbi hlt k1 k2 k3 k4 k5 (e3 hw1 hw2 k6) (e4 hi1 hi2 hj1 hcap) g2 jG) ?_
   |refine aue (e12 hc hbi hlt k1 k2 k3 k4 k5 (e2 hw1 hw2) (e4 hi1 hi2 hj1 hcap) g2 jG) ?_
  all_goals exact hQ _ _ _ _ ZM or (dmo hdm) (rM Hp.same.aA0 aAK) (by rw[Kb];exact Acc.new _ Zm or) (by unfold rlS;simp only[WkL,aD,jH,jI,jJ,Kb,Kg,Ke,Tk.v,go_sem,reduceIte,jA,jB,jC,jD,reduceCtorEq,jE,jF])
 |false=>
  rw[if_neg Zm] at hR;rcases hW with hwf|⟨hwf,k6⟩<;>rw[hwf] at C1
  all_goals first
   |refine aue (e12 hc hbi hlt k1 k2 k3 k4 k5 (e3 hw1 hw2 k6) (e4 hi1 hi2 hj1 hcap) g2 jG) ?_
   |refine aue (e12 hc hbi hlt k1 k2 k3 k4 k5 (e2 hw1 hw2) (e4 hi1 hi2 hj1 hcap) g2 jG) ?_
  all_goals exact hR _ _ _ rfl (lef hd hle) (by simp only[go_sem,reduceIte,jA,jB,jC,jD,reduceCtorEq,jE,jF]) (by simp only[go_sem,reduceIte,jA,jB,jC,jD,reduceCtorEq,jE,jF])
end Go.Proofs.YtgbiopfghdilnaaGreatDoor
namespace Go.Proofs.YtgbiopfghdilnaaGreatDoor
open Go.RowKit Go.Sort
attribute [local irreducible] Kj
set_option maxHeartbeats 4000000
set_option maxRecDepth 100000 in
theorem r3(s:ByteArray)(hs:s.size≤4000)(h:Hp):aI Tryz.prog 220 [.str s] h (.tup [.sl (.agg 3) (frO (eT dO s (bL s 0)).1) ((eT dO s (bL s 0)).1.map Tk.v), .int .i64 (r8 (eT dO s (bL s 0)).2)]):=by
 obtain⟨T,hT⟩:∃T,eT dO s (bL s 0)=T:=⟨_,rfl⟩;rw[hT];refine dM (fun L=>ot T.1 _ L) fun h' nx hh=>aC L.aR8 fun hd=>?_;simp only[Kk,Kp,Kh,Ki,Ks,Kt,Kv,Kw,Ka];refine au ?_
 refine aO (fun q:Nat×Own×List Tk=>rlS s q.2.1 q.2.2 q.1)
  (fun q hp nx1=>q.1≤s.size∧nx≤nx1∧aQ hp nx1∧Hp.same nx h' hp∧Acc hp nx q.2.1 (q.2.2.map Tk.v)∧T=(q.2.2++(eT dO s (bL s q.1)).1,(eT dO s (bL s q.1)).2)∧q.2.2.length≤q.1)
  (fun q=>s.size-q.1) (0, .nil,[]) ⟨Kf _,Kd _,hd,Hp.same.aA0,Acc.nil,by rw[hT];rfl,Kf _⟩ (by unfold rlS;simp only[WkL,aD,Int.natCast_add,Int.natCast_one,Int.natCast_zero,Ke,go_sem,reduceIte,Kh,Ki,Ku,Km,reduceCtorEq,Ko,Kq]) ?_
 rintro⟨i,o,done⟩ hp nx1 ⟨hi,hnx,hdm,hsm,aAK,hTe,hlen⟩;generalize hQ:aX _ _ _ _ _=Q0;dsimp only at hi aAK hTe hlen;have hle:=hsm.le hd (Hp.le_refl _);have hfr:∀(b:Int),(V.tup [.sl (.agg 3) o (done.map Tk.v), .int .i64 b]).aAu= .tup [.sl (.agg 3) (frO done) (done.map Tk.v), .int .i64 b]:=fun b=>by
  rcases aAK with⟨e,rfl⟩|⟨e,id,_,rfl,_⟩
  ·obtain rfl:done=[]:=by simpa using e
   rfl
  have:done.isEmpty=false:=by
   cases done with
   |nil=>exact absurd rfl e
   |cons a r=>rfl
  show V.tup [.sl (.agg 3) .free (done.map Tk.v), .int .i64 b]=_;unfold frO;rw[this];rfl
 rcases(Kc i s.size).symm with hge|hlt
 ·have hc:decide ((i:Int)<(s.size:Int))=false:=dcf;simp only[rlS,aD,go_sem,reduceIte,Kh,Ki,Ku,Km,reduceCtorEq,Ko,Kq];refine aue hc ?_;rw[←hQ];refine au ?_;have hT2:T=(done,none):=by rw[hTe,lA hge,iJ hge];simp
  refine iX hp (Hp.le_refl _) ⟨?_,hle⟩;simp only[go_sem,reduceIte,Kh,Ki,Ku,Km,reduceCtorEq,Ko,Kq];rw[hT2];exact hfr _
 have aTM:∀sl hp2 nx2,h'.le hp2→sl.getD 2 Ka= .sl (.agg 3) o (done.map Tk.v)→sl.getD 3 Ka= .int .i64 i→T=(done,some i)→Q0 .ret ⟨sl,hp2,nx2⟩:=fun sl hp2 nx2 q1 q2 q3 q4=>by
  rw[←hQ];refine au ?_;refine iX hp2 (Hp.le_refl _) ⟨?_,q1⟩;dsimp only;rw[q2,q3,q4];exact hfr _
 cases hbl:iP (byt s i) with
 |true=>
  have hsk:=vV hlt hbl;refine Ao s hs o done i hlt hp nx1 Q0 hbl fun sl hw=>?_;rw[←hQ];exact aE (i+1,o,done) Zw ⟨Zw,hnx,hdm,hsm,aAK,by dsimp only;rw[←hsk];exact hTe,Zw⟩ hw
 |false=>
 by_cases h37:byt s i=37
 ·have hsk:=yE hlt hbl h37;obtain⟨a,b⟩:=qD hlt h37;refine BA s hs o done i hlt hp nx1 Q0 hbl h37 fun sl hw=>?_;rw[←hQ];exact aE (eK (fun c=>decide (c≠10)) s i,o,done) Zw ⟨Zw,hnx,hdm,hsm,aAK,by dsimp only;rw[←hsk];exact hTe,Zw⟩ hw
 have hsk:=rC hlt hbl h37;rw[hsk] at hTe;have aNq:(bT dO (s.extract i s.size)).1=0→T=(done,some i):=fun k=>by rw[hTe,sP hlt k];simp
 have hon:∀sl hp2 nx2 o2,(bT dO (s.extract i s.size)).1≠0→nx1≤nx2→aQ hp2 nx2→Hp.same nx hp hp2→Acc hp2 nx o2 ((done++[(⟨(bT dO (s.extract i s.size)).1,(bT dO (s.extract i s.size)).2,i⟩:Tk)]).map Tk.v)→WkL sl (rlS s o2 (done++[(⟨(bT dO (s.extract i s.size)).1,(bT dO (s.extract i s.size)).2,i⟩:Tk)]) (i+(bT dO (s.extract i s.size)).2.size))→Q0 .normal ⟨sl,hp2,nx2⟩:=fun sl hp2 nx2 o2 q0 q1 q2 q3 q4 q5=>by
  have hz:=jR q0;rw[cL] at hz;generalize hN:bT dO (s.extract i s.size)=N at q0 q4 q5 hz;obtain⟨K,t⟩:=N;dsimp only at q0 q4 q5 hz;rw[mU (κ:=dO) hlt hN q0] at hTe;dsimp only at hTe;rw[←hQ];exact aE (i+t.size,o2,done++[⟨K,t,i⟩]) Zw ⟨Zw,or,q2,fun m hm=>(q3 m hm).trans (hsm m hm),q4,by dsimp only;rw[hTe];simp,by dsimp only;rw[List.length_append];simp only[Kk,Kp];omega⟩ q5
 by_cases hw:bX (byt s i)=true∧byt s i≠95
 ·exact By s hs o done i hlt nx hp nx1 hnx hdm aAK hlen Q0 hbl h37 hw.1 hw.2 (fun sl q0 q1 q2=>aTM sl hp nx1 hle q1 q2 (aNq q0)) hon
 have hw':bX (byt s i)=false∨byt s i=95:=by
  cases k:bX (byt s i) with
  |false=>exact .inl rfl
  |true=>
   right;by_cases q:byt s i=95
   ·exact q
   exact absurd ⟨k,q⟩ hw
 exact Bz s hs o done i hlt h' nx hd hp hle nx1 hnx hdm aAK hlen Q0 hbl h37 hw' (fun sl hp2 nx2 q0 q1 q2 q3=>aTM sl hp2 nx2 q1 q2 q3 (aNq q0)) hon
noncomputable def Bi(s:ByteArray):V:=
 if 4000<s.size then .tup [.sl (.agg 3) .nil [], .int .i64 4000, .int .i64 3]
 else match (eT dO s (bL s 0)).2 with
  |none=> .tup [.sl (.agg 3) (frO (eT dO s (bL s 0)).1) ((eT dO s (bL s 0)).1.map Tk.v), .int .i64 0, .int .i64 0]
  |some a=> .tup [.sl (.agg 3) .nil [], .int .i64 a, .int .i64 2]
theorem uk(s:ByteArray)(L:Nat→Prop):(Bi s).names L:=by
 unfold Bi;split
 ·simp[V.names,bF]
 split
 ·refine⟨⟨?_,aS (fun x=>Tk.aAQ L x) _⟩,trivial,trivial,trivial⟩;intro n e;unfold frO at e;split at e<;>cases e
 simp[V.names,bF]
theorem xg(s:ByteArray)(h:Hp):aI Tryz.prog 206 [.str s] h (Bi s):=by
 refine aH (uk s) fun h' nx hh=>aC L.aSM fun hd=>?_;simp only[Kk,Kp,Kh,Ki,Ks,Kt,Kv,Kw,Ka];unfold Bi;by_cases hs:4000<s.size
 ·have g1:decide ((4000:Int)<(s.size:Int))=true:=dct;rw[if_pos hs];refine aue g1 ?_;exact lD h' (leo hd) ⟨rfl,rfl⟩
 have g1:decide ((4000:Int)<(s.size:Int))=false:=dcf;rw[if_neg hs];have C1:=fun h=>r3 s or h;obtain⟨T,hT⟩:∃T,eT dO s (bL s 0)=T:=⟨_,rfl⟩;rw[hT] at C1⊢;obtain⟨l,b⟩:=T;cases b with
 |none=>
  have g2:decide ((0:Int)≤-1)=false:=ZM;refine aue (e3 g1 g2 r8.eq_1) ?_;exact lD h' (leo hd) ⟨rfl,rfl⟩
 |some a=>
  have g2:decide ((0:Int)≤(a:Int))=true:=dct;refine aue (e3 g1 g2 r8.eq_2) ?_;exact lD h' (leo hd) ⟨rfl,rfl⟩
end Go.Proofs.YtgbiopfghdilnaaGreatDoor
