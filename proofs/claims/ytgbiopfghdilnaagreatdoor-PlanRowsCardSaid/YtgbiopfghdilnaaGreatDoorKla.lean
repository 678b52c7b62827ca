/-
Texts of this proof,one behind the other. No conditions.
-/
import Derived.Test.YtgbiopfghdilnaaGreatDoorKh
open Nat renaming lt_or_ge→Ka,le_refl→Kc,zero_le→Ke,reduceAdd→Kj,reduceSub→Kk,reduceLeDiff→Ku,reduceEqDiff→Kv,reduceLT→KC
open List renaming map_append→Kb,take_succ_eq_append_getElem→Kd,map_nil→Kh,map_cons→Ki,mem_cons_of_mem→Km,mem_singleton→Ko,mem_cons_self→Kp,getElem_mem→Kq,take_length→Ks,length_cons→Kt,mem_append→Kw,length_nil→Kx,sizeOf_lt_of_mem→Kz,replicate_succ→KA,replicate_zero→KB,all_eq_false→KD,cons_append→KE,all_eq_true→KF,nil_append→KG
open Bool renaming eq_iff_iff→Kf
open Go.IntKind renaming wrap→Kg
open Int renaming reduceToNat→Ky
open Nat renaming reduceAdd→jA,reduceSub→jB,reduceLT→jC,reduceLeDiff→jD,reduceEqDiff→jE
open Int renaming reduceToNat→jF,toNat_natCast→jG,natCast_add→jH,natCast_one→jI,natCast_zero→jJ
open List renaming length_map→jK
set_option linter.all false
set_option maxHeartbeats 8000000
namespace Go.Proofs.YtgbiopfghdilnaaGreatDoor
open Go.RowKit Go.Sort
attribute [local irreducible] Kg
theorem ei(own:Own)(l:List ByteArray)(hl:l.length≤1000000000)(x:ByteArray)(h:Hp):aK Tryz.prog 229 [.sl .leaf own (l.map V.str), .str x] h (.bool (l.any fun y=>decide (y=x))):=by
 refine aH (fun L=>trivial) fun h' nx hh=>aB L.aYk fun hd=>?_;refine ZK ?_;refine aue trivial ?_;refine aO (fun i:Nat=>aD 18 0 [(0, .sl .leaf own (l.map V.str)),(1, .str x),(4, .bool false),(5, .int .i64 i)]) (fun i hp nx1=>i≤l.length∧hp=h'∧∀y∈l.take i,decide (y=x)=false) (fun i=>l.length-i) 0 ⟨Ke _,rfl,Zm⟩ (by simp only[WkL,aD,jH,jI,jJ,go_sem,reduceIte,jA,jB,jC,jD,reduceCtorEq,jE,jF]) ?_;rintro i hp nx1 ⟨hi,rfl,hno⟩;generalize hQ:aV _ _ _ _ _=Q0;refine Zk ?_;rcases Ka i l.length with hlt|hge
 ·have hc:decide ((i:Int)<(l.length:Int))=true:=dct;have hg:=aJ V.str l i hlt;have hw:IntKind.i64.wrap ((i:Int)+1)=((i+1:Nat):Int):=wrp;have hbe:=dN l[i] x;cases k:decide (l[i]=x) with
  |true=>
   rw[k] at hbe;refine aue (e5 hc hg hbe hlt (jG i)) ?_;rw[←hQ];refine au ?_;refine aC hp (leo hd) ⟨vb ?_,rfl⟩;simp only[List.any_eq_true,true_iff];exact⟨l[i],Kq _,k⟩
  |false=>
   rw[k] at hbe;refine aue (e6 hc hg hbe hlt (jG i) hw) ?_;rw[←hQ];refine aF (i+1) or ⟨or,rfl,fun y hy=>?_⟩ (by simp only[WkL,aD,jH,jI,jJ,go_sem,reduceIte,jA,jB,jC,jD,reduceCtorEq,jE,jF]);rw[Kd hlt,Kw,Ko] at hy;rcases hy with hy|rfl
   ·exact hno y hy
   exact k
 have hc:decide ((i:Int)<(l.length:Int))=false:=dcf;refine aue hc ?_;rw[←hQ];refine au ?_;have hi':i=l.length:=or;rw[hi',Ks] at hno;refine aC hp (leo hd) ⟨?_,rfl⟩;have:(l.any fun y=>decide (y=x))=false:=by
  rw[List.any_eq_false];intro y hy;rw[hno y hy];simp
 rw[this];rfl
theorem CT(w:ByteArray):(gz.any fun y=>decide (y=w))=g7 w:=by
 rw[←v6];congr 1;funext y;rw[decide_eq_decide];exact⟨fun e=>e.symm,fun e=>e.symm⟩
theorem lT(c:Nat)(h:Hp):aK Tryz.prog 227 [.int .u8 c] h (.bool (cK c)):=by
 refine aH (fun L=>trivial) fun h' nx hh=>aB L.aYl fun hd=>?_;refine ZK ?_
 (repeat' (first|(with_reducible first|refine stp ?_|refine cG ZM ?_|refine pI (fun _=>?_) (fun _=>?_))|((first|(with_reducible refine lV ?_;first|refine jX rfl ?_ ?_|refine Zx ?_)|(with_reducible refine lZ ?_;first|refine kB rfl ?_ ?_|refine ZX ?_)|refine Zy ?_)<;>try simp only[ go_sem,reduceIte,jA,jB,jC,jD,reduceCtorEq,jE,jF])|refine ZY ?_|omega))
 all_goals refine aC h' (leo hd) ⟨vb ?_,rfl⟩
 all_goals simp_all [cK,eC,fT,yJ]
 all_goals try omega
def jq(t:ByteArray):Nat→Int
 |0=>0
 |i+1=>IntKind.i64.wrap (IntKind.i64.wrap (10*jq t i)+IntKind.i64.wrap (IntKind.u8.wrap ((byt t i:Int)-48)))
theorem DA(t:ByteArray)(i:Nat):jq t (i+1)=IntKind.i64.wrap (IntKind.i64.wrap (10*jq t i)+IntKind.i64.wrap (IntKind.u8.wrap ((byt t i:Int)-48))):=rfl
theorem tv(t:ByteArray)(sg:Int)(w:Vl)(z:Bool)(j:Nat)(hp0:True)(htl:t.size≤4000)(a:True)(b:j≤t.size)(c:∀k,0≤k→k<j→yJ (byt t k)=true)(d:j=t.size∨yJ (byt t j)=false)
 (hwz:(j<t.size∧w=⟨0,0,⟨#[]⟩⟩∧z=false)∨(j=t.size∧((decide (2147483647<jq t t.size)=true∧w=⟨0,0,⟨#[]⟩⟩∧z=false)∨(decide (2147483647<jq t t.size)=false∧w=⟨1,IntKind.i64.wrap (sg*jq t t.size),⟨#[]⟩⟩∧z=true))))
 (h':Hp) (nx:Nat) (hd:aS h' nx) (sl:List V) (hw:WkL sl (aD 78 0 [(2, .ptr nx (.agg 3) 0 0),(3, .bool false),(4, .str t),(5, .int .i64 sg),(6, .int .i64 0),(7, .int .i64 0)])):
 lwp Tryz.prog (.loop L.aDS) (eK 0 (kH (lwp Tryz.prog (((aR.ops L.aCb).seq (aR.cond (aN.slot 72) ((aR.ops L.aCa).seq aR.ret) aR.skip)).seq ((aR.ops L.aCZ).seq aR.ret)))
  (pR [.cell 2 (.agg 3), .slot 3] fun v' h'' x=>v'= .tup [w.v, .bool z]∧h''=h'))) ⟨sl,h'.set nx (.arr (.agg 3) [.agg [.int .i64 0, .int .i64 0, .str ⟨#[]⟩]]),nx+1⟩:=by
 refine aO (fun i:Nat=>aD 78 0 [(2, .ptr nx (.agg 3) 0 0),(3, .bool false),(4, .str t),(5, .int .i64 sg),(6, .int .i64 (jq t i)),(7, .int .i64 i)]) (fun i hp nx1=>i≤j∧hp=h'.set nx (.arr (.agg 3) [.agg [.int .i64 0, .int .i64 0, .str ⟨#[]⟩]])∧nx<nx1) (fun i=>t.size-i) 0 ⟨Ke _,rfl,Zw⟩ hw ?_;rintro i hp nx1 ⟨hi,rfl,aBO⟩;generalize hQ:aV _ _ _ _ _=Q0;refine Zk ?_;have hbi:(t.data.toList.getD i 0).toNat=byt t i:=rfl;rcases Ka i t.size with hlt|hge
 ·have hc:decide ((i:Int)<(t.size:Int))=true:=dct;have hw:IntKind.i64.wrap ((i:Int)+1)=((i+1:Nat):Int):=wrp;rcases Ka i j with hij|hij
  ·have hf:=c i or hij;have hf':48≤byt t i∧byt t i≤57:=of_decide_eq_true hf;have g1:decide ((byt t i:Int)<48)=false:=dcf;have g2:decide ((57:Int)<(byt t i:Int))=false:=dcf;refine aue (e7 hc hbi hw g1 g2 hlt (jG i)) ?_;rw[←hQ];refine aF (i+1) or ⟨or,rfl,or⟩ (by rw[DA];simp only[WkL,aD,jH,jI,jJ,go_sem,reduceIte,jA,jB,jC,jD,reduceCtorEq,jE,jF])
  have hij:i=j:=or;subst hij;have hf:yJ (byt t i)=false:=by
   rcases d with d|d
   ·omega
   exact d
  have hf':¬(48≤byt t i∧byt t i≤57):=of_decide_eq_false hf;rcases hwz with⟨q1,rfl,rfl⟩|⟨q1,_⟩
  ·by_cases q:byt t i<48
   ·have g1:decide ((byt t i:Int)<48)=true:=dct;refine aue (e6 hc hbi hw g1 hlt (jG i)) ?_;rw[←hQ];refine au ?_;refine aP (by simp only[go_sem,reduceIte,jA,jB,jC,jD,reduceCtorEq,jE,jF]) h' (leo hd) ⟨?_,rfl⟩;refine Zn ?_;rfl
   have g1:decide ((byt t i:Int)<48)=false:=dcf;have g2:decide ((57:Int)<(byt t i:Int))=true:=dct;refine aue (e7 hc hbi hw g1 g2 hlt (jG i)) ?_;rw[←hQ];refine au ?_;refine aP (by simp only[go_sem,reduceIte,jA,jB,jC,jD,reduceCtorEq,jE,jF]) h' (leo hd) ⟨?_,rfl⟩;refine Zn ?_;rfl
  omega
 have hc:decide ((i:Int)<(t.size:Int))=false:=dcf;refine aue hc ?_;rw[←hQ];have hij:i=t.size:=or;subst hij;rcases hwz with⟨q1,_⟩|⟨q1,⟨q2,rfl,rfl⟩|⟨q2,rfl,rfl⟩⟩
 ·omega
 ·refine aue q2 ?_;refine aP (by simp only[go_sem,reduceIte,jA,jB,jC,jD,reduceCtorEq,jE,jF]) h' (leo hd) ⟨?_,rfl⟩;refine Zn ?_;rfl
 refine aue q2 ?_;refine aP (by simp only[go_sem,reduceIte,jA,jB,jC,jD,reduceCtorEq,jE,jF]) h' (leo hd) ⟨?_,rfl⟩;refine Zn ?_;rfl
theorem B7(s:ByteArray)(hs:s.size≤4000):∃(w:Vl) (b:Bool),∀h,aK Tryz.prog 236 [.str s] h (.tup [w.v, .bool b]):=by
 have C1:=fun h=>tT s or h;cases hN:gV s with
 |true=>
  rw[hN] at C1;refine⟨⟨2,0,s⟩,true,fun h=>aH (fun L=>⟨Vl.aAK L _,trivial,trivial⟩) fun h' nx hh=>aB L.aEN fun hd=>?_⟩;refine ZK ?_;refine au ?_;refine aP (by simp only[go_sem,reduceIte,jA,jB,jC,jD,reduceCtorEq,jE,jF]) h' (leo hd) ⟨?_,rfl⟩;refine Zn ?_;rfl
 |false=>
  rw[hN] at C1;have hb:(s.data.toList.getD 0 0).toNat=byt s 0:=rfl;by_cases h0:s.size=0
  ·refine⟨⟨0,0,⟨#[]⟩⟩,false,fun h=>aH (fun L=>⟨Vl.aAK L _,trivial,trivial⟩) fun h' nx hh=>aB L.aEN fun hd=>?_⟩;refine ZK ?_;have g1:decide ((0:Int)<(s.size:Int))=false:=dcf;have g2:((s.size:Int)==0)=true:=bqt;refine aue (e2 g1 g2) ?_;refine aP (by simp only[go_sem,reduceIte,jA,jB,jC,jD,reduceCtorEq,jE,jF]) h' (leo hd) ⟨?_,rfl⟩;refine Zn ?_;rfl
  have hp0:0<s.size:=or;have hp1:1≤s.size:=or;have g1:decide ((0:Int)<(s.size:Int))=true:=dct;obtain⟨t,sg,htl,ht⟩:∃(t:ByteArray) (sg:Int),t.size≤4000∧((((byt s 0:Int)==45)=false∧s=t∧sg=1)∨(((byt s 0:Int)==45)=true∧s.extract 1 s.size=t∧sg=-1)):=by
   cases hq:((byt s 0:Int)==45) with
   |false=>exact⟨s,1,hs, .inl ⟨rfl,rfl,rfl⟩⟩
   |true=>exact⟨s.extract 1 s.size,-1,by rw[cV];omega, .inr ⟨rfl,rfl,rfl⟩⟩
  have hbt:(t.data.toList.getD 0 0).toNat=byt t 0:=rfl;by_cases aRU:t.size=0∨10<t.size∨(byt t 0=48∧(1<t.size∨sg<0))
  ·refine⟨⟨0,0,⟨#[]⟩⟩,false,fun h=>aH (fun L=>⟨Vl.aAK L _,trivial,trivial⟩) fun h' nx hh=>aB L.aEN fun hd=>?_⟩;refine ZK ?_;have hB:((t.size:Int)==0)=true∨(((t.size:Int)==0)=false∧decide ((10:Int)<(t.size:Int))=true)∨(((t.size:Int)==0)=false∧decide ((10:Int)<(t.size:Int))=false∧0<t.size∧((byt t 0:Int)==48)=true∧decide ((1:Int)<(t.size:Int))=true)∨(((t.size:Int)==0)=false∧decide ((10:Int)<(t.size:Int))=false∧0<t.size∧((byt t 0:Int)==48)=true∧decide ((1:Int)<(t.size:Int))=false∧decide (sg<0)=true):=by
    simp only[decide_eq_true_eq,decide_eq_false_iff_not,beq_iff_eq,beq_eq_false_iff_ne];omega
   rcases ht with⟨g2,rfl,rfl⟩|⟨g2,ht,rfl⟩<;>rcases hB with k1|⟨k1,k2⟩|⟨k1,k2,k3,k4,k5⟩|⟨k1,k2,k3,k4,k5,k6⟩
   all_goals first
    |refine aue (e12 hb g1 g2 hp0 hp1 k1 k2 k3 k4 k5 k6 (e2 hbt ht)) ?_
    |refine aue (e11 hb g1 g2 hp0 hp1 k1 k2 k3 k4 k5 (e2 hbt ht)) ?_
    |refine aue (e8 hb g1 g2 hp0 hp1 k1 k2 ht) ?_
    |refine aue (e7 hb g1 g2 hp0 hp1 k1 ht) ?_
    |refine aue (e11 hb g1 g2 hp0 hp1 k1 k2 k3 k4 k5 k6) ?_
    |refine aue (e10 hb g1 g2 hp0 hp1 k1 k2 k3 k4 k5) ?_
    |refine aue (e7 hb g1 g2 hp0 hp1 k1 k2) ?_
    |refine aue (e6 hb g1 g2 hp0 hp1 k1) ?_
   all_goals
    refine aP (by simp only[go_sem,reduceIte,jA,jB,jC,jD,reduceCtorEq,jE,jF]) h' (leo hd) ⟨?_,rfl⟩;refine Zn ?_;rfl
  have k1:((t.size:Int)==0)=false:=bqf;have k2:decide ((10:Int)<(t.size:Int))=false:=dcf;have k3:0<t.size:=or;obtain⟨a,b,c,d⟩:=fB yJ t 0 (Ke _);generalize eZ yJ t 0=j at a b c d;obtain⟨w,z,hwz⟩:∃(w:Vl) (z:Bool),(j<t.size∧w=⟨0,0,⟨#[]⟩⟩∧z=false)∨(j=t.size∧((decide (2147483647<jq t t.size)=true∧w=⟨0,0,⟨#[]⟩⟩∧z=false)∨(decide (2147483647<jq t t.size)=false∧w=⟨1,IntKind.i64.wrap (sg*jq t t.size),⟨#[]⟩⟩∧z=true))):=by
   rcases Ka j t.size with q|q
   ·exact⟨_,_, .inl ⟨q,rfl,rfl⟩⟩
   cases hq:decide (2147483647<jq t t.size) with
   |true=>exact⟨_,_, .inr ⟨or, .inl ⟨rfl,rfl,rfl⟩⟩⟩
   |false=>exact⟨_,_, .inr ⟨or, .inr ⟨rfl,rfl,rfl⟩⟩⟩
  refine⟨w,z,fun h=>aH (fun L=>⟨Vl.aAK L _,trivial,trivial⟩) fun h' nx hh=>aB L.aEN fun hd=>?_⟩;refine ZK ?_;have hB:((byt t 0:Int)==48)=false∨(((byt t 0:Int)==48)=true∧decide ((1:Int)<(t.size:Int))=false∧decide (sg<0)=false):=by
   simp only[decide_eq_true_eq,decide_eq_false_iff_not,beq_iff_eq,beq_eq_false_iff_ne];omega
  have hsg:sg=1∨sg=-1:=by rcases ht with⟨_,_,q⟩|⟨_,_,q⟩<;>omega
  clear aRU;rcases ht with⟨g2,rfl,hs1⟩|⟨g2,ht,hs1⟩<;>rcases hB with k4|⟨k4,k5,k6⟩<;>subst hs1
  all_goals first
   |refine aue (e12 hb g1 g2 hp0 hp1 k1 k2 k3 k4 k5 k6 (e2 hbt ht)) ?_
   |refine aue (e10 hb g1 g2 hp0 hp1 k1 k2 k3 k4 (e2 hbt ht)) ?_
   |refine aue (e11 hb g1 g2 hp0 hp1 k1 k2 k3 k4 k5 k6) ?_
   |refine aue (e9 hb g1 g2 hp0 hp1 k1 k2 k3 k4) ?_
  all_goals exact tv _ _ w z j trivial or trivial b c d hwz h' nx hd _ (by simp only[WkL,aD,jH,jI,jJ,go_sem,reduceIte,jA,jB,jC,jD,reduceCtorEq,jE,jF])
noncomputable def eE(w:ByteArray):Int:=@ite _ (aK Tryz.prog 228 [.str w] Hp.none (.int .i64 4)) (Classical.propDecidable _) 4 0
theorem Bm(w:ByteArray):eE w=0∨eE w=4:=by
 unfold eE;split
 ·exact .inr rfl
 exact .inl rfl
theorem zd(w:ByteArray)(h1:1≤w.size)(h2:w.size≤4000)(h:Hp):aK Tryz.prog 228 [.str w] h (.int .i64 (eY eE w)):=by
 have aRr:(g7 w=false→gV w=false→¬(fT (byt w 0)=true∧w.size≤32)→∀k:Int,(k=4∨k=0)→aK Tryz.prog 228 [.str w] Hp.none (.int .i64 k)→aK Tryz.prog 228 [.str w] h (.int .i64 (eY eE w))):=by
  intro g1 g2 g3 k hk hp;have:eY eE w=eE w:=by unfold eY;rw[if_neg (by simp[g1]),if_neg (by simp[g2]),if_neg g3]
  rw[this];unfold eE;split
  ·rename_i q;exact q.mono (bD h)
  rename_i q;rcases hk with rfl|rfl
  ·exact absurd hp q
  exact hp.mono (bD h)
 have C5:∀{o:Own} {h:Hp},aK Tryz.prog 229 [.sl .leaf o [.str ⟨#[114,101,108]⟩, .str ⟨#[105,110,116]⟩, .str ⟨#[115,121,109]⟩, .str ⟨#[110,111,116]⟩, .str ⟨#[99,111,117,110,116]⟩, .str ⟨#[115,117,109]⟩, .str ⟨#[109,105,110]⟩, .str ⟨#[109,97,120]⟩], .str w] h (.bool (g7 w)):=fun{o h}=>CT w▸ei o gz ZM w h;have C2:=fun h=>tT w or h;have hb:(w.data.toList.getD 0 0).toNat=byt w 0:=rfl;have hp0:0<w.size:=h1;cases k1:g7 w with
 |true=>
  rw[k1] at C5;refine aH (fun L=>trivial) fun h' nx hh=>aB L.aEO fun hd=>?_;refine ZK ?_;refine au ?_;exact aC h' (leo hd) ⟨by unfold eY;rw[if_pos k1]<;>rfl,rfl⟩
 |false=>
  rw[k1] at C5;cases k2:gV w with
  |true=>
   rw[k2] at C2;refine aH (fun L=>trivial) fun h' nx hh=>aB L.aEO fun hd=>?_;refine ZK ?_;refine au ?_;exact aC h' (leo hd) ⟨by unfold eY;rw[if_neg (by simp[k1]),if_pos k2]<;>rfl,rfl⟩
  |false=>
   rw[k2] at C2;by_cases k3:fT (byt w 0)=true∧w.size≤32
   ·have k4:65≤byt w 0∧byt w 0≤90:=of_decide_eq_true k3.1;have g1:decide ((65:Int)≤(byt w 0:Int))=true:=dct;have g2:decide ((byt w 0:Int)≤90)=true:=dct;have g3:decide ((w.size:Int)≤32)=true:=dct;refine aH (fun L=>trivial) fun h' nx hh=>aB L.aEO fun hd=>?_;refine ZK ?_;refine aue (e5 hb g1 g2 g3 hp0) ?_;exact aC h' (leo hd) ⟨by unfold eY;rw[if_neg (by simp[k1]),if_neg (by simp[k2]),if_pos k3]<;>rfl,rfl⟩
   obtain⟨v,z,C3⟩:=B7 w h2;have hG:decide ((65:Int)≤(byt w 0:Int))=false∨(decide ((65:Int)≤(byt w 0:Int))=true∧decide ((byt w 0:Int)≤90)=false)∨(decide ((65:Int)≤(byt w 0:Int))=true∧decide ((byt w 0:Int)≤90)=true∧decide ((w.size:Int)≤32)=false):=by
    simp only[fT,decide_eq_true_eq,decide_eq_false_iff_not] at k3⊢;omega
   refine aRr k1 k2 k3 (if z=true∧v.k=1 then 4 else 0) (by split<;>simp) ?_;refine aH (fun L=>trivial) fun h' nx hh=>aB L.aEO fun hd=>?_;refine ZK ?_;cases z with
   |false=>
    rcases hG with g1|⟨g1,g2⟩|⟨g1,g2,g3⟩
    all_goals first
     |refine aue (e6 hb g1 g2 g3 hp0 Vl.v.eq_1) ?_
     |refine aue (e5 hb g1 g2 hp0 Vl.v.eq_1) ?_
     |refine aue (e4 hb g1 hp0 Vl.v.eq_1) ?_
    all_goals exact aC h' (leo hd) ⟨rfl,rfl⟩
   |true=>
    cases k5:(v.k==1) with
    |true=>
     have k6:v.k=1:=by simpa using k5
     rw[if_pos ⟨rfl,k6⟩];rcases hG with g1|⟨g1,g2⟩|⟨g1,g2,g3⟩
     all_goals first
      |refine aue (e7 hb g1 g2 g3 hp0 Vl.v.eq_1 k5) ?_
      |refine aue (e6 hb g1 g2 hp0 Vl.v.eq_1 k5) ?_
      |refine aue (e5 hb g1 hp0 Vl.v.eq_1 k5) ?_
     all_goals exact aC h' (leo hd) ⟨rfl,rfl⟩
    |false=>
     have k6:v.k≠1:=by simpa using k5
     rw[if_neg (fun q=>k6 q.2)];rcases hG with g1|⟨g1,g2⟩|⟨g1,g2,g3⟩
     all_goals first
      |refine aue (e7 hb g1 g2 g3 hp0 Vl.v.eq_1 k5) ?_
      |refine aue (e6 hb g1 g2 hp0 Vl.v.eq_1 k5) ?_
      |refine aue (e5 hb g1 hp0 Vl.v.eq_1 k5) ?_
     all_goals exact aC h' (leo hd) ⟨rfl,rfl⟩
end Go.Proofs.YtgbiopfghdilnaaGreatDoor
namespace Go.Proofs.YtgbiopfghdilnaaGreatDoor
open Go.RowKit Go.Sort
attribute [local irreducible] Kg
def yq:List ByteArray:=[⟨[58,45].toArray⟩,⟨[33,61].toArray⟩,⟨[60,61].toArray⟩,⟨[62,61].toArray⟩]
def Aa:List ByteArray:=[⟨[40].toArray⟩,⟨[41].toArray⟩,⟨[44].toArray⟩,⟨[46].toArray⟩,⟨[61].toArray⟩,⟨[60].toArray⟩,⟨[62].toArray⟩,⟨[43].toArray⟩,⟨[45].toArray⟩,⟨[42].toArray⟩]
theorem im(r:ByteArray)(n:Nat):∀(l:List ByteArray),(∀t∈l,t.size=n)→l.find? (qM r)=if n≤r.size∧(l.any fun y=>decide (y=r.extract 0 n))=true then some (r.extract 0 n) else none
 | [],_=>Zm
 |a::l,h=>by
  have ih:=im r n l (fun t ht=>h t (Km _ ht));have ha:=h a Kp;have hp:qM r a=(decide (n≤r.size)&&decide (a=r.extract 0 n)):=by
   rw[Bf,ha];congr 1;rw[decide_eq_decide];exact⟨fun e=>e.symm,fun e=>e.symm⟩
  rw[List.find?_cons,hp,List.any_cons];by_cases h1:n≤r.size
  ·by_cases h2:a=r.extract 0 n
   ·simp[h1,h2]
   simp only[h1,h2,decide_true,decide_false,Bool.and_false,Bool.false_or,true_and] at ih⊢;exact ih
  simp only[h1,decide_false,Bool.false_and,false_and,if_false] at ih⊢;exact ih
theorem DP(r:ByteArray):qD r=if 2≤r.size∧(yq.any fun y=>decide (y=r.extract 0 2))=true then (5,r.extract 0 2) else if 1≤r.size∧(Aa.any fun y=>decide (y=r.extract 0 1))=true then (5,r.extract 0 1) else (0,⟨#[]⟩):=by
 unfold qD;have e:fC=yq++Aa:=rfl;rw[e,List.find?_append,im r 2 yq ZM,im r 1 Aa ZM];split
 ·rename_i t h;split at h
  ·rename_i c;rw[if_pos c];simp at h;rw[←h]
  rename_i c;rw[if_neg c];split at h
  ·rename_i c2;rw[if_pos c2];simp at h;rw[←h]
  simp at h
 rename_i h;split at h
 ·simp at h
 rename_i c;rw[if_neg c];split at h
 ·simp at h
 rename_i c2;rw[if_neg c2]
theorem qt(s:ByteArray)(i n:Nat)(h:i+n≤s.size):(s.extract i s.size).extract 0 n=s.extract i (i+n):=by
 apply ByteArray.ext;rw[ByteArray.data_extract,ByteArray.data_extract,ByteArray.data_extract,Array.extract_extract];congr 1;have:s.size=s.data.size:=rfl;omega
theorem Bd{s:ByteArray}{i:Nat}(h:i≤s.size):nB (s.extract i s.size)=eZ cK s i-i:=by
 obtain⟨a,b,c,d⟩:=fB cK s i h;unfold nB;have hs:(s.extract i s.size).size=s.size-i:=by rw[cV];omega
 refine rT (Ke _) (by rw[hs];omega) (fun k _ hk=>?_) ?_
 ·rw[sO or (Kc _)];exact c _ or or
 rcases d with d|d
 ·left;rw[hs,d]
 rcases Ka (eZ cK s i) s.size with q|q
 ·right;rw[sO or (Kc _)];have:i+(eZ cK s i-i)=eZ cK s i:=or;rw[this];exact d
 left;rw[hs];omega
theorem Cm{κ:ByteArray→Int}{s:ByteArray}{i:Nat}(h:i<s.size)(hw:cK (byt s i)=true)(h5:byt s i≠95):cD κ (s.extract i s.size)=(eY κ (s.extract i (eZ cK s i)),s.extract i (eZ cK s i))∧i<eZ cK s i∧eZ cK s i≤s.size:=by
 obtain⟨a,b,c,d⟩:=fB cK s i or;have hlt:i<eZ cK s i:=by
  rcases Ka i (eZ cK s i) with q|q
  ·exact q
  have e:eZ cK s i=i:=or;rw[e] at d;rcases d with d|d
  ·omega
  rw[hw] at d;cases d
 have hb0:byt (s.extract i s.size) 0=byt s i:=by rw[sO or (Kc _)];rfl
 unfold cD;rw[Bd or,hb0,if_pos ⟨or,h5⟩,qt _ _ _ or];have:i+(eZ cK s i-i)=eZ cK s i:=or;rw[this];exact⟨rfl,hlt,b⟩
theorem Cn{κ:ByteArray→Int}{s:ByteArray}{i:Nat}(h:i<s.size)(hw:cK (byt s i)=false∨byt s i=95):cD κ (s.extract i s.size)=if i+2≤s.size∧(yq.any fun y=>decide (y=s.extract i (i+2)))=true then (5,s.extract i (i+2)) else if (Aa.any fun y=>decide (y=s.extract i (i+1)))=true then (5,s.extract i (i+1)) else (0,⟨#[]⟩):=by
 have hb0:byt (s.extract i s.size) 0=byt s i:=by rw[sO or (Kc _)];rfl
 have hsz:(s.extract i s.size).size=s.size-i:=by rw[cV];omega
 obtain⟨a,b,c,d⟩:=fB cK s i or;have hno:¬(0<nB (s.extract i s.size)∧byt (s.extract i s.size) 0≠95):=by
  rw[Bd or,hb0];rintro⟨q1,q2⟩;rcases hw with hw|hw
  ·have:=c i (Kc _) or;rw[hw] at this;cases this
  exact q2 hw
 unfold cD;rw[if_neg hno,DP,hsz,qt s i 1 or];by_cases h2:i+2≤s.size
 ·rw[qt s i 2 h2];have e1:(2≤s.size-i)=True:=eq_true or;have e2:(1≤s.size-i)=True:=eq_true or;have e3:(i+2≤s.size)=True:=eq_true or;simp only[e1,e2,e3,true_and]
 have e1:(2≤s.size-i)=False:=eq_false or;have e2:(1≤s.size-i)=True:=eq_true or;have e3:(i+2≤s.size)=False:=eq_false or;simp only[e1,e2,e3,true_and,false_and,if_false]
def zx:Option Nat→Int
 |none=>-1
 |some a=>a
theorem vf(l:List Tk)(a:Int)(L:Nat→Prop):(V.tup [.sl (.agg 3) (frO l) (l.map Tk.v), .int .i64 a]).names L:=by
 refine⟨⟨?_,aT (fun x=>Tk.aAK L x) _⟩,trivial,trivial⟩;intro n e;unfold frO at e;split at e<;>cases e
def rlS(s:ByteArray)(o:Own)(done:List Tk)(i:Nat):List V:=aD 134 0 [(0, .str s),(2, .sl (.agg 3) .nil []),(3, .int .i64 0),(4, .sl (.agg 3) o (done.map Tk.v)),(5, .int .i64 i)]
end Go.Proofs.YtgbiopfghdilnaaGreatDoor
namespace Go.Proofs.YtgbiopfghdilnaaGreatDoor
open Go.RowKit Go.Sort
attribute [local irreducible] Kg
set_option maxRecDepth 100000 in
theorem DT(s:ByteArray)(hs:s.size≤4000)(o:Own)(done:List Tk)(i:Nat)(hlt:i<s.size)(hp:Hp)(nx1:Nat)(Q0:bN→St→Prop)(hbl:kF (byt s i)=true)
 (hQ:∀sl,WkL sl (rlS s o done (i+1))→Q0 .normal ⟨sl,hp,nx1⟩):lwp Tryz.prog L.aBP Q0 ⟨rlS s o done i,hp,nx1⟩:=by
 simp only[rlS,aD,go_sem,reduceIte,jA,jB,jC,jD,reduceCtorEq,jE,jF];have hbi:(s.data.toList.getD i 0).toNat=byt s i:=rfl;have hc:decide ((i:Int)<(s.size:Int))=true:=dct;have hw1:IntKind.i64.wrap ((i:Int)+1)=((i+1:Nat):Int):=wrp;have hK:((byt s i:Int)==9)=true∨(((byt s i:Int)==9)=false∧((byt s i:Int)==10)=true)∨(((byt s i:Int)==9)=false∧((byt s i:Int)==10)=false∧((byt s i:Int)==13)=true)∨(((byt s i:Int)==9)=false∧((byt s i:Int)==10)=false∧((byt s i:Int)==13)=false∧((byt s i:Int)==32)=true):=by
  simp only[kF,decide_eq_true_eq,beq_iff_eq,beq_eq_false_iff_ne] at hbl⊢;omega
 rcases hK with k1|⟨k1,k2⟩|⟨k1,k2,k3⟩|⟨k1,k2,k3,k4⟩
 all_goals first
  |refine aue (e9 hc hbi hw1 k1 k2 k3 k4 hlt (jG i)) ?_
  |refine aue (e8 hc hbi hw1 k1 k2 k3 hlt (jG i)) ?_
  |refine aue (e7 hc hbi hw1 k1 k2 hlt (jG i)) ?_
  |refine aue (e6 hc hbi hw1 k1 hlt (jG i)) ?_
 all_goals exact hQ _ (by unfold rlS;simp only[WkL,aD,jH,jI,jJ,go_sem,reduceIte,jA,jB,jC,jD,reduceCtorEq,jE,jF])
set_option maxRecDepth 100000 in
theorem FD(s:ByteArray)(hs:s.size≤4000)(o:Own)(done:List Tk)(i:Nat)(hlt:i<s.size)(hp:Hp)(nx1:Nat)(Q0:bN→St→Prop)(hbl:kF (byt s i)=false)(h37:byt s i=37)
 (hQ:∀sl,WkL sl (rlS s o done (eZ (fun c=>decide (c≠10)) s i))→Q0 .normal ⟨sl,hp,nx1⟩):lwp Tryz.prog L.aBP Q0 ⟨rlS s o done i,hp,nx1⟩:=by
 simp only[rlS,aD,go_sem,reduceIte,jA,jB,jC,jD,reduceCtorEq,jE,jF];have hbi:(s.data.toList.getD i 0).toNat=byt s i:=rfl;have hc:decide ((i:Int)<(s.size:Int))=true:=dct;have k1:((byt s i:Int)==9)=false:=bqf;have k2:((byt s i:Int)==10)=false:=bqf;have k3:((byt s i:Int)==13)=false:=bqf;have k4:((byt s i:Int)==32)=false:=bqf;have k5:((byt s i:Int)==37)=true:=bqt;obtain⟨a,b⟩:=sI hlt h37;obtain⟨_,_,c,d⟩:=fB (fun c=>decide (c≠10)) s i or;generalize eZ (fun c=>decide (c≠10)) s i=j at a b c d hQ;refine aue (e9 hc hbi hlt k1 k2 k3 k4 k5 (jG i)) ?_;refine aO (fun n:Nat=>rlS s o done n) (fun n hp2 nx2=>i≤n∧n≤j∧hp2=hp∧nx2=nx1) (fun n=>s.size-n) i ⟨Kc _,or,rfl,rfl⟩ (by unfold rlS;simp only[WkL,aD,jH,jI,jJ,go_sem,reduceIte,jA,jB,jC,jD,reduceCtorEq,jE,jF]) ?_;rintro n hp2 nx2 ⟨hn1,hn2,rfl,rfl⟩;generalize hQ2:aV _ _ _ _ _=Q2;simp only[rlS,aD,go_sem,reduceIte,jA,jB,jC,jD,reduceCtorEq,jE,jF];have hbn:(s.data.toList.getD n 0).toNat=byt s n:=rfl;rcases Ka n j with q|q
 ·have hc:decide ((n:Int)<(s.size:Int))=true:=dct;have hns:n<s.size:=or;have hw:IntKind.i64.wrap ((n:Int)+1)=((n+1:Nat):Int):=wrp;have h10:byt s n≠10:=of_decide_eq_true (c n hn1 q);have k:((byt s n:Int) != 10)=true:=bnt;refine aue (e6 hc hbn hw k hns (jG n)) ?_;rw[←hQ2];exact aF (n+1) or ⟨or,or,rfl,rfl⟩ (by unfold rlS;simp only[WkL,aD,jH,jI,jJ,go_sem,reduceIte,jA,jB,jC,jD,reduceCtorEq,jE,jF])
 have hnj:n=j:=or;subst hnj;rcases Ka n s.size with q2|q2
 ·have hc:decide ((n:Int)<(s.size:Int))=true:=dct;have h10:byt s n=10:=by
   rcases d with d|d
   ·omega
   have:=of_decide_eq_false d;omega
  have k:((byt s n:Int) != 10)=false:=bnf;refine aue (e5 hc hbn k q2 (jG n)) ?_;rw[←hQ2];refine au ?_;exact hQ _ (by unfold rlS;simp only[WkL,aD,jH,jI,jJ,go_sem,reduceIte,jA,jB,jC,jD,reduceCtorEq,jE,jF])
 have hc:decide ((n:Int)<(s.size:Int))=false:=dcf;refine aue hc ?_;rw[←hQ2];refine au ?_;exact hQ _ (by unfold rlS;simp only[WkL,aD,jH,jI,jJ,go_sem,reduceIte,jA,jB,jC,jD,reduceCtorEq,jE,jF])
set_option maxRecDepth 100000 in
theorem FB(s:ByteArray)(hs:s.size≤4000)(o:Own)(done:List Tk)(i:Nat)(hlt:i<s.size)(nx:Nat)(hp:Hp)(nx1:Nat)(hnx:nx≤nx1)(hdm:aS hp nx1)(aAM:Acc hp nx o (done.map Tk.v))(hlen:done.length≤i)(Q0:bN→St→Prop)(hbl:kF (byt s i)=false)(h37:byt s i≠37)(hw:cK (byt s i)=true)(h95:byt s i≠95)
 (hR:∀sl,(cD eE (s.extract i s.size)).1=0→sl.getD 2 V.undef= .sl (.agg 3) o (done.map Tk.v)→sl.getD 3 V.undef= .int .i64 i→Q0 .ret ⟨sl,hp,nx1⟩)
 (hQ:∀sl hp2 nx2 o2,(cD eE (s.extract i s.size)).1≠0→nx1≤nx2→aS hp2 nx2→Hp.same nx hp hp2→Acc hp2 nx o2 ((done++[(⟨(cD eE (s.extract i s.size)).1,(cD eE (s.extract i s.size)).2,i⟩:Tk)]).map Tk.v)→WkL sl (rlS s o2 (done++[(⟨(cD eE (s.extract i s.size)).1,(cD eE (s.extract i s.size)).2,i⟩:Tk)]) (i+(cD eE (s.extract i s.size)).2.size))→Q0 .normal ⟨sl,hp2,nx2⟩):
 lwp Tryz.prog L.aBP Q0 ⟨rlS s o done i,hp,nx1⟩:=by
 have bCE:¬(byt s i=9∨byt s i=10∨byt s i=13∨byt s i=32):=of_decide_eq_false hbl;obtain⟨hn,a,b⟩:=Cm (κ:=eE) hlt hw h95;obtain⟨_,_,c,d⟩:=fB cK s i or;rw[hn] at hR hQ;dsimp only at hR hQ;generalize eZ cK s i=j at a b c d hR hQ;have hsz:i+(s.extract i j).size=j:=by rw[cV];omega
 rw[hsz] at hQ;have W1:=fun h=>zd (s.extract i j) (by rw[cV];omega) (by rw[cV];omega) h;generalize eY eE (s.extract i j)=K at W1 hR hQ;simp only[rlS,aD,go_sem,reduceIte,jA,jB,jC,jD,reduceCtorEq,jE,jF];have hbi:(s.data.toList.getD i 0).toNat=byt s i:=rfl;have hc:decide ((i:Int)<(s.size:Int))=true:=dct;have k1:((byt s i:Int)==9)=false:=bqf;have k2:((byt s i:Int)==10)=false:=bqf;have k3:((byt s i:Int)==13)=false:=bqf;have k4:((byt s i:Int)==32)=false:=bqf;have k5:((byt s i:Int)==37)=false:=bqf;have k6:((byt s i:Int) != 95)=true:=bnt;have C1:=fun h=>lT (byt s i) h;rw[hw] at C1;refine aue (e10 hc hbi hlt k1 k2 k3 k4 k5 k6 (jG i)) ?_;clear C1;refine aO (fun n:Nat=>aD 134 0 [(0, .str s),(2, .sl (.agg 3) .nil []),(3, .int .i64 0),(4, .sl (.agg 3) o (done.map Tk.v)),(5, .int .i64 i),(7, .int .i64 n)]) (fun n hp2 nx2=>i≤n∧n≤j∧hp2=hp∧nx2=nx1) (fun n=>s.size-n) i ⟨Kc _,or,rfl,rfl⟩ (by simp only[WkL,aD,jH,jI,jJ,go_sem,reduceIte,jA,jB,jC,jD,reduceCtorEq,jE,jF]) ?_;rintro n hp2 nx2 ⟨hn1,hn2,rfl,rfl⟩;generalize hQ2:aV _ _ _ _ _=Q2;refine Zk ?_;have hbn:(s.data.toList.getD n 0).toNat=byt s n:=rfl;rcases Ka n j with q|q
 ·have hc:decide ((n:Int)<(s.size:Int))=true:=dct;have hns:n<s.size:=or;have hw:IntKind.i64.wrap ((n:Int)+1)=((n+1:Nat):Int):=wrp;have C1:=fun h=>lT (byt s n) h;rw[c n hn1 q] at C1;refine aue (e5 hc hbn hw hns (jG n)) ?_;rw[←hQ2];exact aF (n+1) or ⟨or,or,rfl,rfl⟩ (by simp only[WkL,aD,jH,jI,jJ,go_sem,reduceIte,jA,jB,jC,jD,reduceCtorEq,jE,jF])
 have hnj:n=j:=or;subst hnj;have aHz:decide ((n:Int)<(s.size:Int))=false∨(decide ((n:Int)<(s.size:Int))=true∧n<s.size∧cK (byt s n)=false):=by
  rcases Ka n s.size with q2|q2
  ·right;rcases d with d|d
   ·omega
   exact⟨dct,q2,d⟩
  left;exact dcf
 have C1:=fun h=>lT (byt s n) h;have C2:=W1;have hcap:done.length≤1000000:=or;by_cases hK:K=0
 ·have g1:(K==0)=true:=bqt;rcases aHz with hc|⟨hc,hns,hwf⟩
  ·refine aue hc ?_;rw[←hQ2];refine aue (e5 g1 a b (jG i) (jG n)) ?_;exact hR _ hK (by simp only[go_sem,reduceIte,jA,jB,jC,jD,reduceCtorEq,jE,jF]) (by simp only[go_sem,reduceIte,jA,jB,jC,jD,reduceCtorEq,jE,jF])
  rw[hwf] at C1;refine aue (e4 hc hbn hns (jG n)) ?_;rw[←hQ2];refine aue (e5 g1 a b (jG i) (jG n)) ?_;exact hR _ hK (by simp only[go_sem,reduceIte,jA,jB,jC,jD,reduceCtorEq,jE,jF]) (by simp only[go_sem,reduceIte,jA,jB,jC,jD,reduceCtorEq,jE,jF])
 have g1:(K==0)=false:=bqf;rcases aHz with hc|⟨hc,hns,hwf⟩
 ·refine aue hc ?_;rw[←hQ2];refine aue (e6 g1 a b (jG i) (jG n) hcap) ?_;exact hQ _ _ _ _ hK or (dmo hdm) (rC Hp.same.aAn aAM) (by rw[Kb];exact Acc.new _ Zm or) (by unfold rlS;simp only[WkL,aD,jH,jI,jJ,Kb,Ki,Kh,Tk.v,go_sem,reduceIte,jA,jB,jC,jD,reduceCtorEq,jE,jF])
 rw[hwf] at C1;refine aue (e4 hc hbn hns (jG n)) ?_;rw[←hQ2];refine aue (e6 g1 a b (jG i) (jG n) hcap) ?_;exact hQ _ _ _ _ hK or (dmo hdm) (rC Hp.same.aAn aAM) (by rw[Kb];exact Acc.new _ Zm or) (by unfold rlS;simp only[WkL,aD,jH,jI,jJ,Kb,Ki,Kh,Tk.v,go_sem,reduceIte,jA,jB,jC,jD,reduceCtorEq,jE,jF])
set_option maxRecDepth 100000 in
theorem FC(s:ByteArray)(hs:s.size≤4000)(o:Own)(done:List Tk)(i:Nat)(hlt:i<s.size)(h0:Hp)(nx:Nat)(hd:aS h0 nx)(hp:Hp)(hle:h0.le hp)(nx1:Nat)(hnx:nx≤nx1)(hdm:aS hp nx1)(aAM:Acc hp nx o (done.map Tk.v))(hlen:done.length≤i)(Q0:bN→St→Prop)(hbl:kF (byt s i)=false)(h37:byt s i≠37)(hw:cK (byt s i)=false∨byt s i=95)
 (hR:∀sl hp2 nx2,(cD eE (s.extract i s.size)).1=0→h0.le hp2→sl.getD 2 V.undef= .sl (.agg 3) o (done.map Tk.v)→sl.getD 3 V.undef= .int .i64 i→Q0 .ret ⟨sl,hp2,nx2⟩)
 (hQ:∀sl hp2 nx2 o2,(cD eE (s.extract i s.size)).1≠0→nx1≤nx2→aS hp2 nx2→Hp.same nx hp hp2→Acc hp2 nx o2 ((done++[(⟨(cD eE (s.extract i s.size)).1,(cD eE (s.extract i s.size)).2,i⟩:Tk)]).map Tk.v)→WkL sl (rlS s o2 (done++[(⟨(cD eE (s.extract i s.size)).1,(cD eE (s.extract i s.size)).2,i⟩:Tk)]) (i+(cD eE (s.extract i s.size)).2.size))→Q0 .normal ⟨sl,hp2,nx2⟩):
 lwp Tryz.prog L.aBP Q0 ⟨rlS s o done i,hp,nx1⟩:=by
 have bCE:¬(byt s i=9∨byt s i=10∨byt s i=13∨byt s i=32):=of_decide_eq_false hbl;have hn:=Cn (κ:=eE) hlt hw;rw[hn] at hR hQ;have C5:∀{o:Own} {h:Hp},aK Tryz.prog 229 [.sl .leaf o [.str ⟨#[58,45]⟩, .str ⟨#[33,61]⟩, .str ⟨#[60,61]⟩, .str ⟨#[62,61]⟩], .str (s.extract i (i+2))] h (.bool (yq.any fun y=>decide (y=s.extract i (i+2)))):=fun{o h}=>ei o yq ZM _ h;have C6:∀{o:Own} {h:Hp},aK Tryz.prog 229 [.sl .leaf o [.str ⟨#[40]⟩, .str ⟨#[41]⟩, .str ⟨#[44]⟩, .str ⟨#[46]⟩, .str ⟨#[61]⟩, .str ⟨#[60]⟩, .str ⟨#[62]⟩, .str ⟨#[43]⟩, .str ⟨#[45]⟩, .str ⟨#[42]⟩], .str (s.extract i (i+1))] h (.bool (Aa.any fun y=>decide (y=s.extract i (i+1)))):=fun{o h}=>ei o Aa ZM _ h;have hs1:i+(s.extract i (i+1)).size=i+1:=by rw[cV];omega
 have hs2:i+2≤s.size→i+(s.extract i (i+2)).size=i+2:=fun _=>by rw[cV];omega
 generalize hT2:(yq.any fun y=>decide (y=s.extract i (i+2)))=T2 at C5 hR hQ;generalize hT1:(Aa.any fun y=>decide (y=s.extract i (i+1)))=T1 at C6 hR hQ;clear hT1 hT2 hn;simp only[rlS,aD,go_sem,reduceIte,jA,jB,jC,jD,reduceCtorEq,jE,jF];have hbi:(s.data.toList.getD i 0).toNat=byt s i:=rfl;have hc:decide ((i:Int)<(s.size:Int))=true:=dct;have k1:((byt s i:Int)==9)=false:=bqf;have k2:((byt s i:Int)==10)=false:=bqf;have k3:((byt s i:Int)==13)=false:=bqf;have k4:((byt s i:Int)==32)=false:=bqf;have k5:((byt s i:Int)==37)=false:=bqf;have C1:=fun h=>lT (byt s i) h;have hcap:done.length≤1000000:=or;have hw1:IntKind.i64.wrap ((i:Int)+1)=((i+1:Nat):Int):=wrp;have hw2:IntKind.i64.wrap ((i:Int)+2)=((i+2:Nat):Int):=wrp;have hi1:i≤i+1:=or;have hi2:i≤i+2:=or;have hj1:i+1≤s.size:=or;have e0:(((byt s i:Int) != 95)=((byt s i:Int) != 95)):=rfl;have hW:cK (byt s i)=false∨(cK (byt s i)=true∧((byt s i:Int) != 95)=false):=by
  cases k:cK (byt s i) with
  |false=>exact .inl rfl
  |true=>
   right;rcases hw with hw|hw
   ·rw[hw] at k;cases k
   exact⟨rfl,bnf⟩
 by_cases h2:i+2≤s.size
 ·have g2:decide (((i+2:Nat):Int)≤(s.size:Int))=true:=dct;have hs2:=hs2 h2;cases T2 with
  |true=>
   rw[if_pos ⟨h2,rfl⟩] at hR hQ;dsimp only at hQ;rw[hs2] at hQ;rcases hW with hwf|⟨hwf,k6⟩<;>rw[hwf] at C1
   all_goals first
    |refine aue (e12 hc hbi hlt k1 k2 k3 k4 k5 (e3 hw1 hw2 k6) (e5 hi1 hi2 hj1 h2 hcap) g2 jG) ?_
    |refine aue (e12 hc hbi hlt k1 k2 k3 k4 k5 (e2 hw1 hw2) (e5 hi1 hi2 hj1 h2 hcap) g2 jG) ?_
   all_goals exact hQ _ _ _ _ ZM or (dmo hdm) (rC Hp.same.aAn aAM) (by rw[Kb];exact Acc.new _ Zm or) (by unfold rlS;simp only[WkL,aD,jH,jI,jJ,Kb,Ki,Kh,Tk.v,go_sem,reduceIte,jA,jB,jC,jD,reduceCtorEq,jE,jF])
  |false=>
   rw[if_neg (fun k=>by cases k.2)] at hR hQ;cases T1 with
   |true=>
    rw[if_pos rfl] at hR hQ;dsimp only at hQ;rw[hs1] at hQ;rcases hW with hwf|⟨hwf,k6⟩<;>rw[hwf] at C1
    all_goals first
     |refine aue (e12 hc hbi hlt k1 k2 k3 k4 k5 (e3 hw1 hw2 k6) (e5 hi1 hi2 hj1 h2 hcap) g2 jG) ?_
     |refine aue (e12 hc hbi hlt k1 k2 k3 k4 k5 (e2 hw1 hw2) (e5 hi1 hi2 hj1 h2 hcap) g2 jG) ?_
    all_goals exact hQ _ _ _ _ ZM or (dmo hdm) (rC Hp.same.aAn aAM) (by rw[Kb];exact Acc.new _ Zm or) (by unfold rlS;simp only[WkL,aD,jH,jI,jJ,Kb,Ki,Kh,Tk.v,go_sem,reduceIte,jA,jB,jC,jD,reduceCtorEq,jE,jF])
   |false=>
    rw[if_neg Zm] at hR;rcases hW with hwf|⟨hwf,k6⟩<;>rw[hwf] at C1
    all_goals first
     |refine aue (e12 hc hbi hlt k1 k2 k3 k4 k5 (e3 hw1 hw2 k6) (e5 hi1 hi2 hj1 h2 hcap) g2 jG) ?_
     |refine aue (e12 hc hbi hlt k1 k2 k3 k4 k5 (e2 hw1 hw2) (e5 hi1 hi2 hj1 h2 hcap) g2 jG) ?_
    all_goals exact hR _ _ _ rfl (lef hd hle) (by simp only[go_sem,reduceIte,jA,jB,jC,jD,reduceCtorEq,jE,jF]) (by simp only[go_sem,reduceIte,jA,jB,jC,jD,reduceCtorEq,jE,jF])
 have g2:decide (((i+2:Nat):Int)≤(s.size:Int))=false:=dcf;rw[if_neg (fun k=>h2 k.1)] at hR hQ;cases T1 with
 |true=>
  rw[if_pos rfl] at hR hQ;dsimp only at hQ;rw[hs1] at hQ;rcases hW with hwf|⟨hwf,k6⟩<;>rw[hwf] at C1
  all_goals first
   |refine aue (e12 hc hbi hlt k1 k2 k3 k4 k5 (e3 hw1 hw2 k6) (e4 hi1 hi2 hj1 hcap) g2 jG) ?_
   |refine aue (e12 hc hbi hlt k1 k2 k3 k4 k5 (e2 hw1 hw2) (e4 hi1 hi2 hj1 hcap) g2 jG) ?_
  all_goals exact hQ _ _ _ _ ZM or (dmo hdm) (rC Hp.same.aAn aAM) (by rw[Kb];exact Acc.new _ Zm or) (by unfold rlS;simp only[WkL,aD,jH,jI,jJ,Kb,Ki,Kh,Tk.v,go_sem,reduceIte,jA,jB,jC,jD,reduceCtorEq,jE,jF])
 |false=>
  rw[if_neg Zm] at hR;rcases hW with hwf|⟨hwf,k6⟩<;>rw[hwf] at C1
  all_goals first
   |refine aue (e12 hc hbi hlt k1 k2 k3 k4 k5 (e3 hw1 hw2 k6) (e4 hi1 hi2 hj1 hcap) g2 jG) ?_
   |refine aue (e12 hc hbi hlt k1 k2 k3 k4 k5 (e2 hw1 hw2) (e4 hi1 hi2 hj1 hcap) g2 jG) ?_
  all_goals exact hR _ _ _ rfl (lef hd hle) (by simp only[go_sem,reduceIte,jA,jB,jC,jD,reduceCtorEq,jE,jF]) (by simp only[go_sem,reduceIte,jA,jB,jC,jD,reduceCtorEq,jE,jF])
end Go.Proofs.YtgbiopfghdilnaaGreatDoor
namespace Go.Proofs.YtgbiopfghdilnaaGreatDoor
open Go.RowKit Go.Sort
attribute [local irreducible] Kg
set_option maxRecDepth 100000 in
theorem zn(s:ByteArray)(hs:s.size≤4000)(h:Hp):aK Tryz.prog 220 [.str s] h (.tup [.sl (.agg 3) (frO (fI eE s (bW s 0)).1) ((fI eE s (bW s 0)).1.map Tk.v), .int .i64 (zx (fI eE s (bW s 0)).2)]):=by
 obtain⟨T,hT⟩:∃T,fI eE s (bW s 0)=T:=⟨_,rfl⟩;rw[hT];refine bK (fun L=>vf T.1 _ L) fun h' nx hh=>aB L.aYn fun hd=>?_;simp only[Kt,Kx,Kj,Kk,KA,KB,KE,KG,V.undef];refine au ?_
 refine aO (fun q:Nat×Own×List Tk=>rlS s q.2.1 q.2.2 q.1)
  (fun q hp nx1=>q.1≤s.size∧nx≤nx1∧aS hp nx1∧Hp.same nx h' hp∧Acc hp nx q.2.1 (q.2.2.map Tk.v)∧T=(q.2.2++(fI eE s (bW s q.1)).1,(fI eE s (bW s q.1)).2)∧q.2.2.length≤q.1)
  (fun q=>s.size-q.1) (0, .nil,[]) ⟨Ke _,Kc _,hd,Hp.same.aAn,Acc.nil,by rw[hT];rfl,Ke _⟩ (by unfold rlS;simp only[WkL,aD,Int.natCast_add,Int.natCast_one,Int.natCast_zero,Kh,go_sem,reduceIte,Kj,Kk,KC,Ku,reduceCtorEq,Kv,Ky]) ?_
 rintro⟨i,o,done⟩ hp nx1 ⟨hi,hnx,hdm,hsm,aAM,hTe,hlen⟩;generalize hQ:aV _ _ _ _ _=Q0;dsimp only at hi aAM hTe hlen;have hle:=hsm.le hd (Hp.le_refl _);have hfr:∀(b:Int),(V.tup [.sl (.agg 3) o (done.map Tk.v), .int .i64 b]).aAv= .tup [.sl (.agg 3) (frO done) (done.map Tk.v), .int .i64 b]:=fun b=>by
  rcases aAM with⟨e,rfl⟩|⟨e,id,_,rfl,_⟩
  ·obtain rfl:done=[]:=by simpa using e
   rfl
  have:done.isEmpty=false:=by
   cases done with
   |nil=>exact absurd rfl e
   |cons a r=>rfl
  show V.tup [.sl (.agg 3) .free (done.map Tk.v), .int .i64 b]=_;unfold frO;rw[this];rfl
 rcases(Ka i s.size).symm with hge|hlt
 ·have hc:decide ((i:Int)<(s.size:Int))=false:=dcf;simp only[rlS,aD,go_sem,reduceIte,Kj,Kk,KC,Ku,reduceCtorEq,Kv,Ky];refine aue hc ?_;rw[←hQ];refine au ?_;have hT2:T=(done,none):=by rw[hTe,mF hge,jY hge];simp
  refine aM hp (Hp.le_refl _) ⟨?_,hle⟩;simp only[go_sem,reduceIte,Kj,Kk,KC,Ku,reduceCtorEq,Kv,Ky];rw[hT2];exact hfr _
 have bAm:∀sl hp2 nx2,h'.le hp2→sl.getD 2 V.undef= .sl (.agg 3) o (done.map Tk.v)→sl.getD 3 V.undef= .int .i64 i→T=(done,some i)→Q0 .ret ⟨sl,hp2,nx2⟩:=fun sl hp2 nx2 q1 q2 q3 q4=>by
  rw[←hQ];refine au ?_;refine aM hp2 (Hp.le_refl _) ⟨?_,q1⟩;dsimp only;rw[q2,q3,q4];exact hfr _
 cases hbl:kF (byt s i) with
 |true=>
  have hsk:=zE hlt hbl;refine DT s hs o done i hlt hp nx1 Q0 hbl fun sl hw=>?_;rw[←hQ];exact aF (i+1,o,done) Zw ⟨Zw,hnx,hdm,hsm,aAM,by dsimp only;rw[←hsk];exact hTe,Zw⟩ hw
 |false=>
 by_cases h37:byt s i=37
 ·have hsk:=dl hlt hbl h37;obtain⟨a,b⟩:=sI hlt h37;refine FD s hs o done i hlt hp nx1 Q0 hbl h37 fun sl hw=>?_;rw[←hQ];exact aF (eZ (fun c=>decide (c≠10)) s i,o,done) Zw ⟨Zw,hnx,hdm,hsm,aAM,by dsimp only;rw[←hsk];exact hTe,Zw⟩ hw
 have hsk:=tP hlt hbl h37;rw[hsk] at hTe;have aRU:(cD eE (s.extract i s.size)).1=0→T=(done,some i):=fun k=>by rw[hTe,wF hlt k];simp
 have hon:∀sl hp2 nx2 o2,(cD eE (s.extract i s.size)).1≠0→nx1≤nx2→aS hp2 nx2→Hp.same nx hp hp2→Acc hp2 nx o2 ((done++[(⟨(cD eE (s.extract i s.size)).1,(cD eE (s.extract i s.size)).2,i⟩:Tk)]).map Tk.v)→WkL sl (rlS s o2 (done++[(⟨(cD eE (s.extract i s.size)).1,(cD eE (s.extract i s.size)).2,i⟩:Tk)]) (i+(cD eE (s.extract i s.size)).2.size))→Q0 .normal ⟨sl,hp2,nx2⟩:=fun sl hp2 nx2 o2 q0 q1 q2 q3 q4 q5=>by
  have hz:=kP q0;rw[cV] at hz;generalize hN:cD eE (s.extract i s.size)=N at q0 q4 q5 hz;obtain⟨K,t⟩:=N;dsimp only at q0 q4 q5 hz;rw[oI (κ:=eE) hlt hN q0] at hTe;dsimp only at hTe;rw[←hQ];exact aF (i+t.size,o2,done++[⟨K,t,i⟩]) Zw ⟨Zw,or,q2,fun m hm=>(q3 m hm).trans (hsm m hm),q4,by dsimp only;rw[hTe];simp,by dsimp only;rw[List.length_append];simp only[Kt,Kx];omega⟩ q5
 by_cases hw:cK (byt s i)=true∧byt s i≠95
 ·exact FB s hs o done i hlt nx hp nx1 hnx hdm aAM hlen Q0 hbl h37 hw.1 hw.2 (fun sl q0 q1 q2=>bAm sl hp nx1 hle q1 q2 (aRU q0)) hon
 have hw':cK (byt s i)=false∨byt s i=95:=by
  cases k:cK (byt s i) with
  |false=>exact .inl rfl
  |true=>
   right;by_cases q:byt s i=95
   ·exact q
   exact absurd ⟨k,q⟩ hw
 exact FC s hs o done i hlt h' nx hd hp hle nx1 hnx hdm aAM hlen Q0 hbl h37 hw' (fun sl hp2 nx2 q0 q1 q2 q3=>bAm sl hp2 nx2 q1 q2 q3 (aRU q0)) hon
noncomputable def Fl(s:ByteArray):V:=
 if 4000<s.size then .tup [.sl (.agg 3) .nil [], .int .i64 4000, .int .i64 3]
 else match (fI eE s (bW s 0)).2 with
  |none=> .tup [.sl (.agg 3) (frO (fI eE s (bW s 0)).1) ((fI eE s (bW s 0)).1.map Tk.v), .int .i64 0, .int .i64 0]
  |some a=> .tup [.sl (.agg 3) .nil [], .int .i64 a, .int .i64 2]
theorem AZ(s:ByteArray)(L:Nat→Prop):(Fl s).names L:=by
 unfold Fl;split
 ·simp[V.names,bI]
 split
 ·refine⟨⟨?_,aT (fun x=>Tk.aAK L x) _⟩,trivial,trivial,trivial⟩;intro n e;unfold frO at e;split at e<;>cases e
 simp[V.names,bI]
theorem Ca(s:ByteArray)(h:Hp):aK Tryz.prog 206 [.str s] h (Fl s):=by
 refine aH (AZ s) fun h' nx hh=>aB L.aY4 fun hd=>?_;simp only[Kt,Kx,Kj,Kk,KA,KB,KE,KG,V.undef];unfold Fl;by_cases hs:4000<s.size
 ·have g1:decide ((4000:Int)<(s.size:Int))=true:=dct;rw[if_pos hs];refine aue g1 ?_;exact aU h' (leo hd) ⟨rfl,rfl⟩
 have g1:decide ((4000:Int)<(s.size:Int))=false:=dcf;rw[if_neg hs];have C1:=fun h=>zn s or h;obtain⟨T,hT⟩:∃T,fI eE s (bW s 0)=T:=⟨_,rfl⟩;rw[hT] at C1⊢;obtain⟨l,b⟩:=T;cases b with
 |none=>
  have g2:decide ((0:Int)≤-1)=false:=ZM;refine aue (e3 g1 g2 zx.eq_1) ?_;exact aU h' (leo hd) ⟨rfl,rfl⟩
 |some a=>
  have g2:decide ((0:Int)≤(a:Int))=true:=dct;refine aue (e3 g1 g2 zx.eq_2) ?_;exact aU h' (leo hd) ⟨rfl,rfl⟩
end Go.Proofs.YtgbiopfghdilnaaGreatDoor
namespace Go.Proofs.YtgbiopfghdilnaaGreatDoor
open Go.RowKit Go.Sort
attribute [local irreducible] Kg
theorem GC{k:Int}(hk:k≠5){s:ByteArray}{t:Tk}(h:fI eE s (bW s 0)=([t],none))(h1:t.k=k)(h2:t.t=s):t=⟨k,s,0⟩:=by
 have hs:0<s.size:=by
  rcases Nat.eq_zero_or_pos s.size with e|e
  ·rw[mF or,jY or] at h;cases h
  exact e
 obtain⟨ha,_⟩:=gp h h1 hk h2 hs;cases t;simp only at h1 h2 ha;rw[h1,h2,ha]
noncomputable def od(k:Int)(s:ByteArray):Bool:=decide (s.size≤4000∧fI eE s (bW s 0)=([⟨k,s,0⟩],none))
theorem zF(s:ByteArray)(k:Int)(hk5:k≠5)(h:Hp):aK Tryz.prog 195 [.str s, .int .i64 k] h (.bool (od k s)):=by
 refine aH (fun L=>trivial) fun h' nx hh=>aB L.aZB fun hd=>?_;refine ZK ?_;have C0:=fun h=>Ca s h;unfold Fl at C0;unfold od;by_cases h1:4000<s.size
 ·rw[if_pos h1] at C0;have C1:=C0;have g1:((3:Int)==0)=false:=rfl;refine aue g1 ?_;refine aC h' (leo hd) ⟨?_,rfl⟩;first|rfl|(rw[decide_eq_false or];rfl)
 rw[if_neg h1] at C0;obtain⟨T,hT⟩:∃T,fI eE s (bW s 0)=T:=⟨_,rfl⟩;have hsg:=@GC k hk5 s;rw[hT] at C0 hsg⊢;obtain⟨l,b⟩:=T;have h2:s.size≤4000:=or;cases b with
 |some a=>
  have C1:∀h,aK Tryz.prog 206 [.str s] h (.tup [.sl (.agg 3) .nil [], .int .i64 a, .int .i64 2]):=C0;have g1:((2:Int)==0)=false:=rfl;refine aue g1 ?_;refine aC h' (leo hd) ⟨?_,rfl⟩;first|rfl|(rw[decide_eq_false Zm];rfl)
 |none=>
  have g1:((0:Int)==0)=true:=rfl;cases l with
  |nil=>
   have C1:∀h,aK Tryz.prog 206 [.str s] h (.tup [.sl (.agg 3) .nil [], .int .i64 0, .int .i64 0]):=C0;have hk:(((0:Nat):Int)==1)=false:=rfl;refine aue (e2 g1 hk) ?_;refine aC h' (leo hd) ⟨?_,rfl⟩;first|rfl|(rw[decide_eq_false Zm];rfl)
  |cons t r=>
  cases r with
  |nil=>
   have C1:∀h,aK Tryz.prog 206 [.str s] h (.tup [.sl (.agg 3) .free [.agg [.int .i64 t.k, .str t.t, .int .i64 t.a]], .int .i64 0, .int .i64 0]):=C0;have hk:(((1:Nat):Int)==1)=true:=rfl;have hk':(((0+1:Nat):Int)==1)=true:=rfl;have hbe:=dN t.t s
   (repeat' (first|(with_reducible first|refine stp ?_|refine cG ZM ?_|refine pI (fun _=>?_) (fun _=>?_))|((first|(with_reducible refine lV ?_;first|refine jX rfl ?_ ?_|refine aI (C1 _) rfl (aL _) ?_|refine Zx ?_)|(with_reducible refine lZ ?_;first|refine kB rfl ?_ ?_|refine ZX ?_)|refine Zy ?_)<;>try simp only[g1,hk,hk',hbe,go_sem,reduceIte,jA,jB,jC,jD,reduceCtorEq,jE,jF])|refine ZY ?_|omega))
   all_goals refine aC h' (leo hd) ⟨vb ?_,rfl⟩
   ·rename_i q;have q:t.k=k:=by simpa using q
    by_cases q2:t.t=s
    ·have:=hsg rfl q q2;simp[q2,h2,this]
    have:t≠⟨k,s,0⟩:=fun e=>q2 (by rw[e]);simp[q2,this]
   rename_i q;have q:t.k≠k:=by simpa using q
   have:t≠⟨k,s,0⟩:=fun e=>q (by rw[e]);simp[this]
  |cons u r=>
   have C1:∀h,aK Tryz.prog 206 [.str s] h (.tup [.sl (.agg 3) .free (t.v::u.v::r.map Tk.v), .int .i64 0, .int .i64 0]):=C0;obtain⟨q,hq⟩:∃q,r.map Tk.v=q:=⟨_,rfl⟩;rw[hq] at C1;have hk:(((q.length+1+1:Nat):Int)==1)=false:=bqf;have hk':((q.length:Int)+1+1==1)=false:=bqf;refine aue (e3 g1 hk hk') ?_;refine aC h' (leo hd) ⟨?_,rfl⟩;first|rfl|(rw[decide_eq_false Zm];rfl)
theorem CW(s:ByteArray):od 3 s=pl s:=by
 rw[Kf];unfold od;rw[decide_eq_true_eq,Bk Bm];exact⟨fun h=>h.2,fun h=>⟨by have:=(of_decide_eq_true h).2.1;omega,h⟩⟩
theorem CZ(s:ByteArray):od 2 s=zq s:=by
 rw[Kf];unfold od;rw[decide_eq_true_eq,Bl Bm];exact⟨fun h=>h.2,fun h=>⟨by have:=(of_decide_eq_true (of_decide_eq_true h).1).2.1;omega,h⟩⟩
theorem dy(s:ByteArray)(h:Hp):aK Tryz.prog 194 [.str s] h (.bool (pl s)):=by
 refine aH (fun L=>trivial) fun h' nx hh=>aB L.aZC fun hd=>?_;refine ZK ?_;have C1:=fun h=>zF s 3 ZM h;rw[CW] at C1;refine au ?_;exact aC h' (leo hd) ⟨rfl,rfl⟩
theorem tw(s:ByteArray)(h:Hp):aK Tryz.prog 178 [.str s] h (.bool (zq s)):=by
 refine aH (fun L=>trivial) fun h' nx hh=>aB L.aZQ fun hd=>?_;refine ZK ?_;have C1:=fun h=>zF s 2 ZM h;rw[CZ] at C1;refine au ?_;exact aC h' (leo hd) ⟨rfl,rfl⟩
theorem tR(t:Tr)(hl:t.w.s.size≤9223372036854775807)(h:Hp):aK Tryz.prog 177 [t.v] h (.bool (dV t)):=by
 refine aH (fun L=>trivial) fun h' nx hh=>aB L.aZR fun hd=>?_;refine ZK ?_;have C1:∀h,aK Tryz.prog 110 [.agg [.int .i64 t.w.k, .int .i64 t.w.n, .str t.w.s]] h (.bool (dL t.w)):=fun h=>iY t.w hl h;have C2:=fun h=>dy t.x h;have hz:=ku t.w;unfold dV;by_cases h1:t.x.size=0
 ·have g1:((t.x.size:Int)==0)=true:=bqt;refine aue (e2 Tr.v.eq_1 g1) ?_;refine aC h' (leo hd) ⟨?_,rfl⟩;rw[if_pos h1];rfl
 have g1:((t.x.size:Int)==0)=false:=bqf;rw[if_neg h1];cases h2:pl t.x with
 |true=>
  rw[h2] at C2;refine aue (e3 Tr.v.eq_1 g1 hz) ?_;refine aC h' (leo hd) ⟨?_,rfl⟩;rfl
 |false=>
  rw[h2] at C2;refine aue (e3 Tr.v.eq_1 g1 hz) ?_;refine aC h' (leo hd) ⟨?_,rfl⟩;rfl
theorem dx(e:Ex)(h:Hp):aK Tryz.prog 179 [e.v] h (.bool (kJ e)):=by
 refine aH (fun L=>trivial) fun h' nx hh=>aB L.aZP fun hd=>?_;obtain⟨op,t,o,ks⟩:=e;rw[Ex.aAV];refine ZK ?_;have hz:=mE t;have k0:=kl0 ks;unfold kJ
 (repeat' (first|(with_reducible first|refine stp ?_|refine cG ZM ?_|refine pI (fun _=>?_) (fun _=>?_))|((first|(with_reducible refine lV ?_;first|refine jX rfl ?_ ?_|refine Zx ?_)|(with_reducible refine lZ ?_;first|refine kB rfl ?_ ?_|refine ZX ?_)|refine Zy ?_)<;>try simp only[Ex.cs.eq_1,Ex.op.eq_1,Ex.t.eq_1,Ex.o.eq_1,Ex.kids.eq_1,hz,k0,jK,go_sem,reduceIte,jA,jB,jC,jD,reduceCtorEq,jE,jF])|refine ZY ?_|omega))
 all_goals refine aC h' (leo hd) ⟨vb ?_,rfl⟩
 all_goals simp_all
def Tr.sm(t:Tr):Prop:=t.x.size≤9223372036854775807∧t.w.s.size≤9223372036854775807
mutual
def Ex.sm:Ex→Prop
 | .mk _ t _ ks=>t.sm∧Ex.sms ks
def Ex.sms:List Ex→Prop
 | []=>True
 |e::r=>e.sm∧Ex.sms r
end
def Am.sm(a:Am):Prop:=a.r.size≤9223372036854775807∧∀t∈a.l,t.sm
def Li.sm(l:Li):Prop:=l.a.sm∧l.x.sm∧l.y.sm
def Ru.sm(r:Ru):Prop:=r.h.sm∧∀l∈r.b,l.sm
theorem qJ(n:Nat)(op:Int)(t:Tr)(o:Own)(ks:List Ex)(h:ks.length≠2):cR (n+1) (.mk op t o ks)=(if op=0 then decide (ks=[]∧dV t=true) else false):=by
 unfold cR;match ks,h with
 | [],_=>rfl
 | [a],_=>rfl
 | [a,b],h=>exact absurd rfl h
 |a::b::c::r,_=>rfl
theorem ep(n:Nat)(op:Int)(t:Tr)(o:Own)(a b:Ex):cR (n+1) (.mk op t o [a,b])=(if op=0 then false else decide (1≤op∧op≤3∧nJ t=true∧cR n a=true∧cR n b=true)):=by
 conv=>lhs;unfold cR
 simp
theorem HE(l:List Ex):((l.length:Int)==2)=decide (l.length=2):=by
 rw[Kf];simp;omega
theorem zp:∀(n:Nat) (hn:n≤100) (e:Ex) (he:e.sm) (h:Hp),aK Tryz.prog 196 [e.v, .int .i64 n] h (.bool (cR n e)):=by
 intro n;induction n with
 |zero=>
  intro hn e he h;refine aH (fun L=>trivial) fun h' nx hh=>aB L.aMe fun hd=>?_;obtain⟨op,t,o,ks⟩:=e;rw[Ex.aAV];refine ZK ?_;have hz:=mE t;have k0:=kl0 ks;have k2:=HE ks;have hn0:decide ((0:Int)<((0:Nat):Int))=false:=rfl;have hn1:decide ((0:Int)<0)=false:=rfl;have C1:∀h,aK Tryz.prog 177 [.agg [.str t.x, .int .i64 t.w.k, .int .i64 t.w.n, .str t.w.s]] h (.bool (dV t)):=fun h=>tR t he.1.2 h;unfold cR
  (repeat' (first|(with_reducible first|refine stp ?_|refine cG ZM ?_|refine pI (fun _=>?_) (fun _=>?_))|((first|(with_reducible refine lV ?_;first|refine jX rfl ?_ ?_|refine aI (C1 _) rfl (aL _) ?_|refine Zx ?_)|(with_reducible refine lZ ?_;first|refine kB rfl ?_ ?_|refine ZX ?_)|refine Zy ?_)<;>try simp only[Ex.cs.eq_1,Ex.op.eq_1,Ex.t.eq_1,Ex.o.eq_1,Ex.kids.eq_1,hz,k0,k2,hn0,hn1,jK,go_sem,reduceIte,jA,jB,jC,jD,reduceCtorEq,jE,jF])|refine ZY ?_|omega))
  all_goals refine aC h' (leo hd) ⟨vb ?_,rfl⟩
  all_goals simp_all
 |succ n ih=>
  intro hn e he h;refine aH (fun L=>trivial) fun h' nx hh=>aB L.aMe fun hd=>?_;obtain⟨op,t,o,ks⟩:=e;rw[Ex.aAV];refine ZK ?_;have hz:=mE t;have k0:=kl0 ks;have hn0:decide ((0:Int)<((n+1:Nat):Int))=true:=dct;have hn1:decide ((0:Int)<(n:Int)+1)=true:=dct;have C1:∀h,aK Tryz.prog 177 [.agg [.str t.x, .int .i64 t.w.k, .int .i64 t.w.n, .str t.w.s]] h (.bool (dV t)):=fun h=>tR t he.1.2 h;have hw:IntKind.i64.wrap (((n+1:Nat):Int)-1)=(n:Int):=wrp;have hw':IntKind.i64.wrap ((n:Int)+1-1)=(n:Int):=wrp;by_cases hk:ks.length=2
  ·obtain⟨a,b,rfl⟩:∃a b,ks=[a,b]:=by
    match ks,hk with
    | [a,b],_=>exact⟨a,b,rfl⟩
   rw[ep];have C2:=fun h=>ih or a he.2.1 h;have C3:=fun h=>ih or b he.2.2.1 h;have ha:=Ex.aAA a;have hb:=Ex.aAA b;have hm: [a,b].map Ex.v=[a.v,b.v]:=rfl;have hl:(((0+1+1:Nat):Int)==0)=false:=rfl;have hl2:(((0+1+1:Nat):Int)==2)=true:=rfl;clear k0
   (repeat' (first|(with_reducible first|refine stp ?_|refine cG ZM ?_|refine pI (fun _=>?_) (fun _=>?_))|((first|(with_reducible refine lV ?_;first|refine jX rfl ?_ ?_|refine aI (C1 _) rfl (aL _) ?_|refine aI (C2 _) rfl (aL _) ?_|refine aI (C3 _) rfl (aL _) ?_|refine Zx ?_)|(with_reducible refine lZ ?_;first|refine kB rfl ?_ ?_|refine ZX ?_)|refine Zy ?_)<;>try simp only[Ex.cs.eq_1,Ex.op.eq_1,Ex.t.eq_1,Ex.o.eq_1,Ex.kids.eq_1,hz,hm,ha,hb,hl,hl2,hn0,hn1,hw,hw',go_sem,reduceIte,jA,jB,jC,jD,reduceCtorEq,jE,jF])|refine ZY ?_|omega))
   all_goals refine aC h' (leo hd) ⟨vb ?_,rfl⟩
   all_goals try simp_all
   all_goals try (intros;omega)
  rw[qJ _ _ _ _ _ hk];have k2':((ks.length:Int)==2)=false:=bqf
  (repeat' (first|(with_reducible first|refine stp ?_|refine cG ZM ?_|refine pI (fun _=>?_) (fun _=>?_))|((first|(with_reducible refine lV ?_;first|refine jX rfl ?_ ?_|refine aI (C1 _) rfl (aL _) ?_|refine Zx ?_)|(with_reducible refine lZ ?_;first|refine kB rfl ?_ ?_|refine ZX ?_)|refine Zy ?_)<;>try simp only[Ex.cs.eq_1,Ex.op.eq_1,Ex.t.eq_1,Ex.o.eq_1,Ex.kids.eq_1,hz,k0,k2',hn0,hn1,jK,go_sem,reduceIte,jA,jB,jC,jD,reduceCtorEq,jE,jF])|refine ZY ?_|omega))
  all_goals refine aC h' (leo hd) ⟨vb ?_,rfl⟩
  all_goals simp_all
theorem ed(e:Ex)(he:e.sm)(h:Hp):aK Tryz.prog 180 [e.v] h (.bool (jR e)):=by
 refine aH (fun L=>trivial) fun h' nx hh=>aB L.aZO fun hd=>?_;have hv:=Ex.aAV e;have C1:∀h,aK Tryz.prog 196 [.agg e.cs, .int .i64 20] h (.bool (cR 20 e)):=fun h=>hv▸zp 20 or e he h;rw[hv];refine ZK ?_;refine aue Ex.cs.eq_1 ?_;exact aC h' (leo hd) ⟨rfl,rfl⟩
theorem zI(a:Am)(ha:a.sm)(h:Hp):aK Tryz.prog 140 [a.v] h (.bool (fO a)):=by
 refine aH (fun L=>trivial) fun h' nx hh=>aB L.bAH fun hd=>?_;obtain⟨r,o,l⟩:=a;refine ZK ?_;have C1:=fun h=>tw r h;refine aue Am.v.eq_1 ?_;refine aO (fun i:Nat=>aD 25 0 [(1, .ptr nx (.agg 2) 0 0),(2, .bool false),(3, .int .i64 i)]) (fun i hp nx1=>i≤l.length∧i≤6∧hp=h'.set nx (.arr (.agg 2) [.agg [.str r,trs o l]])∧nx<nx1∧∀t∈l.take i,dV t=true) (fun i=>l.length-i) 0 ⟨Ke _,or,rfl,Zw,Zm⟩ (by simp only[WkL,aD,jH,jI,jJ,go_sem,reduceIte,jA,jB,jC,jD,reduceCtorEq,jE,jF]) ?_;rintro i hp nx1 ⟨hi,hi6,rfl,aBO,hno⟩;generalize hQ:aV _ _ _ _ _=Q0;refine Zk ?_;rcases Ka i l.length with hlt|hge
 ·have hc:decide ((i:Int)<(l.length:Int))=true:=dct;have hg:=aJ Tr.v l i hlt;have hw:IntKind.i64.wrap ((i:Int)+1)=((i+1:Nat):Int):=wrp;have hin:l[i]∈l:=Kq _;by_cases h5:5<i
  ·have g1:decide ((5:Int)<(i:Int))=true:=dct;refine aue (e4 hc g1 hlt (@jK Tr V)) ?_;rw[←hQ];refine au ?_;refine aC h' (leo hd) ⟨vb ?_,rfl⟩;have:¬l.length≤6:=or;simp[fO,this]
  have g1:decide ((5:Int)<(i:Int))=false:=dcf;have C2:=fun h=>tR l[i] (ha.2 _ hin).2 h;cases k:dV l[i] with
  |true=>
   rw[k] at C2;refine aue (e8 hc g1 hlt hg hw (@jK Tr V) jG Tr.aAA) ?_;rw[←hQ];refine aF (i+1) or ⟨or,or,rfl,or,fun t ht=>?_⟩ (by simp only[WkL,aD,jH,jI,jJ,go_sem,reduceIte,jA,jB,jC,jD,reduceCtorEq,jE,jF]);rw[Kd hlt,Kw,Ko] at ht;rcases ht with ht|rfl
   ·exact hno t ht
   exact k
  |false=>
   rw[k] at C2;refine aue (e8 hc g1 hlt hg hw (@jK Tr V) jG Tr.aAA) ?_;rw[←hQ];refine au ?_;refine aC h' (leo hd) ⟨vb ?_,rfl⟩;have:l.all dV=false:=KD.2 ⟨_,hin,by simp[k]⟩;simp[fO,this]
 have hc:decide ((i:Int)<(l.length:Int))=false:=dcf;refine aue (e2 hc (@jK Tr V)) ?_;rw[←hQ];refine au ?_;have hil:i=l.length:=or;rw[hil,Ks] at hno;refine aC h' (leo hd) ⟨vb ?_,rfl⟩;have h1:l.all dV=true:=KF.2 hno;have h2:l.length≤6:=or;simp[fO,h1,h2]
theorem zi(l:Li)(hl:l.sm)(h:Hp):aK Tryz.prog 141 [l.v] h (.bool (bG l)):=by
 refine aH (fun L=>trivial) fun h' nx hh=>aB L.bAG fun hd=>?_;rw[Li.aAV];refine ZK ?_;have C1:∀h:Hp,aK Tryz.prog 140 [.agg [.str l.a.r, .sl (.agg 4) l.a.o (l.a.l.map Tr.v)]] h (.bool (fO l.a)):=fun h=>zI l.a hl.1 h;have N1:∀h:Hp,aK Tryz.prog 179 [.agg [.int .i64 l.x.op, .str l.x.t.x, .int .i64 l.x.t.w.k, .int .i64 l.x.t.w.n, .str l.x.t.w.s, .sl (.agg 6) l.x.o (l.x.kids.map Ex.v)]] h (.bool (kJ l.x)):=fun h=>Ex.aAV l.x▸dx l.x h;have N2:∀h:Hp,aK Tryz.prog 179 [.agg [.int .i64 l.y.op, .str l.y.t.x, .int .i64 l.y.t.w.k, .int .i64 l.y.t.w.n, .str l.y.t.w.s, .sl (.agg 6) l.y.o (l.y.kids.map Ex.v)]] h (.bool (kJ l.y)):=fun h=>Ex.aAV l.y▸dx l.y h;have X1:∀h:Hp,aK Tryz.prog 180 [.agg [.int .i64 l.x.op, .str l.x.t.x, .int .i64 l.x.t.w.k, .int .i64 l.x.t.w.n, .str l.x.t.w.s, .sl (.agg 6) l.x.o (l.x.kids.map Ex.v)]] h (.bool (jR l.x)):=fun h=>Ex.aAV l.x▸ed l.x hl.2.1 h;have X2:∀h:Hp,aK Tryz.prog 180 [.agg [.int .i64 l.y.op, .str l.y.t.x, .int .i64 l.y.t.w.k, .int .i64 l.y.t.w.n, .str l.y.t.w.s, .sl (.agg 6) l.y.o (l.y.kids.map Ex.v)]] h (.bool (jR l.y)):=fun h=>Ex.aAV l.y▸ed l.y hl.2.2 h;have s0:((l.a.r.size:Int)==0)=decide (l.a.r.size=0):=by rw[Kf];simp
 have k0:=kn0 l.a.l;unfold bG
 (repeat' (first|(with_reducible first|refine stp ?_|refine cG ZM ?_|refine pI (fun _=>?_) (fun _=>?_))|((first|(with_reducible refine lV ?_;first|refine jX rfl ?_ ?_|refine aI (C1 _) rfl (aL _) ?_|refine aI (N1 _) rfl (aL _) ?_|refine aI (N2 _) rfl (aL _) ?_|refine aI (X1 _) rfl (aL _) ?_|refine aI (X2 _) rfl (aL _) ?_|refine Zx ?_)|(with_reducible refine lZ ?_;first|refine kB rfl ?_ ?_|refine ZX ?_)|refine Zy ?_)<;>try simp only[s0,k0,jK,go_sem,reduceIte,jA,jB,jC,jD,reduceCtorEq,jE,jF])|refine ZY ?_|omega))
 all_goals refine aC h' (leo hd) ⟨vb ?_,rfl⟩
 all_goals simp_all
 all_goals try omega
theorem pz(r:Ru)(hr:r.sm)(hy:(fO r.h&&jp r&&decide (r.b.length≤8))=true)(h':Hp)(nx:Nat)(hd:aS h' nx)(sl:List V)(hw:WkL sl (aD 77 0 [(1, .ptr nx (.agg 6) 0 0),(2, .bool false),(3, .int .i64 0)])):
 lwp Tryz.prog (.loop L.aEx) (eK 0 (kH (lwp Tryz.prog ((aR.ops L.aDO).seq aR.ret)) (pR [.slot 2] fun v' h'' x=>v'= .bool (bT r)∧h''=h'))) ⟨sl,h'.set nx (.arr (.agg 6) [.agg [.str r.h.r, .sl (.agg 4) r.h.o (r.h.l.map Tr.v), .int .i64 r.g, .int .i64 r.c, .sl (.agg 17) r.o (r.b.map Li.v), .int .i64 r.at_]]),nx+1⟩:=by
 have h8:r.b.length≤8:=by simp only[Bool.and_eq_true,decide_eq_true_eq] at hy;exact hy.2
 have hrr:bT r=r.b.all bG:=by unfold bT;rw[hy];rfl
 rw[hrr];refine aO (fun i:Nat=>aD 77 0 [(1, .ptr nx (.agg 6) 0 0),(2, .bool false),(3, .int .i64 i)]) (fun i hp nx1=>i≤r.b.length∧hp=h'.set nx (.arr (.agg 6) [.agg [.str r.h.r, .sl (.agg 4) r.h.o (r.h.l.map Tr.v), .int .i64 r.g, .int .i64 r.c, .sl (.agg 17) r.o (r.b.map Li.v), .int .i64 r.at_]])∧nx<nx1∧∀t∈r.b.take i,bG t=true) (fun i=>r.b.length-i) 0 ⟨Ke _,rfl,Zw,Zm⟩ hw ?_;rintro i hp nx1 ⟨hi,rfl,aBO,hno⟩;generalize hQ:aV _ _ _ _ _=Q0;refine Zk ?_;rcases Ka i r.b.length with hlt|hge
 ·have hc:decide ((i:Int)<(r.b.length:Int))=true:=dct;have hg:=aJ Li.v r.b i hlt;have hw:IntKind.i64.wrap ((i:Int)+1)=((i+1:Nat):Int):=wrp;have hin:r.b[i]∈r.b:=Kq _;have C1:=fun h=>zi r.b[i] (hr.2 _ hin) h;have hfl:=Li.aAA r.b[i];cases k:bG r.b[i] with
  |true=>
   rw[k] at C1;refine aue (e7 hc hlt hg hw (@jK Li V) jG hfl) ?_;rw[←hQ];refine aF (i+1) or ⟨or,rfl,or,fun t ht=>?_⟩ (by simp only[WkL,aD,jH,jI,jJ,go_sem,reduceIte,jA,jB,jC,jD,reduceCtorEq,jE,jF]);rw[Kd hlt,Kw,Ko] at ht;rcases ht with ht|rfl
   ·exact hno t ht
   exact k
  |false=>
   rw[k] at C1;refine aue (e7 hc hlt hg hw (@jK Li V) jG hfl) ?_;rw[←hQ];refine au ?_;refine aC h' (leo hd) ⟨?_,rfl⟩;have:r.b.all bG=false:=KD.2 ⟨_,hin,by simp[k]⟩;rw[this];rfl
 have hc:decide ((i:Int)<(r.b.length:Int))=false:=dcf;refine aue (e2 hc (@jK Li V)) ?_;rw[←hQ];refine au ?_;have hil:i=r.b.length:=or;rw[hil,Ks] at hno;refine aC h' (leo hd) ⟨?_,rfl⟩;have h1:r.b.all bG=true:=KF.2 hno;rw[h1];rfl
theorem tt(r:Ru)(hr:r.sm)(h:Hp):aK Tryz.prog 90 [r.v] h (.bool (bT r)):=by
 refine aH (fun L=>trivial) fun h' nx hh=>aB L.bC1 fun hd=>?_;obtain⟨⟨hr',ho,hl⟩,g,c,o,b,at_⟩:=r;refine ZK ?_;have C1:∀h:Hp,aK Tryz.prog 140 [.agg [.str hr', .sl (.agg 4) ho (hl.map Tr.v)]] h (.bool (fO ⟨hr',ho,hl⟩)):=fun h=>zI ⟨hr',ho,hl⟩ hr.1 h;by_cases hc:0≤c∧c<hl.length
 ·obtain⟨n,rfl⟩:∃n:Nat,c=n:=⟨c.toNat,or⟩;have hn:n<hl.length:=or;have g1:decide ((n:Int)<0)=false:=dcf;have g2:decide ((hl.length:Int)≤(n:Int))=false:=dcf;have g3:decide ((n:Int)≥(hl.length:Int))=false:=dcf;have hg:=aJ Tr.v hl n hn;have hD:hl.getD n ry=hl[n]:=by rw[List.getD_eq_getElem?_getD,List.getElem?_eq_getElem hn];rfl
  have s0:((hl[n].x.size:Int)==0)=decide (hl[n].x.size=0):=by rw[Kf];simp
  (repeat' (first|(with_reducible first|refine stp ?_|refine cG ZM ?_|refine pI (fun _=>?_) (fun _=>?_))|((first|(with_reducible refine lV ?_;first|refine jX rfl ?_ ?_|refine aI (C1 _) rfl (aL _) ?_|refine Zx ?_)|(with_reducible refine lZ ?_;first|refine kB rfl ?_ ?_|refine ZX ?_)|refine Zy ?_)<;>try simp only[Ru.v.eq_1,g1,g2,g3,hg,hn,s0,Tr.v.eq_1,jK,jG,go_sem,reduceIte,jA,jB,jC,jD,reduceCtorEq,jE,jF])|refine ZY ?_|omega))
  all_goals first
   |exact pz ⟨⟨hr',ho,hl⟩,g,n,o,b,at_⟩ hr (by simp_all [jp];try omega) h' nx hd _ (by simp only[WkL,aD,jH,jI,jJ,go_sem,reduceIte,jA,jB,jC,jD,reduceCtorEq,jE,jF])
   |(refine aC h' (leo hd) ⟨vb ?_,rfl⟩
     simp_all [bT,jp]
     try omega
     try (intro q;exfalso;split at q<;>omega))
 rcases(by omega:c<0∨(0≤c∧(hl.length:Int)≤c)) with hc|⟨hc0,hc⟩
 ·have g1:decide (c<0)=true:=dct
  (repeat' (first|(with_reducible first|refine stp ?_|refine cG ZM ?_|refine pI (fun _=>?_) (fun _=>?_))|((first|(with_reducible refine lV ?_;first|refine jX rfl ?_ ?_|refine aI (C1 _) rfl (aL _) ?_|refine Zx ?_)|(with_reducible refine lZ ?_;first|refine kB rfl ?_ ?_|refine ZX ?_)|refine Zy ?_)<;>try simp only[Ru.v.eq_1,g1,jK,go_sem,reduceIte,jA,jB,jC,jD,reduceCtorEq,jE,jF])|refine ZY ?_|omega))
  all_goals first
   |exact pz ⟨⟨hr',ho,hl⟩,g,c,o,b,at_⟩ hr (by simp_all [jp];try omega) h' nx hd _ (by simp only[WkL,aD,jH,jI,jJ,go_sem,reduceIte,jA,jB,jC,jD,reduceCtorEq,jE,jF])
   |(refine aC h' (leo hd) ⟨vb ?_,rfl⟩
     simp_all [bT,jp]
     try omega
     try (intro q;exfalso;split at q<;>omega))
 have g1:decide (c<0)=false:=dcf;have g2:decide ((hl.length:Int)≤c)=true:=dct;have g3:decide (c≥(hl.length:Int))=true:=dct
 (repeat' (first|(with_reducible first|refine stp ?_|refine cG ZM ?_|refine pI (fun _=>?_) (fun _=>?_))|((first|(with_reducible refine lV ?_;first|refine jX rfl ?_ ?_|refine aI (C1 _) rfl (aL _) ?_|refine Zx ?_)|(with_reducible refine lZ ?_;first|refine kB rfl ?_ ?_|refine ZX ?_)|refine Zy ?_)<;>try simp only[Ru.v.eq_1,g1,g2,g3,jK,go_sem,reduceIte,jA,jB,jC,jD,reduceCtorEq,jE,jF])|refine ZY ?_|omega))
 all_goals first
  |exact pz ⟨⟨hr',ho,hl⟩,g,c,o,b,at_⟩ hr (by simp_all [jp];try omega) h' nx hd _ (by simp only[WkL,aD,jH,jI,jJ,go_sem,reduceIte,jA,jB,jC,jD,reduceCtorEq,jE,jF])
  |(refine aC h' (leo hd) ⟨vb ?_,rfl⟩
    simp_all [bT,jp]
    try omega
    try (intro q;exfalso;split at q<;>omega))
end Go.Proofs.YtgbiopfghdilnaaGreatDoor
namespace Go.Proofs.YtgbiopfghdilnaaGreatDoor
open Go.RowKit Go.Sort
theorem rX:∀(n:Nat) (e:Ex),cR n e.cp=cR n e
 |0, .mk op t o ks=>by
  have:(Ex.cps ks=[])=(ks=[]):=by rw[Ex.aA8];simp
  show decide (op=0∧Ex.cps ks=[]∧_)=decide (op=0∧ks=[]∧_);simp only[this]
 |n+1, .mk op t o ks=>by
  match ks with
  | []=>rfl
  | [a]=>rfl
  | [a,b]=>
   show cR (n+1) (.mk op t _ [a.cp,b.cp])=_;rw[ep,ep,rX n a,rX n b]
  |a::b::c::r=>
   rw[qJ _ _ _ _ _ Zm];show cR (n+1) (.mk op t _ (a.cp::b.cp::c.cp::Ex.cps r))=_;rw[qJ _ _ _ _ _ Zm];simp
theorem rx(e:Ex):kJ e.cp=kJ e:=by
 obtain⟨op,t,o,ks⟩:=e;have:(Ex.cps ks=[])=(ks=[]):=by rw[Ex.aA8];simp
 show(decide (op=0∧Ex.cps ks=[])&&nJ t)=(decide (op=0∧ks=[])&&nJ t);simp only[this]
theorem ml(l:Li):bG l.cp=bG l:=by
 have h1:jR l.cp.x=jR l.x:=rX 20 l.x;have h2:jR l.cp.y=jR l.y:=rX 20 l.y;have h3:kJ l.cp.x=kJ l.x:=rx l.x;have h4:kJ l.cp.y=kJ l.y:=rx l.y;unfold bG;rw[h1,h2,h3,h4];rfl
theorem B8(r:Ru):bT r.cp=bT r:=by
 unfold bT;have h1:r.cp.b.all bG=r.b.all bG:=by
  show(r.b.map Li.cp).all bG=_;rw[List.all_map];congr 1;funext l;exact ml l
 have h2:r.cp.b.length=r.b.length:=List.length_map ..;rw[h1,h2];rfl
theorem Ex.aCe:∀(n:Nat) (e:Ex),SizeOf.sizeOf e≤n→e.sm→e.cp.sm
 |0, .mk op t o ks,h,_=>by simp at h
 |n+1, .mk op t o ks,h,hs=>by
  have hk:∀e∈ks,SizeOf.sizeOf e≤n:=fun e he=>by
   have:=Kz he;simp only[Ex.mk.sizeOf_spec] at h;omega
  refine⟨hs.1,?_⟩;have h2:=hs.2;clear hs h;show Ex.sms (Ex.cps ks);induction ks with
  |nil=>trivial
  |cons a r ih=>exact⟨Ex.aCe n a (hk a Kp) h2.1,ih (fun e he=>hk e (Km _ he)) h2.2⟩
theorem Ru.aCe{r:Ru}(h:r.sm):r.cp.sm:=by
 refine⟨h.1,fun l hl=>?_⟩;obtain⟨m,hm,rfl⟩:=List.mem_map.1 hl;obtain⟨q1,q2,q3⟩:=h.2 m hm;exact⟨q1,Ex.aCe _ m.x (Kc _) q2,Ex.aCe _ m.y (Kc _) q3⟩
theorem Tr.aBD{t:Tr}(h:t.s47):t.sm:=by
 obtain⟨h1,h2⟩:=h;unfold kE at h1 h2;exact⟨or,or⟩
theorem Ex.aBD:∀(n:Nat) (e:Ex),SizeOf.sizeOf e≤n→e.s47→e.sm
 |0, .mk op t o ks,h,_=>by simp at h
 |n+1, .mk op t o ks,h,hs=>by
  have hk:∀e∈ks,SizeOf.sizeOf e≤n:=fun e he=>by
   have:=Kz he;simp only[Ex.mk.sizeOf_spec] at h;omega
  refine⟨Tr.aBD hs.1,?_⟩;have h2:=hs.2;clear hs h;induction ks with
  |nil=>trivial
  |cons a r ih=>exact⟨Ex.aBD n a (hk a Kp) h2.1,ih (fun e he=>hk e (Km _ he)) h2.2⟩
theorem Am.aBD{a:Am}(h:a.s47):a.sm:=by
 have:=h.1;unfold kE at this;exact⟨or,fun t ht=>Tr.aBD (h.2 t ht)⟩
theorem Ru.aBD{r:Ru}(h:r.s47):r.sm:=⟨Am.aBD h.1,fun l hl=>⟨Am.aBD (h.2 l hl).1,Ex.aBD _ _ (Kc _) (h.2 l hl).2.1,Ex.aBD _ _ (Kc _) (h.2 l hl).2.2⟩⟩
end Go.Proofs.YtgbiopfghdilnaaGreatDoor
