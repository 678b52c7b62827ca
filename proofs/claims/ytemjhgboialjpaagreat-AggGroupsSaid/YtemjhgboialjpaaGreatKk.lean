/-
Texts of this proof,one behind the other. No conditions.
-/
import Derived.Test.YtemjhgboialjpaaGreatKd
import Derived.Test.YtemjhgboialjpaaGreatKj
import Derived.Test.YtemjhgboialjpaaGreatKf
import Derived.Test.YtemjhgboialjpaaGreatKi
open Nat renaming reduceAdd→jA,reduceSub→jB,reduceLT→jC,reduceLeDiff→jD,reduceEqDiff→jE
open Int renaming reduceToNat→jF,toNat_natCast→jG,natCast_add→jH,natCast_one→jI,natCast_zero→jJ
open List renaming length_map→jK,length_cons→jL,length_nil→jM,replicate_succ→jN,replicate_zero→jO,cons_append→jP,nil_append→jQ
set_option linter.unusedSimpArgs false
set_option linter.unusedVariables false
set_option linter.unusedSectionVars false
namespace Go.Proofs.YtemjhgboialjpaaGreat
open Go.RowKit Go.Sort
attribute [local irreducible] IntKind.wrap
theorem vb{a b:Bool}(h:a=true↔b=true):V.bool a=V.bool b:=by rw[Bool.eq_iff_iff.2 h]
theorem aCs:aH Tryz.prog 164=some (LB.CmpInt 202):=by kernel_rfl
theorem aCp:aH Tryz.prog 202=some LB.NaNInt:=by kernel_rfl
theorem tP(s:ByteArray)(h:Hp):bH Tryz.prog 204 [.str s] h (.bool false):=by
 refine aT (fun L=>trivial) fun h' nx hh=>aF L.cmp_isNaN_string_low fun hd=>?_
 simp only[jL,jM,jA,jB,jN,jO,jP,jQ,V.undef]
 refine au ?_
 refine aD h' (leo hd) ⟨?_,rfl⟩
 simp
theorem aAp(a b:UInt8):rZ a b=-1∨rZ a b=0∨rZ a b=1:=by
 unfold rZ lU
 split
 ·simp
 split<;>simp
theorem pQ:∀x y:List UInt8,cN rZ x y=-1∨cN rZ x y=0∨cN rZ x y=1
 | [],[]=>by simp[cN]
 | [],_::_=>by simp[cN]
 |_::_,[]=>by simp[cN]
 |a::x,b::y=>by
  unfold cN orC
  split
  ·exact pQ x y
  exact aAp a b
theorem aDt(a b:ByteArray):aAq a b=if Op.bytesLess a.toList b.toList=true then-1 else if (!(Op.bytesLess a.toList b.toList||a.toList==b.toList))=true then 1 else 0:=by
 rw[oD,sD]
 have h1:=pQ a.toList b.toList
 have h2:=c3S.eq a b
 unfold aAq at h2⊢
 by_cases e:a=b
 ·subst e
  have:=h2.2 rfl
  rw[this];simp
 have h3:cN rZ a.toList b.toList≠0:=fun k=>e (h2.1 k)
 rcases h1 with h1|h1|h1
 ·rw[h1];simp
 ·exact absurd h1 h3
 rw[h1];simp[e]
theorem aBL(a b:ByteArray)(h:Hp):bH Tryz.prog 166 [.str a, .str b] h (.int .i64 (aAq a b)):=by
 refine aT (fun L=>trivial) fun h' nx hh=>aF L.cmp_Compare_string_low fun hd=>?_
 simp only[jL,jM,jA,jB,jN,jO,jP,jQ,V.undef]
 have C1:=fun h=>tP a h
 have C2:=fun h=>tP b h
 rw[aDt]
 cases h1:Op.bytesLess a.toList b.toList with
 |true=>
  refine aue h1 ?_
  exact aD h' (leo hd) ⟨rfl,rfl⟩
 |false=>
  cases h2:a.toList==b.toList with
  |true=>
   refine aue (e4 h1 h2 Bool.or_true Bool.or_false) ?_
   exact aD h' (leo hd) ⟨rfl,rfl⟩
  |false=>
   refine aue (e4 h1 h2 Bool.or_true Bool.or_false) ?_
   exact aD h' (leo hd) ⟨rfl,rfl⟩
theorem aDs(a b:Vl):orI [lU a.k b.k,lU a.n b.n,aAq a.s b.s]=cQ a b:=by
 simp only[orI,cQ,orC]
 repeat' split
 all_goals first|rfl|omega
theorem oP(a b:Vl)(h:Hp):bH Tryz.prog 109 [a.v,b.v] h (.int .i64 (cQ a b)):=by
 refine aT (fun L=>trivial) fun h' nx hh=>aF L.value_Compare_low fun hd=>?_
 simp only[jL,jM,jA,jB,jN,jO,jP,jQ,V.undef]
 have D1:=fun h=>sB aCs aCp a.k b.k h
 have D2:=fun h=>sB zP aDj a.n b.n h
 have D3:=fun h=>aBL a.s b.s h
 have D4:=fun h=>aBj aBo (.tok (nx+17)) [lU a.k b.k,lU a.n b.n,aAq a.s b.s] (by simp) h
 rw[aDs] at D4
 refine aue Vl.v.eq_1 ?_
 exact aD h' (leo hd) ⟨rfl,rfl⟩
theorem oF(n:Int)(h:Hp):bH Tryz.prog 167 [.int .i64 n] h (.bool (fH n)):=by
 refine aT (fun L=>trivial) fun h' nx hh=>aF L.value_bounded_low fun hd=>?_
 simp only[jL,jM,jA,jB,jN,jO,jP,jQ,V.undef]
 unfold fH
 by_cases h1:-2147483647≤n
 ·have h2:decide (-2147483647≤n)=true:=dct
  refine aue h2 ?_
  refine aD h' (leo hd) ⟨?_,rfl⟩
  simp[h1]
 have h2:decide (-2147483647≤n)=false:=dcf
 refine aue h2 ?_
 refine aD h' (leo hd) ⟨?_,rfl⟩
 simp[h1]
theorem xQ(c:Nat)(h:Hp):bH Tryz.prog 206 [.int .u8 c] h (.bool (gE c)):=by
 refine aT (fun L=>trivial) fun h' nx hh=>aF L.value_letter_low fun hd=>?_
 simp only[jL,jM,jA,jB,jN,jO,jP,jQ,V.undef]
 unfold gE
 by_cases h1:(97:Int)≤c
 ·have h2:decide ((97:Int)≤c)=true:=dct
  refine aue h2 ?_
  refine aD h' (leo hd) ⟨?_,rfl⟩
  have:97≤c:=by omega
  simp[this];omega
 have h2:decide ((97:Int)≤c)=false:=dcf
 refine aue h2 ?_
 refine aD h' (leo hd) ⟨?_,rfl⟩
 simp;omega
theorem zN(c:Nat)(h:Hp):bH Tryz.prog 205 [.int .i32 c] h (.bool (fW c)):=by
 refine aT (fun L=>trivial) fun h' nx hh=>aF L.value_Name_1_low fun hd=>?_
 simp only[jL,jM,jA,jB,jN,jO,jP,jQ,V.undef]
 unfold fW gL
 cases h1:decide ((97:Int)≤c)<;>cases h2:decide ((c:Int)≤122)<;>cases h3:decide ((48:Int)≤c)<;>cases h4:decide ((c:Int)≤57)<;>
  (refine aue (e4 h1 h2 h3 h4) ?_
   refine aD h' (leo hd) ⟨?_,rfl⟩
   simp only[decide_eq_true_eq,decide_eq_false_iff_not] at h1 h2 h3 h4
   refine vb ?_
   simp
   try omega)
theorem aBl(s:ByteArray)(h:Hp):bH Tryz.prog 168 [.str s] h (.bool (gH s)):=by
 refine aT (fun L=>trivial) fun h' nx hh=>aF L.value_Name_low fun hd=>?_
 simp only[jL,jM,jA,jB,jN,jO,jP,jQ,V.undef]
 have C1:=fun h=>xQ (byt s 0) h
 have C2:=fun h=>pB fW 205 [] (fun x _=>zN x Hp.none) s h
 have hb:(s.data.toList.getD 0 0).toNat=byt s 0:=rfl
 have hnil:(s.toList==(⟨#[]⟩:ByteArray).toList)=decide (s.size=0):=by
  rw[oD]
  congr 1
  rw[eq_iff_iff]
  exact⟨fun e=>by rw[e];rfl,fun e=>by cases s with|mk d=>simp only[ByteArray.size] at e;rw[Array.eq_empty_of_size_eq_zero e]⟩
 rw[wV] at C2
 by_cases h0:s.size=0
 ·have g0:decide (s.size=0)=true:=dct
  have:gH s=false:=by unfold gH;exact decide_eq_false (by omega)
  refine aue (e2 hnil g0) ?_
  exact aD h' (leo hd) ⟨by rw[this]<;>rfl,rfl⟩
 have g0:decide (s.size=0)=false:=dcf
 by_cases h1:32<s.size
 ·have g1:decide ((s.size:Int)≤32)=false:=dcf
  have:gH s=false:=by unfold gH;exact decide_eq_false (by omega)
  refine aue (e3 hnil g0 g1) ?_
  exact aD h' (leo hd) ⟨by rw[this]<;>rfl,rfl⟩
 have g1:decide ((s.size:Int)≤32)=true:=dct
 have hpos:0<s.size:=by omega
 cases h2:gE (byt s 0) with
 |false=>
  rw[h2] at C1
  have:gH s=false:=by unfold gH;exact decide_eq_false (by simp[h2])
  refine aue (e5 hnil g0 g1 hb hpos) ?_
  exact aD h' (leo hd) ⟨by rw[this]<;>rfl,rfl⟩
 |true=>
  rw[h2] at C1
  have:gH s=decide (∀i,i<s.size→gL (byt s i)=true):=by
   unfold gH
   congr 1
   rw[eq_iff_iff]
   exact⟨fun k=>k.2.2.2,fun k=>⟨by omega,by omega,h2,k⟩⟩
  refine aue (e5 hnil g0 g1 hb hpos) ?_
  refine aD h' (leo hd) ⟨?_,rfl⟩
  rw[this];simp
theorem wS(x:Vl)(h:Hp):bH Tryz.prog 113 [x.v] h (.bool (cY x)):=by
 refine aT (fun L=>trivial) fun h' nx hh=>aF L.value_Right_low fun hd=>?_
 simp only[jL,jM,jA,jB,jN,jO,jP,jQ,V.undef]
 have C1:=fun h=>oF x.n h
 have C2:=fun h=>aBl x.s h
 have hnil:(x.s.toList==(⟨#[]⟩:ByteArray).toList)=decide (x.s.size=0):=by
  rw[oD]
  congr 1
  rw[eq_iff_iff]
  exact⟨fun e=>by rw[e];rfl,fun e=>by cases hs:x.s with|mk d=>rw[hs] at e;simp only[ByteArray.size] at e;rw[Array.eq_empty_of_size_eq_zero e]⟩
 unfold cY
 by_cases k1:x.k=1
 ·have g1:(x.k==1)=true:=bqt
  by_cases k2:x.s.size=0
  ·have g2:decide (x.s.size=0)=true:=dct
   refine aue (e4 Vl.v.eq_1 g1 hnil g2) ?_
   refine aD h' (leo hd) ⟨?_,rfl⟩
   simp[k1,k2]
  have g2:decide (x.s.size=0)=false:=dcf
  refine aue (e4 Vl.v.eq_1 g1 hnil g2) ?_
  refine aD h' (leo hd) ⟨?_,rfl⟩
  simp[k1,k2]
 have g1:(x.k==1)=false:=bqf
 by_cases k3:x.k=2
 ·have g3:(x.k==2)=true:=bqt
  by_cases k2:x.n=0
  ·have g2:(x.n==0)=true:=bqt
   refine aue (e4 Vl.v.eq_1 g1 g3 g2) ?_
   refine aD h' (leo hd) ⟨?_,rfl⟩
   simp[k3,k2]
  have g2:(x.n==0)=false:=bqf
  refine aue (e4 Vl.v.eq_1 g1 g3 g2) ?_
  refine aD h' (leo hd) ⟨?_,rfl⟩
  simp[k3,k2]
 have g3:(x.k==2)=false:=bqf
 refine aue (e3 Vl.v.eq_1 g1 g3) ?_
 refine aD h' (leo hd) ⟨?_,rfl⟩
 simp[k1,k3]
theorem wT(n:Int)(h:Hp):bH Tryz.prog 117 [.int .i64 n] h (.tup [(ofV n).1.v,pU (ofV n).2]):=by
 refine aT (fun L=>⟨Vl.names_v L _,by unfold pU;split<;>simp[V.names],trivial⟩) fun h' nx hh=>aF L.value_Of_low fun hd=>?_
 simp only[jL,jM,jA,jB,jN,jO,jP,jQ,V.undef]
 have C1:=fun h=>oF n h
 unfold ofV
 cases hb:fH n with
 |true=>
  rw[hb] at C1
  refine au ?_
  refine aQ (by simp only[go_sem,reduceIte,jA,jB,jC,jD,reduceCtorEq,jE,jF]) h' (leo hd) ⟨?_,rfl⟩
  simp only[go_sem,reduceIte,jA,jB,jC,jD,reduceCtorEq,jE,jF]
  rfl
 |false=>
  rw[hb] at C1
  refine au ?_
  refine aQ (by simp only[go_sem,reduceIte,jA,jB,jC,jD,reduceCtorEq,jE,jF]) h' (leo hd) ⟨?_,rfl⟩
  simp only[go_sem,reduceIte,jA,jB,jC,jD,reduceCtorEq,jE,jF]
  rfl
set_option maxHeartbeats 4000000 in
theorem zI(s:ByteArray)(hl:s.size≤9223372036854775807)(h:Hp):bH Tryz.prog 176 [.str s] h (.bool (gH s)):=by
 refine aT (fun L=>trivial) fun h' nx hh=>aF L.corollaryref01_Name_low fun hd=>?_
 simp only[jL,jM,jA,jB,jN,jO,jP,jQ,V.undef]
 refine au ?_
 refine aY (fun i:Nat=>aC 48 0 [(0, .str s),(3, .int .i64 i)])
  (fun i hp nx1=>i≤s.size∧hp=h'∧(∀j,j<i→gL (byt s j)=true)∧(0<i→gE (byt s 0)=true))
  (fun i=>s.size-i) 0 ⟨Nat.zero_le _,rfl,fun j hj=>absurd hj (by omega),fun h=>absurd h (by omega)⟩ (by simp only[WkL,aC,jH,jI,jJ,go_sem,reduceIte,jA,jB,jC,jD,reduceCtorEq,jE,jF]) ?_
 rintro i hp nx1 ⟨hi,rfl,hgood,hsmall⟩
 generalize hQ:bU _ _ _ _ _=Q0
 simp only[aC,go_sem,reduceIte,jA,jB,jC,jD,reduceCtorEq,jE,jF]
 rcases Nat.lt_or_ge i s.size with hlt|hge
 ·have hc:decide ((i:Int)<(s.size:Int))=true:=dct
  have hw:IntKind.i64.wrap ((i:Int)+1)=((i+1:Nat):Int):=wrp
  have hb:(s.data.toList.getD i 0).toNat=byt s i:=rfl
  have hi0:((i:Int)==0)=decide (i=0):=by by_cases e:i=0<;>simp[e]
  obtain⟨c,hcq⟩:∃c,byt s i=c:=⟨_,rfl⟩
  have bad:((gE c=false∧(i=0∨gL c=false)))→gH s=false:=fun k=>by
   unfold gH
   refine decide_eq_false fun n=>?_
   rcases k with⟨k1,rfl|k2⟩
   ·rw[hcq] at n;rw[n.2.2.1] at k1;cases k1
   have:=n.2.2.2 i hlt;rw[hcq,k2] at this;cases this
  have good:(gE c=true∨(i≠0∧gL c=true))→(∀j,j<i+1→gL (byt s j)=true)∧(0<i+1→gE (byt s 0)=true):=fun k=>by
   refine⟨fun j hj=>?_,fun _=>?_⟩
   ·rcases Nat.lt_or_ge j i with h|h
    ·exact hgood j h
    have:j=i:=by omega
    subst this
    rw[hcq]
    rcases k with k|k
    ·simp only[gE,gL,decide_eq_true_eq] at k⊢;exact .inl k
    exact k.2
   rcases Nat.eq_zero_or_pos i with h|h
   ·subst h
    rw[hcq]
    exact k.elim id fun k=>absurd rfl k.1
   exact hsmall h
  cases h0:decide (i=0)<;>cases h1:decide ((97:Int)≤c)<;>cases h2:decide ((c:Int)≤122)<;>cases h3:decide ((48:Int)≤c)<;>cases h4:decide ((c:Int)≤57)<;>cases h5:((c:Int) != 95)<;>
   (have g:=e6 h0 h1 h2 h3 h4 h5
    simp only[decide_eq_true_eq,decide_eq_false_iff_not,bne_iff_ne,bne_eq_false_iff_eq,ne_eq] at g
    try (exfalso;omega))
  all_goals refine aue (e11 hc hw hb hi0 hcq h0 h1 h2 h3 h4 (e2 h5 hlt)) ?_
  all_goals
   rw[←hQ]
   first
    |refine aM (i+1) (by omega) ⟨by omega,rfl,good (by simp only[gE,gL,decide_eq_true_eq];omega)⟩ (by simp only[WkL,aC,jH,jI,jJ,go_sem,reduceIte,jA,jB,jC,jD,reduceCtorEq,jE,jF])
    |(refine au ?_
      exact aD hp (leo hd) ⟨by rw[bad (by simp only[gE,gL,decide_eq_false_iff_not];omega)]<;>rfl,rfl⟩)
 have hc:decide ((i:Int)<(s.size:Int))=false:=dcf
 have hi:i=s.size:=by omega
 subst hi
 refine aue hc ?_
 rw[←hQ]
 have hn:gH s=(decide ((s.size:Int)≥1)&&decide ((s.size:Int)≤32)):=by
  rw[Bool.eq_iff_iff]
  simp only[gH,Bool.and_eq_true,decide_eq_true_eq]
  exact⟨fun k=>⟨by omega,by omega⟩,fun k=>⟨by omega,by omega,hsmall (by omega),hgood⟩⟩
 cases h1:decide ((s.size:Int)≥1) with
 |true=>
  have h1':decide (1≤(s.size:Int))=true:=h1
  refine aue h1' ?_
  refine aD hp (leo hd) ⟨?_,rfl⟩
  rw[hn,h1,Bool.true_and];rfl
 |false=>
  have h1':decide (1≤(s.size:Int))=false:=h1
  refine aue h1' ?_
  refine aD hp (leo hd) ⟨?_,rfl⟩
  rw[hn,h1];rfl
theorem vE(x:Vl)(hl:x.s.size≤9223372036854775807)(h:Hp):bH Tryz.prog 122 [x.v] h (.bool (cY x)):=by
 refine aT (fun L=>trivial) fun h' nx hh=>aF L.corollaryref01_Right_low fun hd=>?_
 simp only[jL,jM,jA,jB,jN,jO,jP,jQ,V.undef]
 have C1:=fun h=>zI x.s hl h
 unfold cY fH
 cases k1:(x.k==1) with
 |true=>
  have q1:x.k=1:=by simpa using k1
  cases k2:((x.s.size:Int)==0) with
  |true=>
   have q2:x.s.size=0:=by simpa using k2
   cases k3:decide (-2147483647≤x.n) with
   |true=>
    refine aue (e4 Vl.v.eq_1 k1 k2 k3) ?_
    refine aD h' (leo hd) ⟨vb ?_,rfl⟩
    simp only[decide_eq_true_eq] at k3
    simp[q1,q2,k3]
   |false=>
    refine aue (e4 Vl.v.eq_1 k1 k2 k3) ?_
    refine aD h' (leo hd) ⟨vb ?_,rfl⟩
    simp only[decide_eq_false_iff_not] at k3
    simp[q1,q2];omega
  |false=>
   have q2:x.s.size≠0:=by simpa using k2
   refine aue (e3 Vl.v.eq_1 k1 k2) ?_
   refine aD h' (leo hd) ⟨vb ?_,rfl⟩
   simp[q1,q2]
 |false=>
  have q1:x.k≠1:=by simpa using k1
  cases k2:(x.k==2) with
  |true=>
   have q2:x.k=2:=by simpa using k2
   cases k3:(x.n==0) with
   |true=>
    have q3:x.n=0:=by simpa using k3
    refine aue (e4 Vl.v.eq_1 k1 k2 k3) ?_
    refine aD h' (leo hd) ⟨vb ?_,rfl⟩
    simp[q2,q3]
   |false=>
    have q3:x.n≠0:=by simpa using k3
    refine aue (e4 Vl.v.eq_1 k1 k2 k3) ?_
    refine aD h' (leo hd) ⟨vb ?_,rfl⟩
    simp[q2,q3]
  |false=>
   have q2:x.k≠2:=by simpa using k2
   refine aue (e3 Vl.v.eq_1 k1 k2) ?_
   refine aD h' (leo hd) ⟨vb ?_,rfl⟩
   simp[q1,q2]
theorem kC(a b:Vl)(h:Hp):bH Tryz.prog 123 [a.v,b.v] h (.bool (rF a b)):=by
 refine aT (fun L=>trivial) fun h' nx hh=>aF L.corollaryref01_Less_low fun hd=>?_
 simp only[jL,jM,jA,jB,jN,jO,jP,jQ,V.undef]
 unfold rF cQ orC lU
 cases k1:(a.k != b.k) with
 |true=>
  have q1:a.k≠b.k:=by simpa using k1
  refine aue (ee2 Vl.v.eq_1 k1) ?_
  refine aD h' (leo hd) ⟨vb ?_,rfl⟩
  simp only[decide_eq_true_eq]
  repeat' split
  all_goals omega
 |false=>
  have q1:a.k=b.k:=by simpa using k1
  cases k2:(a.n != b.n) with
  |true=>
   have q2:a.n≠b.n:=by simpa using k2
   refine aue (e3 Vl.v.eq_1 k1 k2) ?_
   refine aD h' (leo hd) ⟨vb ?_,rfl⟩
   simp only[decide_eq_true_eq]
   repeat' split
   all_goals omega
  |false=>
   have q2:a.n=b.n:=by simpa using k2
   refine aue (e3 Vl.v.eq_1 k1 k2) ?_
   refine aD h' (leo hd) ⟨vb ?_,rfl⟩
   simp only[sD,decide_eq_true_eq,q1,q2,Int.lt_irrefl,if_false,if_true]
   exact Iff.rfl
theorem aBk(n:Int)(h:Hp):bH Tryz.prog 13 [pU n] h (.int .i64 n):=by
 refine aT (fun L=>trivial) fun h' nx hh=>aF L.corollarynum_Num_low fun hd=>?_
 simp only[jL,jM,jA,jB,jN,jO,jP,jQ,V.undef]
 by_cases hn:n=0
 ·subst hn
  refine aue aCI ?_
  exact aD h' (leo hd) ⟨rfl,rfl⟩
 have e:pU n= .iface 48 (.int .i64 n):=by unfold pU;rw[if_neg hn]
 have e2:(n != 0)=true:=by simpa using hn
 refine aue (ee2 e e2) ?_
 exact aD h' (leo hd) ⟨rfl,rfl⟩
abbrev vls(o:Own)(l:List Vl):V:= .sl (.agg 3) o (l.map Vl.v)
abbrev TR:Type:=Own×List Vl
def TR.v(p:TR):V:=vls p.1 p.2
abbrev tps(o:Own)(l:List TR):V:= .sl .leaf o (l.map TR.v)
abbrev aK(l:List TR):List (List Vl):=l.map Prod.snd
def TR.ok(p:TR):Prop:=(p.1= .nil∧p.2=[])∨p.1= .free
theorem kZ{o:Own}(l:List Vl)(h:o= .nil∨o= .free∨o= .full)(L:Nat→Prop):(vls o l).names L:=by
 rcases h with rfl|rfl|rfl<;>exact⟨(fun n e=>by cases e),gG (fun x=>Vl.names_v L x) l⟩
theorem TR.names{p:TR}(h:p.ok)(L:Nat→Prop):p.v.names L:=kZ p.2 (by rcases h with⟨h,_⟩|h<;>simp[h]) L
def Rd(h:Hp)(v:V)(l:List Vl):Prop:=(∃o,v=vls o l)∨∃n tail,v= .rs n (.agg 3) 0 l.length∧h n=some (.arr (.agg 3) (l.map Vl.v++tail))
theorem aBD(l:List Vl)(tail:List V)(i:Nat)(h:i<l.length):(l.map Vl.v++tail).getD i (.tup [])=l[i].v:=by
 rw[List.getD_eq_getElem?_getD,List.getElem?_append_left (by simpa using h)]
 simp[h]
theorem aBM{α:Type}(c:α→α→Int)(a b:List α)(i:Nat)(h1:i<a.length)(h2:i<b.length)(h0:c a[i] b[i]=0):cN c (a.drop i) (b.drop i)=cN c (a.drop (i+1)) (b.drop (i+1)):=by
 rw[List.drop_eq_getElem_cons h1,List.drop_eq_getElem_cons h2]
 simp only[cN,orC,h0,if_true]
set_option maxHeartbeats 2000000 in
theorem pD(o1:Own)(a b:List Vl)(ha:a.length≤1000000000)(v2:V)(h:Hp)(hv:Rd h v2 b):bH Tryz.prog 108 [vls o1 a,v2, .fn (.func 109) [] []] h (.int .i64 (bS a b)):=by
 refine aT (fun L=>trivial) fun h' nx hh=>aF L.slices_CompareFunc_api_Tuple_api_Tuple_api_Value_api_Value_low fun hd=>?_
 simp only[jL,jM,jA,jB,jN,jO,jP,jQ,V.undef]
 have hal:(a.map Vl.v).length=a.length:=jK ..
 refine aue hal ?_
 refine aY (fun i:Nat=>aC 39 0 [(0,vls o1 a),(1,v2),(2, .fn (.func 109) [] []),(11,vls o1 a),(12, .int .i64 a.length),(13, .int .i64 i)])
  (fun i hp nx1=>i≤a.length∧i≤b.length∧bS a b=bS (a.drop i) (b.drop i)∧nx≤nx1∧aX hp nx1∧Hp.same nx h' hp)
  (fun i=>a.length-i) 0 ⟨Nat.zero_le _,Nat.zero_le _,rfl,Nat.le_refl _,hd,Hp.same.rfl'⟩ (by simp only[WkL,aC,jH,jI,jJ,go_sem,reduceIte,jA,jB,jC,jD,reduceCtorEq,jE,jF]) ?_
 rintro i hp nx1 ⟨hi,hib,hcm,hnx,hdm,hsm⟩
 generalize hQ:bU _ _ _ _ _=Q0
 simp only[aC,go_sem,reduceIte,jA,jB,jC,jD,reduceCtorEq,jE,jF]
 rcases Nat.lt_or_ge i a.length with hlt|hge
 ·have hc:decide ((i:Int)<(a.length:Int))=true:=dct
  have hw:IntKind.i64.wrap ((i:Int)+1)=((i+1:Nat):Int):=wrp
  have hg:(a.map Vl.v).getD i (.tup [])= .agg [.int .i64 a[i].k, .int .i64 a[i].n, .str a[i].s]:=aO Vl.v a i hlt
  rcases Nat.lt_or_ge i b.length with hlb|hgb
  ·have hc2:decide ((b.length:Int)≤(i:Int))=false:=dcf
   have hk:=fun h=>oP a[i] b[i] h
   have hg2:(b.map Vl.v).getD i (.tup [])= .agg [.int .i64 b[i].k, .int .i64 b[i].n, .str b[i].s]:=aO Vl.v b i hlb
   obtain⟨c,hcc⟩:∃c,cQ a[i] b[i]=c:=⟨_,rfl⟩
   rw[hcc] at hk
   have hfin:c≠0→bS a b=c:=fun h0=>by
    rw[hcm,List.drop_eq_getElem_cons hlt,List.drop_eq_getElem_cons hlb]
    simp only[bS,cN,orC,hcc,if_neg h0]
   rcases hv with⟨o2,rfl⟩|⟨n,tail,rfl,hn⟩
   case' inl=>have E:=e9 hc hw hal hg hlt hc2 (@jK Vl V) jG (e2 hg2 hlb)
   case' inr=>
    have hn1:hp n=some (.arr (.agg 3) (b.map Vl.v++tail)):=by rw[hsm n (hd _ _ (hh _ _ hn rfl))];exact hh _ _ hn rfl
    have hn2:n<nx1:=hdm _ _ hn1
    have hg3:(b.map Vl.v++tail).getD i (.tup [])= .agg [.int .i64 b[i].k, .int .i64 b[i].n, .str b[i].s]:=aBD b tail i hlb
    have hl3:(b.map Vl.v++tail).length=b.length+tail.length:=by simp
    have hl4:i<b.length+tail.length:=by omega
    have E:=e12 hc hw hal hg hlt hc2 (@jK Vl V) jG hn1 hn2 hg3 (e4 hlb hl3 hl4 Nat.zero_add)
   all_goals
    refine aue E ?_
    refine dB rfl (hk _) rfl (aV _) ?_
    simp only[go_sem,reduceIte,jA,jB,jC,jD,reduceCtorEq,jE,jF]
    by_cases h0:c=0
    ·have hc3:(c != 0)=false:=bnf
     refine aue hc3 ?_
     rw[←hQ]
     refine aue hw ?_
     exact aM (i+1) (by omega) ⟨hlt,hlb,by rw[hcm,bS,aBM cQ a b i hlt hlb (by rw[hcc];exact h0)],by omega,dmo hdm,kep hsm⟩ (by simp only[WkL,aC,jH,jI,jJ,hw,go_sem,reduceIte,jA,jB,jC,jD,reduceCtorEq,jE,jF])
    have hc3:(c != 0)=true:=bnt
    refine aue hc3 ?_
    rw[←hQ]
    refine au ?_
    exact aD h' (lef hd (hsm.le hd (Hp.le_refl _))) ⟨by rw[hfin h0]<;>rfl,rfl⟩
  have hc2:decide ((b.length:Int)≤(i:Int))=true:=dct
  have hl2:∃m:Nat,m=b.length:=⟨_,rfl⟩
  have hfin:bS a b=1:=by
   rw[hcm,List.drop_eq_getElem_cons hlt,List.drop_of_length_le hgb];rfl
  rcases hv with⟨o2,rfl⟩|⟨n,tail,rfl,hn⟩
  all_goals
   refine aue (e8 hc hw hal hg hlt hc2 (@jK Vl V) jG) ?_
   rw[←hQ]
   refine au ?_
   exact aD h' (lef hd (hsm.le hd (Hp.le_refl _))) ⟨by rw[hfin]<;>rfl,rfl⟩
 have hc:decide ((i:Int)<(a.length:Int))=false:=dcf
 have hia:i=a.length:=by omega
 have hfin:bS a b=if a.length<b.length then-1 else 0:=by
  rw[hcm,hia,List.drop_length]
  split
  ·rename_i k;rw[List.drop_eq_getElem_cons k];rfl
  rw[List.drop_of_length_le (by omega)];rfl
 by_cases hl:a.length<b.length
 ·have hc2:decide ((a.length:Int)<(b.length:Int))=true:=dct
  rw[if_pos hl] at hfin
  rcases hv with⟨o2,rfl⟩|⟨n,tail,rfl,hn⟩
  all_goals
   refine aue hc ?_
   rw[←hQ]
   refine aue (e3 hc2 hal (@jK Vl V)) ?_
   exact aD h' (lef hd (hsm.le hd (Hp.le_refl _))) ⟨by rw[hfin]<;>rfl,rfl⟩
 have hc2:decide ((a.length:Int)<(b.length:Int))=false:=dcf
 rw[if_neg hl] at hfin
 rcases hv with⟨o2,rfl⟩|⟨n,tail,rfl,hn⟩
 all_goals
  refine aue hc ?_
  rw[←hQ]
  refine aue (e3 hc2 hal (@jK Vl V)) ?_
  exact aD h' (lef hd (hsm.le hd (Hp.le_refl _))) ⟨by rw[hfin]<;>rfl,rfl⟩
theorem oQ(o1:Own)(a b:List Vl)(ha:a.length≤1000000000)(v2:V)(h:Hp)(hv:Rd h v2 b):bH Tryz.prog 55 [vls o1 a,v2] h (.int .i64 (bS a b)):=by
 refine aT (fun L=>trivial) fun h' nx hh=>aF L.tuple_Compare_low fun hd=>?_
 simp only[jL,jM,jA,jB,jN,jO,jP,jQ,V.undef]
 refine au ?_
 refine bA (pD o1 a b ha v2 h hv) rfl hh ?_
 simp only[go_sem,reduceIte,jA,jB,jC,jD,reduceCtorEq,jE,jF]
 refine au ?_
 exact aD h' (leo hd) ⟨rfl,rfl⟩
end Go.Proofs.YtemjhgboialjpaaGreat
namespace Go.Proofs.YtemjhgboialjpaaGreat
open Go.ChangeShapes Go.WideShapes Go.ChangeAt Go.RowKit
theorem vQ{k:IntKind}{v:V}(h:(AT.int k).ok v):∃n,v= .int k n:=by cases h with|int _ n _=>exact⟨n,rfl⟩
theorem aDg{v:V}(h:AT.str.ok v):∃n,n.size≤9223372036854775807∧v= .str n:=by cases h with|str n h=>exact⟨n,by simpa [maxLen] using h,rfl⟩
def Vl.sm(x:Vl):Prop:=x.s.size≤9223372036854775807
theorem rE{α:Type}(p:α→Prop)(f:α→V):∀(vs:List V),(∀v∈vs,∃x,p x∧v=f x)→∃l:List α,(∀x∈l,p x)∧vs=l.map f
 | [],_=>⟨[],by simp,rfl⟩
 |v::vs,h=>by
  obtain⟨x,hx,rfl⟩:=h v (by simp)
  obtain⟨l,hl,rfl⟩:=rE p f vs (fun v hv=>h v (by simp[hv]))
  exact⟨x::l,by simpa using⟨hx,hl⟩,rfl⟩
theorem aDS{v:V}(hf:v.fits (.agg 3)=true)(h:∀i,i<3→(([AT.int .i64,AT.int .i64,AT.str]:List AT).getD i .bool).ok (v.cell i)):∃t:Vl,t.sm∧v=t.v:=by
 cases v with
 |agg cs=>
  simp only[V.fits,Bool.and_eq_true,decide_eq_true_eq] at hf
  match cs,hf.1 with
  | [a,b,c],_=>
   obtain⟨x,hx⟩:=vQ (h 0 (by omega))
   obtain⟨y,hy⟩:=vQ (h 1 (by omega))
   obtain⟨z,hm,hz⟩:=aDg (h 2 (by omega))
   refine⟨⟨x,y,z⟩,hm,?_⟩
   have e1:a= .int .i64 x:=hx
   have e2:b= .int .i64 y:=hy
   have e3:c= .str z:=hz
   rw[e1,e2,e3];rfl
 |_=>simp[V.fits] at hf
theorem vB{P:Program}{t:TypeId}{a:AT}{x:V}(ek:bR P t=some .leaf)(ea:fQ P 12 t=some [a])(h:yS P t x):a.ok x:=by
 obtain⟨k,ats,hk,ha,hf,_,ho⟩:=h
 rw[ek] at hk
 rw[ea] at ha
 injection hk with hk;injection ha with ha
 subst hk ha
 have h0:=ho 0 (by simp)
 rwa [eW (by rwa [gA] at hf)] at h0
theorem yN{P:Program}{t:TypeId}{k:IntKind}{x:V}(ek:bR P t=some .leaf)(ea:fQ P 12 t=some [.int k])(h:yS P t x):∃n,x= .int k n:=vQ (vB ek ea h)
theorem aDF{v:V}(h:(AT.sl (.agg 3) [.int .i64, .int .i64, .str]).ok v):∃p:TR,(p.ok∧∀x∈p.2,x.sm)∧v=p.v:=by
 cases h with
 |nil=>exact⟨(.nil,[]),⟨.inl ⟨rfl,rfl⟩,by simp⟩,rfl⟩
 |sl _ _ vs hl hf hc=>
  obtain⟨l,hs,rfl⟩:=rE Vl.sm Vl.v vs (fun v hv=>aDS (hf v hv) (hc v hv))
  exact⟨(.free,l),⟨.inr rfl,hs⟩,rfl⟩
theorem aDv{P:Program}{t:TypeId}{x:V}(ek:bR P t=some .leaf)(ea:fQ P 12 t=some [.sl .leaf [.sl (.agg 3) [.int .i64, .int .i64, .str]]])(h:yS P t x):∃o l,((o= .nil∧l=[])∨o= .free)∧(∀p∈l,TR.ok p∧∀x∈p.2,x.sm)∧x=tps o l:=by
 cases vB ek ea h with
 |nil=>exact⟨.nil,[], .inl ⟨rfl,rfl⟩,by simp,rfl⟩
 |sl _ _ vs hl hf hc=>
  obtain⟨l,h1,rfl⟩:=rE (fun p:TR=>p.ok∧∀x∈p.2,x.sm) TR.v vs (fun v hv=>by
   have h0:=hc v hv 0 (by simp)
   have hv2:v.cell 0=v:=eW (by have:=hf v hv;rwa [gA] at this)
   rw[hv2] at h0
   exact aDF h0)
  exact⟨.free,l, .inr rfl,h1,rfl⟩
end Go.Proofs.YtemjhgboialjpaaGreat
