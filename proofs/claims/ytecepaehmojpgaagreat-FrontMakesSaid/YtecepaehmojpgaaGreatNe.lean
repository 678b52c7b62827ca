/-
Texts of this proof,one behind the other. No conditions.
-/
import Derived.Test.YtecepaehmojpgaaGreatNd
import Derived.Test.YtecepaehmojpgaaGreatNdb
import Derived.Shelf.SlMaps.Clone
import Derived.WalkKit
open Go.Proofs.YtecepaehmojpgaaGreat.Hp renaming le_refl→Ka,set→Kc,del→Kg,has→Kq
open Go.Proofs.YtecepaehmojpgaaGreat.V renaming undef→Kb
open List renaming getD_eq_getElem?_getD→Kd,take_succ_eq_append_getElem→Ke,mem_cons→Kf,pairwise_cons→Kh,mem_append→Ki,mem_filter→Kk,contains_eq_mem→Ko,take_length→Kp,filter_append→Kt,length_cons→Ku,mem_singleton→Kv,take_append_of_le_length→Kw,filter_cons→Kx,replicate→Ky,nodup_cons→Kz,drop_zero→KB,getElem?_set_ne→KE,getElem_mem→KF,getElem?_eq_some_iff→KH,findIdx?_eq_none_iff→KI,getElem?_eq_getElem→KJ,append_of_mem→KK,getElem?_replicate→KM,drop_drop→KN,findIdx?_eq_some_iff_getElem→KP,range→KR,map_cons→KT,pairwise_append→KW,mem_map→KX,filter_eq_self→KY,getElem_of_mem→KZ,pairwise_iff_getElem→Qa,getLast?_eq_getElem?→Qb,mem_take_iff_getElem→Qc,nodup_range→Qd,take_of_length_le→Qe,foldl_cons→Qf,take_append_drop→Qg,getElem_set_self→Qh,mem_of_mem_take→Qj,getLast?_append→Qk,take_succ_cons→Qm,drop_succ_cons→Qo,getD_cons_zero→Qp,getElem_set_ne→Qr,take_set_of_le→Qt,drop_set_of_lt→Qu,set_cons_succ→Qx,length_append→Qy,getElem?_take→Qz,nodup_append→QA,append_assoc→QB,length_take→QF,append_nil→QG,take_zero→QH,map_take→QI,map_nil→QJ,map_set→QL,drop→QO
open Bool renaming false_eq_true→Kj,not_false→KC,and_false→KD,not_true→KG,not_eq_true'→KO,and_eq_true→KU,and_self→KV,false_and→Qi,true_and→Ql,true_eq_false→Qw,or_self→QK
open Nat renaming le_refl→Km,lt_or_ge→KL,zero_le→KS,lt_irrefl→Qq,sub_zero→QM,add_mul→QN
open Classical renaming byContradiction→Ks
open Go renaming undef→KQ
open Option renaming isSome_some→Qv,getD_some→QD
open Nat renaming reduceAdd→jA,reduceSub→jB,reduceLT→jC,reduceLeDiff→jD,reduceEqDiff→jE
open Int renaming reduceToNat→jF,toNat_natCast→jG,natCast_add→jH,natCast_one→jI,natCast_zero→jJ
open List renaming length_map→jK,length_cons→jL,length_nil→jM,replicate_succ→jN,replicate_zero→jO,cons_append→jP,nil_append→jQ
set_option linter.unusedSimpArgs false
set_option linter.unusedVariables false
set_option linter.unusedSectionVars false
set_option maxHeartbeats 8000000
namespace Go.Proofs.YtecepaehmojpgaaGreat
open Go.RowKit
def lA(a b:Int):Int:=if a<b then-1 else if b<a then 1 else 0
theorem j0{P:Program}{f:Nat}(hL:aJ P f=some LB.aFZ)(a:Int)(h:Hp):aX P f [.int .i64 a] h (.bool false):=by
 refine aP (fun L=>trivial) fun h' nx hh=>aD hL fun hd=>?_;simp only[jL,jM,jA,jB,jN,jO,jP,jQ,Kb];refine wl ?_;refine bT (aG h' (Ka _) ⟨?_,rfl⟩);simp[bne]
theorem pX{P:Program}{f f0:Nat}(hL:aJ P f=some (LB.aHH f0))(hL0:aJ P f0=some LB.aFZ)(a b:Int)(h:Hp):aX P f [.int .i64 a, .int .i64 b] h (.int .i64 (lA a b)):=by
 refine aP (fun L=>trivial) fun h' nx hh=>aD hL fun hd=>?_;simp only[jL,jM,jA,jB,jN,jO,jP,jQ,Kb];refine wl ?_;refine aQ (j0 hL0 a _) rfl (aU _) ?_;refine Zn ?_;refine wl ?_;refine aQ (j0 hL0 b _) rfl (aU _) ?_;refine Zn ?_;refine wl ?_;refine cH _ rfl (fun hc=>?_) (fun hc=>?_)
 ·cases hc
 refine wl ?_;refine cH _ rfl (fun hc=>?_) (fun hc=>?_)
 ·cases hc
 refine wl ?_;refine cH _ rfl (fun hc=>?_) (fun hc=>?_)
 ·refine wl ?_;refine bT ?_;repeat (first|with_reducible refine gV ?_|with_reducible refine eS ?_|with_reducible refine fG ?_|with_reducible refine gA ?_)
  refine aG h' (Ka _) ⟨?_,rfl⟩;have:a<b:=by simpa using hc
  simp only[lA,if_pos this,go_sem,reduceIte,jA,jB,jC,jD,reduceCtorEq,jE,jF]
 refine wl ?_;have h1:¬a<b:=by simpa using hc
 refine cH _ rfl (fun hc2=>?_) (fun hc2=>?_)
 ·refine wl ?_;refine bT ?_;repeat (first|with_reducible refine gV ?_|with_reducible refine eS ?_|with_reducible refine fG ?_|with_reducible refine gA ?_)
  refine aG h' (Ka _) ⟨?_,rfl⟩;have:b<a:=by simpa using hc2
  simp only[lA,if_neg h1,if_pos this,go_sem,reduceIte,jA,jB,jC,jD,reduceCtorEq,jE,jF]
 refine wl ?_;have h2:¬b<a:=by simpa using hc2
 refine bT (aG h' (Ka _) ⟨?_,rfl⟩);simp only[lA,if_neg h1,if_neg h2,go_sem,reduceIte,jA,jB,jC,jD,reduceCtorEq,jE,jF]
def orI:List Int→Int
 | []=>0
 |x::l=>if x=0 then orI l else x
theorem xV{P:Program}{f:Nat}(hL:aJ P f=some LB.aMo)(own:Own)(l:List Int)(hl:l.length≤1000000000)(h:Hp):aX P f [.sl .leaf own (l.map (V.int .i64))] h (.int .i64 (orI l)):=by
 refine aP (fun L=>trivial) fun h' nx hh=>aD hL fun hd=>?_;simp only[jL,jM,jA,jB,jN,jO,jP,jQ,Kb];refine wle trivial ?_;refine mP (fun i:Nat=>i≤l.length∧orI l=orI (l.drop i)) (fun i=>⟨aB 18 0 [(0, .sl .leaf own (l.map (V.int .i64))),(3, .int .i64 0),(6, .sl .leaf own (l.map (V.int .i64))),(7, .int .i64 l.length),(8, .int .i64 i)],h',nx⟩) (fun i=>l.length-i) 0 ⟨KS _,Zm⟩ ?_ ?_
 ·refine kI (by simp only[WkL,aB,jH,jI,jJ,go_sem,reduceIte,jA,jB,jC,jD,reduceCtorEq,jE,jF]) ?_ ?_
  ·exact Ka _
  omega
 rintro i ⟨hi,hno⟩;simp only[aB,go_sem,reduceIte,jA,jB,jC,jD,reduceCtorEq,jE,jF];refine wl ?_;refine cH _ rfl (fun hc=>?_) (fun hc=>?_)
 ·have hlt:i<l.length:=by simpa using hc
  have hg:=bI (V.int .i64) l i hlt;refine wle hg ?_;rw[List.drop_eq_getElem_cons hlt] at hno;refine cH _ rfl (fun hc=>?_) (fun hc=>?_)
  ·refine wl ?_;refine bT ?_;repeat (first|with_reducible refine gV ?_|with_reducible refine eS ?_|with_reducible refine fG ?_|with_reducible refine gA ?_)
   refine aG h' (Ka _) ⟨?_,rfl⟩;have:l[i]≠0:=by simpa using hc
   simp only[hno,orI,if_neg this,go_sem,reduceIte,jA,jB,jC,jD,reduceCtorEq,jE,jF]
  refine wl ?_;have:l[i]=0:=by simpa using hc
  refine gM (i+1) ⟨or,by rw[hno];simp[orI,this]⟩ or ?_;rw[aY or or];refine kI (by simp only[WkL,aB,jH,jI,jJ,go_sem,reduceIte,jA,jB,jC,jD,reduceCtorEq,jE,jF]) ?_ ?_
  ·exact Ka _
  omega
 have hge:i=l.length:=by have:¬i<l.length:=by simpa using hc
                         omega
 refine fT ?_;repeat (first|with_reducible refine eC ?_|with_reducible refine dM ?_|with_reducible refine dG ?_|with_reducible refine bG ZM ?_|with_reducible refine cZ ?_|with_reducible refine aM ?_)
 refine wl ?_;refine bT (aG h' (Ka _) ⟨?_,rfl⟩);refine Zn ?_;rw[hno,hge,List.drop_length];rfl
section
variable{P:Program}{k:Sh}{α:Type}(e:α→V)(aAH:∀x,(e x).fits k=true)
include aAH
theorem AE [DecidableEq α]{f:Nat}{ks:List LK}(hL:aJ P f=some (LB.Equal k (.plain k ks)))(heq:∀x y,veq (.plain k ks) (e x) (e y)=some (decide (x=y)))(own aDa:Own)(a b:List α)(ha:a.length≤1000000000)(h:Hp):
 aX P f [.sl k own (a.map e), .sl k aDa (b.map e)] h (.bool (decide (a=b))):=by
 refine aP (fun L=>trivial) fun h' nx hh=>aD hL fun hd=>?_;simp only[jL,jM,jA,jB,jN,jO,jP,jQ,Kb];refine wle trivial ?_;refine cH _ rfl (fun hc=>?_) (fun hc=>?_)
 ·refine wl ?_;refine bT ?_;repeat (first|with_reducible refine gV ?_|with_reducible refine eS ?_|with_reducible refine fG ?_|with_reducible refine gA ?_)
  refine aG h' (Ka _) ⟨?_,rfl⟩;have:a≠b:=by rintro rfl;simp at hc
  simp only[this,go_sem,reduceIte,jA,jB,jC,jD,reduceCtorEq,jE,jF]
 have hab:a.length=b.length:=by
  have:((a.length:Int))=b.length:=by simpa using hc
  omega
 refine wle trivial ?_;refine mP (fun p:Nat×Nat=>p.1≤a.length∧a.take p.1=b.take p.1∧nx≤p.2) (fun p=>⟨aB 26 0 [(0, .sl k own (a.map e)),(1, .sl k aDa (b.map e)),(12, .int .i64 a.length),(13, .int .i64 p.1)],h',p.2⟩) (fun p=>a.length-p.1) (0,nx) ⟨KS _,rfl,Km _⟩ ?_ ?_
 ·refine kI (by simp only[WkL,aB,jH,jI,jJ,go_sem,reduceIte,jA,jB,jC,jD,reduceCtorEq,jE,jF]) ?_ ?_
  ·exact Ka _
  omega
 rintro⟨i,nx1⟩ ⟨hi,hno,hnx⟩;simp only at hi hno hnx;simp only[aB,go_sem,reduceIte,jA,jB,jC,jD,reduceCtorEq,jE,jF];refine wl ?_;refine cH _ rfl (fun hc=>?_) (fun hc=>?_)
 ·have hlt:i<a.length:=by simpa using hc
  have aHi:i<b.length:=or;have hg:=bI e a i hlt;have hg':=bI e b i aHi;refine wl ?_;refine dJ rfl ?_;have aS3:=heq a[i] b[i];refine bY rfl (by simp only[hg,hg',aS3,aAH,jG,Qv,jK,go_sem,reduceIte,jA,jB,jC,jD,reduceCtorEq,jE,jF];try omega) ?_;simp only[hg,hg',aS3,aAH,jG,jK,QD,go_sem,reduceIte,jA,jB,jC,jD,reduceCtorEq,jE,jF];refine cD (cQ ?_);refine Zn ?_;refine aM ?_;refine cH _ rfl (fun hc=>?_) (fun hc=>?_)
  ·refine wl ?_;refine bT ?_;repeat (first|with_reducible refine gV ?_|with_reducible refine eS ?_|with_reducible refine fG ?_|with_reducible refine gA ?_)
   refine aG h' (Ka _) ⟨?_,rfl⟩;have hne:a[i]≠b[i]:=by simpa using hc
   have:a≠b:=by rintro rfl;exact hne rfl
   simp only[this,go_sem,reduceIte,jA,jB,jC,jD,reduceCtorEq,jE,jF]
  refine wl ?_;have he:a[i]=b[i]:=by simpa using hc
  refine gM (i+1,nx1+9) ⟨by simp only;omega,?_,by simp only;omega⟩ (by simp only;omega) ?_
  ·simp only;rw[Ke hlt,Ke aHi,hno,he]
  rw[aY or or];refine kI (by simp only[WkL,aB,jH,jI,jJ,go_sem,reduceIte,jA,jB,jC,jD,reduceCtorEq,jE,jF]) ?_ ?_
  ·exact Ka _
  omega
 have hge:i=a.length:=by have:¬i<a.length:=by simpa using hc
                         omega
 refine fT ?_;repeat (first|with_reducible refine eC ?_|with_reducible refine dM ?_|with_reducible refine dG ?_|with_reducible refine bG ZM ?_|with_reducible refine cZ ?_|with_reducible refine aM ?_)
 refine wl ?_;refine bT (aG h' (Ka _) ⟨?_,rfl⟩);have:a=b:=by
  rw[hge,Kp] at hno;rw[hno,hab,Kp]
 simp only[this,go_sem,reduceIte,jA,jB,jC,jD,reduceCtorEq,jE,jF]
end
def DJ(k:Sh)(own:Own)(es:List V)(nx:Nat)(h:Hp)(v:V)(h':Hp):Prop:=(own= .nil∧v= .sl k .nil []∧h'=h)∨(own≠ .nil∧∃id,nx≤id∧v= .sl k (.tok id) es∧h'=h.set id .tip)
theorem tu{P:Program}{k:Sh}{f bs:Nat}(hL:aJ P f=some (LB.Clone k bs))(hbs:bs≤140737)(own:Own)(es:List V)(hl:es.length≤1000000000)(hn:own= .nil→es=[])(h:Hp)(nx:Nat):
 bD P f [.sl k own es] h nx fun v h' _=>DJ k own es nx h v h':=by
 refine aD hL fun hd=>?_;simp only[jL,jM,jA,jB,jN,jO,jP,jQ,Kb];refine wl ?_;by_cases ho:own= .nil
 ·subst ho;refine cH _ rfl (fun hc=>?_) (fun hc=>?_)
  ·refine wl ?_;refine bT ?_;repeat (first|with_reducible refine gV ?_|with_reducible refine eS ?_|with_reducible refine fG ?_|with_reducible refine gA ?_)
   refine aG h (Ka _) (.inl ⟨rfl,?_,rfl⟩);simp only[go_sem,reduceIte,jA,jB,jC,jD,reduceCtorEq,jE,jF]
  cases hc
 refine cH _ rfl (fun hc=>?_) (fun hc=>?_)
 ·exact absurd (by simpa using hc) ho
 have hb1:es.length*bs≤140737488355328:=ku hl hbs;repeat (first|with_reducible refine bH ?_|with_reducible refine dN ?_|with_reducible refine eG ?_|with_reducible refine aM ?_|with_reducible refine cC ?_|with_reducible refine bM ?_|(refine fV rfl (by simp only[eJ,hb1,go_sem,reduceIte,jA,jB,jC,jD,reduceCtorEq,jE,jF];try omega) ?_;simp only[eJ,hb1,go_sem,reduceIte,jA,jB,jC,jD,reduceCtorEq,jE,jF])|(with_reducible refine eN ?_))
 refine bT (aG (h.set (nx+1) .tip) ?_ (.inr ⟨ho,nx+1,or,?_,rfl⟩))
 ·intro m b e;have hm:∀b,h m=some b→m<nx:=fun b hb=>hd m b hb;simp only[Hp.aAQ,Hp.aCF] at e⊢;split at e
  ·rename_i e1;rw[if_pos e1];exact e
  rename_i e1;have:=hm _ e;rw[if_neg e1,if_neg or,if_neg or];exact e
 simp only[go_sem,reduceIte,jA,jB,jC,jD,reduceCtorEq,jE,jF]
theorem fp{P:Program}{k:Sh}{f bs:Nat}(hL:aJ P f=some (LB.Clone k bs))(hbs:bs≤140737)(own:Own)(es:List V)(hl:es.length≤1000000000)(hn:own= .nil→es=[])(hnm:∀L,bP L es)(h:Hp):
 aX P f [.sl k own es] h (V.sl k own es).loose:=by
 refine dI (fun L=>by cases own<;>simp[V.loose,V.names,hnm L,bP]) fun h' nx hh=>?_;have c:=tu hL hbs own es hl hn h' nx;refine⟨c.1,fun K aAK hlv hr hv=>((c.mono (R':=fun v' h'' _=>v'.loose=(V.sl k own es).loose∧h'.le h'') ?_).2 K aAK hlv hr hv)⟩;rintro v h'' nx' hnx (⟨rfl,rfl,rfl⟩|⟨ho,id,hid,rfl,rfl⟩)
 ·have he:=hn rfl;subst he;exact⟨rfl,Ka _⟩
 refine⟨(by cases own<;>first|exact absurd rfl ho|rfl),kN (Ka _) (aK.none (fun m b hm=>hlv m (hr.lt m b hm)) hid) _⟩
end Go.Proofs.YtecepaehmojpgaaGreat
namespace Go.Proofs.YtecepaehmojpgaaGreat
open Go.RowKit
attribute [local go_sem] Option.some.injEq Prod.mk.injEq false_and and_false Qw oM tE tq pV mN if_true Ql ia mV ed qE jV aA.ok aA.next LOp.ok LOp.next bL.ok bL.out aO.ev bN kv lZ kZ sC Kb Sh.size oU pT dZ aA.dok aA.aDx LOp.dok LOp.aFr nm fi iP iQ Qm QH List.take_nil Qo KB List.drop_nil Qx List.set_cons_zero List.getD_cons_succ Qp jL jM KT QJ List.all_cons List.all_nil Kf List.not_mem_nil jN jO jP jQ QG List.isEmpty_cons List.isEmpty_nil fW fE tI QD Qv Option.isSome_none Nat.add_eq Nat.zero_add Nat.add_zero true_and and_true and_self true_implies implies_true false_implies forall_const forall_eq forall_eq_or_imp ne_eq not_false_eq_true not_true_eq_false KG KC decide_true decide_false Bool.and_true Ql KD Qi true_or or_true false_or or_false eq_self Kj CD yk mF aB eA fB iC rM oO rL iZ kP eJ jG Int.toNat_zero Kp Hp.aAQ Hp.aCF wO uT aA.plain LOp.aAn aA.aCj LOp.aCb rn ab wP AP nV V.aEl V.aCE yh qr qt yg gY gQ cG nX pU beq_true beq_false jd je jf dc de vL vM sN sw dh sI jv wJ jw jx ru rv wK yD tB dg rx zD ju zF rE A8 A6 A7 A5 kq uZ rN sP pc pb pa o9 o7 aw av iw iv iu bc ba az pg pf pd iz iy ix sO fj cU zS Hp.aBO iN Option.isNone_some Option.isNone_none
namespace LB
end LB
section
variable{P:Program}{k:Sh}{bs ts:Nat}
end
end Go.Proofs.YtecepaehmojpgaaGreat
namespace Go.Proofs.YtecepaehmojpgaaGreat
open Go.RowKit Go.Shelf
section
variable{P:Program}{Q:St→Prop}{s:St}{dst:Option Nat}{r:List aA}{x:aO}
theorem CH(h:bB P r Q ⟨bN s.sl dst (.map s.nx),s.h.set s.nx (.mp [] 0),s.nx+1⟩):bB P (⟨dst,none, .mp .mk⟩::r) Q s:=h
theorem rk{n c:Nat}{es:List ME}(hx:x.ev s.sl= .map n)(hn:s.h n=some (.mp es c))(h:bB P r Q ⟨bN s.sl dst (.ptr s.nx .leaf 0 0),s.h.set s.nx (.mit n c [] c),s.nx+1⟩):bB P (⟨dst,none, .mp (.rng x)⟩::r) Q s:=by
 unfold bB;simp only[LOp.run,LOp.sem,MOp.sem,hx,hn];exact h
theorem rm{it m c since last:Nat}{seen:List Nat}{es:List ME}(hx:x.ev s.sl= .ptr it .leaf 0 0)(hi:s.h it=some (.mit m since seen last))(hm:s.h m=some (.mp es c))(hb:∀e∈es,e.b<since)(hl:since≤last)
 (h1:∀e∈es,e.b∉seen→bB P r Q ⟨bN s.sl dst (.tup [.bool true,e.k,e.v]),s.h.set it (.mit m since (seen++[e.b]) c),s.nx+1⟩) (h2:(∀e∈es,e.b∈seen)→bB P r Q ⟨bN s.sl dst (.tup [.bool false]),s.h,s.nx+1⟩):bB P (⟨dst,none, .mp (.nxt x)⟩::r) Q s:=by
 unfold bB;simp only[LOp.run,LOp.sem,MOp.sem,hx,hi,hm];exact⟨hb,hl,h1,h2⟩
theorem ro{it m c since:Nat}{seen:List Nat}{es:List ME}(hx:x.ev s.sl= .ptr it .leaf 0 0)(hi:s.h it=some (.mit m since seen c))(hm:s.h m=some (.mp es c)){b:Nat}{e:ME}(hs:seen.getLast?=some b)(he:es.find? (fun e=>e.b==b)=some e)
 (h:bB P r Q ⟨bN s.sl dst (.tup [e.k,e.v]),s.h,s.nx+1⟩):bB P (⟨dst,none, .mp (.key x)⟩::r) Q s:=by
 unfold bB;simp only[LOp.run,LOp.sem,MOp.sem,hx,hi,hm];exact⟨trivial,b,e,hs,he,h⟩
theorem db{kS:Sh}{ks:List LK}{n c:Nat}{es:List ME}{k v:aO}{f:Option Nat}(hk:(k.ev s.sl).fits kS=true)(hx:x.ev s.sl= .map n)(hn:s.h n=some (.mp es c))(hf:fC (.plain kS ks) (k.ev s.sl) es=some f)
 (h1:∀j,f=some j→bB P r Q ⟨bN s.sl dst Kb,s.h.set n (.mp (es.set j ⟨k.ev s.sl,v.ev s.sl,(es.getD j default).b⟩) c),s.nx+1⟩) (h2:f=none→bB P r Q ⟨bN s.sl dst Kb,s.h.set n (.mp (es++[⟨k.ev s.sl,v.ev s.sl,c⟩]) (c+1)),s.nx+1⟩):bB P (⟨dst,none, .mp (.put kS ks x k v)⟩::r) Q s:=by
 unfold bB;simp only[LOp.run,LOp.sem,MOp.sem,hx,hn,hf];refine⟨hk,?_⟩;cases f with
 |some j=>exact h1 j rfl
 |none=>exact h2 rfl
theorem rp{kS:Sh}{ks:List LK}{n c j:Nat}{es:List ME}{k:aO}(hk:(k.ev s.sl).fits kS=true)(hx:x.ev s.sl= .map n)(hn:s.h n=some (.mp es c))(hf:fC (.plain kS ks) (k.ev s.sl) es=some (some j))
 (h:bB P r Q ⟨bN s.sl dst Kb,s.h.set n (.mp (es.eraseIdx j) c),s.nx+1⟩):bB P (⟨dst,none, .mp (.del kS ks x k)⟩::r) Q s:=by
 unfold bB;simp only[LOp.run,LOp.sem,MOp.sem,hx,hn,hf];exact⟨hk,h⟩
end
section
variable{β:Type}(bn:β→Nat)
theorem DF{l:List β}(hn:(l.map bn).Nodup){x y:β}(hx:x∈l)(hy:y∈l)(h:bn x=bn y):x=y:=by
 induction l with
 |nil=>cases hx
 |cons a l ih=>
  rw[KT,Kz] at hn;rcases Kf.1 hx with e1|h1
  ·rcases Kf.1 hy with e2|h2
   ·rw[e1,e2]
   exact absurd (KX.2 ⟨y,h2,by rw[←h,e1]⟩) hn.1
  rcases Kf.1 hy with e2|h2
  ·exact absurd (KX.2 ⟨x,h1,by rw[h,e2]⟩) hn.1
  exact ih hn.2 h1 h2
theorem pG{l:List β}(hn:(l.map bn).Nodup):l.Nodup:=by
 refine(List.pairwise_map.1 hn).imp ?_;rintro a b h rfl;exact h rfl
theorem ym{l js:List β}(hl:(l.map bn).Nodup)(hj:(js.map bn).Nodup)(hs:∀y∈js,y∈l)(h:∀y∈l,bn y∈js.map bn):js.Perm l:=by
 rw[List.perm_ext_iff_of_nodup (pG bn hj) (pG bn hl)];intro y;refine⟨hs y,fun hy=>?_⟩;obtain⟨z,hz,hzy⟩:=KX.1 (h y hy);rw[DF bn hl hy (hs z hz) hzy.symm];exact hz
theorem wB:∀{js l:List β},js.Nodup→(∀y∈js,y∈l)→js.length≤l.length
 | [],_,_,_=>KS _
 |y::js,l,hn,hs=>by
  obtain⟨a,b,rfl⟩:=KK (hs y (List.mem_cons_self ..));have hn:=Kz.1 hn;have:=wB (l:=a++b) hn.2 (fun z hz=>by
   have:=hs z (List.mem_cons_of_mem _ hz);rw[Ki,Kf] at this;rcases this with h|h|h
   ·exact Ki.2 (.inl h)
   ·subst h;exact absurd hz hn.1
   exact Ki.2 (.inr h))
  simp only[Qy,jL] at this⊢;omega
theorem jm{l js:List β}(hj:(js.map bn).Nodup)(hs:∀y∈js,y∈l){y:β}(hy:y∈l)(hn:bn y∉js.map bn):js.length<l.length:=by
 have:=wB (js:=y::js) (l:=l) (Kz.2 ⟨fun h=>hn (KX.2 ⟨y,h,rfl⟩),pG bn hj⟩) (fun z hz=>by
  rcases Kf.1 hz with rfl|hz
  ·exact hy
  exact hs z hz)
 simp only[jL] at this;omega
theorem rh{js:List β}(hj:(js.map bn).Nodup){y:β}(hn:bn y∉js.map bn):((js++[y]).map bn).Nodup:=by
 rw[List.map_append,QA];refine⟨hj,Zm,?_⟩;intro a ha b hb hab;simp only[KT,QJ,Kv] at hb;subst hab;subst hb;exact hn ha
end
theorem y0{β:Type}(me:β→ME){l:List β}(hn:(l.map fun y=>(me y).b).Nodup){y:β}(hy:y∈l):(l.map me).find? (fun e=>e.b==(me y).b)=some (me y):=by
 induction l with
 |nil=>cases hy
 |cons a l ih=>
  rw[KT,Kz] at hn;rw[KT,List.find?_cons];rcases Kf.1 hy with rfl|hy
  ·simp
  have:((me a).b==(me y).b)=false:=by
   simp only[beq_eq_false_iff_ne,ne_eq];exact fun h=>hn.1 (KX.2 ⟨y,hy,h.symm⟩)
  rw[this];exact ih hn.2 hy
namespace LB
end LB
attribute [local irreducible] IntKind.wrap
end Go.Proofs.YtecepaehmojpgaaGreat
namespace Go.Proofs.YtecepaehmojpgaaGreat
open Go.RowKit Go.Shelf
theorem qY{P:Program}{ρ:Ren}(L:SlLaysW.n5 P ρ)(hen:gR P (ρ.f 5)=true)(m:Nat)(es:List ME)(c:Nat)(h:Hp)(nx:Nat)(hm:h m=some (.mp es c)):
 bD P (ρ.f 5) [.map m] h nx fun v h' nx'=>v= .map nx∧nx'=nx+1∧h'=h.set nx (.mp es c):=by
 refine⟨hen,fun K aAK hlv hr hv=>?_⟩;obtain⟨hsz,hv⟩:=hv;have hsz:aAK.size=1:=by simpa using hsz.symm
 obtain⟨c1,rfl⟩:∃c1,aAK=#[c1]:=⟨aAK[0],by
  apply Array.ext
  ·simp[hsz]
  intro i h1 h2;have:i=0:=by simp at h2;omega
  subst this;rfl⟩
 have v1:=hv 0 Zm;simp only[Qp] at v1;have e1:(#[c1]:Array Value).getD 0 KQ=c1:=rfl;rw[e1] at v1;cases v1;obtain⟨ces,hh,hms⟩:=(hr.blk m _ hm).aCW;refine(AnyW.maps_Clone L (K.mu m) ces c K.w hh).mono ?_;rintro e w' ⟨rfl,rfl⟩;have aAN:¬K.live nx:=fun hl=>by have:=hlv _ hl;omega
 have hmu:(K.push nx (.map ces c) 0).mu nx=K.w.heap.size:=by simp[Ker.push]
 have hle:=K.aA7 nx aAN (.map ces c) 0;obtain⟨h1,h2,h3⟩:=hr.aEQ aAN (o:= .map ces c) (b:= .mp es c) (.aHO (by rw[hmu];exact dK _ _) (hms.aA1 hle.toV));have hv:=VR.map (K:=K.push nx (.map ces c) 0) nx (.inl rfl);rw[hmu] at hv;refine⟨K.push nx (.map ces c) 0, .map nx,_,h.set nx (.mp es c),nx+1,by simp[Ker.push],rfl,h1,hv,h3,?_,Nat.le_succ _,rfl,rfl,rfl⟩;intro q hq;rcases h2 q hq with hq|rfl
 ·have:=hlv q hq;exact⟨or, .inl hq⟩
 exact⟨Nat.lt_succ_self _, .inr (Km _)⟩
end Go.Proofs.YtecepaehmojpgaaGreat
namespace Go.Proofs.YtecepaehmojpgaaGreat
open Go.RowKit
theorem uU{K:Ker}{h:Hp}(hr:Rel K h){n a:Nat}{k:Sh}{es:List V}{off len:Nat}{cv:Value}(hn:h n=some (.arr k es))(ha:¬K.live a)(hb0:off+len≤es.length)(hv:VR K (.rs n k off len) cv):
 ∃K',K'.w=K.w∧K.le K'∧(∀m,K'.live m→K.live m∨m=a)∧VR K' (.sl k .free ((es.drop off).take len)) cv∧Rel K' (h.del n):=by
 have hb:=hr.blk n _ hn;cases hb with
 |arr _ _ c T hh hcs aBC aAH hcv=>
  cases hv with
  |rs _ _ _ _ cap hl aAW hm=>
   obtain⟨T',m,hm1,hm2⟩:=hm;have hcm:m=c.size:=by simp[World.shape?,hh] at hm1;exact hm1.2.symm
   subst hcm;have hblk:K.mu n<K.w.heap.size:=by
    rcases KL (K.mu n) K.w.heap.size with hlt|hge
    ·exact hlt
    rw[Array.getElem?_eq_none hge] at hh;exact absurd hh Zm
   have hle:K.le (K.aAG a (K.mu n) (es.length*k.size)):=K.aAf ha (by rw[aBC];exact KS _);have hmu:(K.aAG a (K.mu n) (es.length*k.size)).mu a=K.mu n:=by simp[Ker.aAG]
   have aAS:Rel (K.aAG a (K.mu n) (es.length*k.size)) ((h.del n).set a .tip):=hr.aAG hn ha (by rw[aBC];exact KS _) (.tip c T (by rw[hmu];exact hh) (by simp[Ker.aAG]) (by simp only[Ker.aAG,if_true];exact hcs));have hlen:((es.drop off).take len).length=len:=by simp;omega
   have hsz:(off+len)*k.size≤es.length*k.size:=Nat.mul_le_mul_right _ hb0;rw[QN] at hsz;have aBa:∀i,i<len→((es.drop off).take len).getD i Kb=es.getD (off+i) Kb:=fun i hi=>by
    rw[Kd,Kd,List.getElem?_take_of_lt hi,List.getElem?_drop]
   refine⟨K.aAG a (K.mu n) (es.length*k.size),rfl,hle,fun m hm=>hm.symm,?_,aAS.weaken fun m b e=>?_⟩
   ·have:=VR.sl (K:=K.aAG a (K.mu n) (es.length*k.size)) k .free ((es.drop off).take len) (K.mu n) (off*k.size) cap (fun j=>c.getD (off*k.size+j) KQ) hblk (fun e he=>aAH e (List.mem_of_mem_drop (Qj he)))
     (fun j hj=>by
       rw[hlen] at hj;show K.w.cell? _=_;simp only[World.cell?,hh];rw[Array.getD_eq_getD_getElem?,Array.getElem?_eq_getElem or];rfl)
     (fun j hj=> .inr (by rw[hlen] at hj;simp only[Ker.aAG,if_true];omega))
     (fun i hi j hj=>by
       rw[hlen] at hi;rw[aBa i hi];have:=(hcv (off+i) or j hj).mono hle;rwa [QN,Nat.add_assoc] at this) (by rw[hlen];exact aAW) Zm Zm
     (fun m hm=>by cases hm)
    rw[hlen] at this;exact this
   unfold Kg at e;unfold Kc Kg;by_cases e1:m=n
   ·rw[if_pos e1] at e;cases e
   rw[if_neg e1] at e;have hma:m≠a:=fun e2=>ha (e2▸hr.lt m b e);rw[if_neg hma,if_neg e1];exact e
theorem xF{P:Program}{f:FuncId}{args:List V}{h:Hp}{nx n:Nat}{k:Sh}{G:List V→Prop}
 (c:bD P f args h nx fun v h' _=>∃off len es,v= .rs n k off len∧off+len≤es.length∧h'=h.set n (.arr k es)∧G ((es.drop off).take len)):
 bD P f args h nx fun v h' _=>∃es,v= .sl k .free es∧h'=h.del n∧G es:=by
 refine⟨c.1,fun K aAK hl hr hv=>(c.2 K aAK hl hr hv).mono ?_⟩;rintro e w' ⟨K',v,cv,h',nx',rfl,he,hle,hvr,aAS,hlv,hnx,off,len,es,rfl,hb,rfl,hG⟩;have hfr:¬K'.live nx':=fun hh=>Qq _ (hlv nx' hh).1;have aAR:(h.set n (.arr k es)) n=some (.arr k es):=by simp[Kc]
 obtain⟨K'',q1,q2,q3,q4,q5⟩:=uU aAS aAR hfr hb hvr;have hh:(h.set n (.arr k es)).del n=h.del n:=by
  funext x;unfold Kc Kg;by_cases e1:x=n
  ·simp[e1]
  simp[e1]
 rw[hh] at q5;refine⟨K'',_,cv,_,nx'+1,q1,he,hle.trans q2,q4,q5,fun m hm=>?_,or,_,rfl,rfl,hG⟩;rcases q3 m hm with hm|rfl
 ·exact⟨by have:=(hlv m hm).1;omega,(hlv m hm).2⟩
 exact⟨or, .inr hnx⟩
theorem Rel.aM7{K:Ker}{h:Hp}(r:Rel K h){n:Nat}{b0 b1:Blk}(hn:h n=some b0)(hb:BR K n b1):Rel K (h.set n b1) where
 lt m b e:=by
  unfold Kc at e;split at e
  ·rename_i em;subst em;exact r.lt m b0 hn
  exact r.lt m b e
 base m b e:=by
  unfold Kc at e;split at e
  ·rename_i em;subst em;exact r.base m b0 hn
  exact r.base m b e
 blk m b e:=by
  unfold Kc at e;split at e
  ·rename_i em;subst em;injection e with e;subst e;exact hb
  exact r.blk m b e
 inj m m' b b' e e' em:=by
  unfold Kc at e e';split at e<;>split at e'
  ·rename_i e1 e2;rw[e1,e2]
  ·rename_i e1 _;subst e1;exact r.inj m m' b0 b' hn e' em
  ·rename_i _ e2;subst e2;exact r.inj m m' b b0 e hn em
  exact r.inj m m' b b' e e' em
 size:=r.size
theorem ss{K:Ker}{h:Hp}(hr:Rel K h){O m a i:Nat}{k:Sh}{es ls:List V}{off len:Nat}(hO:h O=some (.arr .leaf es))(hi:i<es.length)(he:es[i]= .rs m k off len)(hm:h m=some (.arr k ls))(hne:O≠m)(ha:¬K.live a)(hb0:off+len≤ls.length):
 ∃K',K'.w=K.w∧K.le K'∧(∀x,K'.live x→K.live x∨x=a)∧Rel K' ((h.del m).set O (.arr .leaf (es.set i (.sl k .free ((ls.drop off).take len))))):=by
 have hb:=hr.blk O _ hO;cases hb with
 |arr _ _ c T hh hcs aBC aAH hcv=>
  have hg:es.getD i Kb= .rs m k off len:=by rw[Kd,KJ hi];exact he
  have h0:=hcv i hi 0 (by simp[Sh.size]);rw[hg] at h0;have hv:VR K (.rs m k off len) (c.getD (i*Sh.leaf.size+0) KQ):=h0;obtain⟨K',q1,q2,q3,q4,q5⟩:=uU hr hm ha hb0 hv;refine⟨K',q1,q2,q3,?_⟩;have hO':(h.del m) O=some (.arr .leaf es):=by unfold Kg;rw[if_neg hne];exact hO
  have hmu:K'.mu O=K.mu O:=q2.mu O (hr.lt O _ hO);have hb':=q5.blk O _ hO';have aHn:K'.imm (K'.mu O)=0:=by
   cases hb' with
   |arr _ _ c' T' hh' aWY aHn aBE aWX=>exact aHn
  refine q5.aM7 hO' (.arr .leaf _ c T (by rw[hmu,q1];exact hh) (by simpa using hcs) aHn ?_ ?_)
  ·intro e hx;rcases List.mem_or_eq_of_mem_set hx with hx|rfl
   ·exact aAH e hx
   rfl
  intro j hj x hx;have hj':j<es.length:=by simpa using hj
  by_cases e:j=i
  ·subst e;have hx0:x=0:=by simp[Sh.size] at hx;exact hx
   subst hx0;rw[Kd,List.getElem?_set_self hi];exact q4
  have:(es.set i (.sl k .free ((ls.drop off).take len))).getD j Kb=es.getD j Kb:=by
   rw[Kd,Kd,KE or]
  rw[this];exact(hcv j hj' x hx).mono q2
def tG(k:Sh)(m:Nat)(l:List V):V:=if l.isEmpty=true then .sl k .nil [] else .rs m k 0 l.length
structure yQ(h:Hp)(O:Nat)(k:Sh)(ν:Nat→Nat)(ls:List (List V))(j:Nat)(es:List V):Prop where
 blk:h O=some (.arr .leaf es)
 len:es.length=ls.length
 old:∀i (hi:i<ls.length) (hi':i<es.length),i<j→es[i]=lst k ls[i]
 new:∀i (hi:i<ls.length) (hi':i<es.length),j≤i→es[i]=tG k (ν i) ls[i]
 mem:∀i (hi:i<ls.length),j≤i→ls[i]≠ []→h (ν i)=some (.arr k ls[i])∧ν i≠O
 apart:∀i i' (hi:i<ls.length) (hi':i'<ls.length),j≤i→i<i'→ls[i]≠ []→ls[i']≠ []→ν i≠ν i'
theorem rI{k:Sh}{O:Nat}{ν:Nat→Nat}{ls:List (List V)}:∀(r j:Nat) (K:Ker) (h:Hp) (es:List V) (b:Nat),r+j=ls.length→Rel K h→yQ h O k ν ls j es→(∀x,K.live x→x<b)→
 ∃K' h2,K'.w=K.w∧K.le K'∧(∀x,K'.live x→x<b+r∧(K.live x∨b≤x))∧Rel K' h2∧h2 O=some (.arr .leaf (ls.map (lst k)))∧∀x,x≠O→(∀i (hi:i<ls.length),ls[i]≠ []→x≠ν i)→h2 x=h x
 |0,j,K,h,es,b,hj,hr,R,hb=>by
  refine⟨K,h,rfl, .refl K,fun x hx=>⟨hb x hx, .inl hx⟩,hr,?_,fun _ _ _=>rfl⟩;rw[R.blk];congr 2;refine List.ext_getElem (by simpa using R.len) fun i h1 h2=>?_;have hi:i<ls.length:=by simpa using h2
  rw[R.old i hi h1 or];simp
 |r+1,j,K,h,es,b,hj,hr,R,hb=>by
  have hjl:j<ls.length:=or;have hje:j<es.length:=by rw[R.len];exact hjl
  have aAJ:=R.new j hjl hje (Km _);by_cases aBx:ls[j]=[]
  ·--nothing is to be done
   have R':yQ h O k ν ls (j+1) es:=by
    refine⟨R.blk,R.len,fun i hi hi' hij=>?_,fun i hi hi' hij=>R.new i hi hi' or,fun i hi hij=>R.mem i hi or,fun i i' hi hi' hij=>R.apart i i' hi hi' or⟩;by_cases e:i=j
    ·subst e;rw[aAJ,aBx];rfl
    exact R.old i hi hi' or
   obtain⟨K',h2,q1,q2,q3,q4,q5,q6⟩:=rI r (j+1) K h es b or hr R' hb;exact⟨K',h2,q1,q2,fun x hx=>⟨by have:=(q3 x hx).1;omega,(q3 x hx).2⟩,q4,q5,q6⟩
  have hc:es[j]= .rs (ν j) k 0 ls[j].length:=by
   rw[aAJ];unfold tG;cases e:ls[j] with
   |nil=>exact absurd e aBx
   |cons=>rfl
  obtain⟨hm,hmo⟩:=R.mem j hjl (Km _) aBx;obtain⟨K1,q1,q2,q3,q4⟩:=ss hr R.blk hje hc hm (fun e=>hmo e.symm) (fun hl=>Qq _ (hb b hl)) Zm;have hfz:(.sl k .free ((ls[j].drop 0).take ls[j].length):V)=lst k ls[j]:=by
   simp only[KB,Kp];cases e:ls[j] with
   |nil=>exact absurd e aBx
   |cons=>rfl
  rw[hfz] at q4;have aAR:∀x,x≠O→x≠ν j→((h.del (ν j)).set O (.arr .leaf (es.set j (lst k ls[j])))) x=h x:=fun x h1 h2=>by
   unfold Kc Kg;rw[if_neg h1,if_neg h2]
  have R':yQ ((h.del (ν j)).set O (.arr .leaf (es.set j (lst k ls[j])))) O k ν ls (j+1) (es.set j (lst k ls[j])):=by
   refine⟨by unfold Kc;rw[if_pos rfl],by simpa using R.len,fun i hi hi' hij=>?_,fun i hi hi' hij=>?_,fun i hi hij hne=>?_,fun i i' hi hi' hij=>R.apart i i' hi hi' or⟩
   ·by_cases e:i=j
    ·subst e;simp
    rw[Qr or];exact R.old i hi _ or
   ·rw[Qr or];exact R.new i hi _ or
   obtain⟨k1,k2⟩:=R.mem i hi or hne;exact⟨(aAR _ k2 fun e=>R.apart j i hjl hi (Km _) or aBx hne e.symm).trans k1,k2⟩
  obtain⟨K',h2,p1,p2,p3,p4,p5,p6⟩:=rI r (j+1) K1 _ _ (b+1) or q4 R' (fun x hx=>by
   rcases q3 x hx with h|h
   ·have:=hb x h;omega
   omega)
  refine⟨K',h2,p1.trans q1,q2.trans p2,fun x hx=>⟨by have:=(p3 x hx).1;omega,?_⟩,p4,p5,fun x h1 h2'=>(p6 x h1 h2').trans (aAR x h1 (h2' j hjl aBx))⟩;rcases(p3 x hx).2 with h|h
  ·rcases q3 x h with h|h
   ·exact .inl h
   exact .inr or
  exact .inr or
theorem mZ{P:Program}{f:FuncId}{args:List V}{h:Hp}{nx:Nat}{k:Sh}{G:List (List V)→Prop}
 (c:bD P f args h nx fun v h' _=>∃O ν ls es,v= .rs O .leaf 0 ls.length∧nx≤O∧(∀i (hi:i<ls.length),ls[i]≠ []→nx≤ν i)∧yQ h' O k ν ls 0 es∧(∀x,x<nx→h' x=h x)∧G ls):
 bD P f args h nx fun v h' _=>∃ls,v= .sl .leaf .free (ls.map (lst k))∧h'=h∧G ls:=by
 refine⟨c.1,fun K aAK hl hr hv=>(c.2 K aAK hl hr hv).mono ?_⟩;rintro e w' ⟨K',v,cv,h',nx',rfl,he,hle,hvr,aAS,hlv,hnx,O,ν,ls,es,rfl,hO,hν,R,hold,hG⟩;obtain⟨K1,h2,p1,p2,p3,p4,p5,p6⟩:=rI ls.length 0 K' h' es nx' or aAS R (fun x hx=>(hlv x hx).1);have aTi:=hvr.mono p2;obtain⟨K2,q1,q2,q3,q4,q5⟩:=uU p4 p5 (a:=nx'+ls.length) (fun hl=>by have:=(p3 _ hl).1;omega) Zm aTi;have hsl:(((ls.map (lst k)).drop 0).take ls.length)=ls.map (lst k):=by
  rw[KB,Qe Zm]
 rw[hsl] at q4;refine⟨K2,_,cv,h,nx'+ls.length+1,q1.trans p1,he,hle.trans (p2.trans q2),q4,q5.weaken fun m b hm=>?_,fun x hx=>?_,or,ls,rfl,rfl,hG⟩
 ·have hmn:m<nx:=hl m (hr.lt m b hm);unfold Kg;rw[if_neg or,p6 m or (fun i hi hne=>by have:=hν i hi hne;omega),hold m hmn];exact hm
 rcases q3 x hx with h|h
 ·have h1:=p3 x h;refine⟨or,?_⟩;rcases h1.2 with h2|h2
  ·exact(hlv x h2).2
  exact .inr or
 exact⟨or, .inr or⟩
theorem Co{P:Program}{f:FuncId}{args:List V}{h:Hp}{c:Option Con}{v:Nat→V}{k:Sh}{es:List V}(hm:Cf v)(hv:∀L,bP L es)(hvn:∀(L:Nat→Prop) n,L n→(v n).names L)
 (aJb:∀c',c=some c'→c'.new=none∧(∃k es,c'.old= .arr k es)∧h c'.n=some c'.old) (hc:∀h' nx,h.has h'→bD P f args h' nx fun v' h'' _=>∃id,nx≤id∧v'=v id∧h''=(h'.aBO c).set id (.arr k es)):AV P f args h c v k es:=by
 refine⟨hm,hv,aJb,?_⟩;intro h' nx hh;have cc:=hc h' nx hh;refine⟨cc.1,fun K aAK hlv aAS aDF=>(cc.2 K aAK hlv aAS aDF).mono ?_⟩;rintro e w' ⟨K',v',cv,h'',nx',rfl,he,hle,hvr,aA3,aEa,hnx,id,hid,rfl,rfl⟩;have aBb:∀n b,h' n=some b→n<nx:=fun n b e=>hlv n (aAS.lt n b e);have aM2:(h'.aBO c).le h':=fun n b e=>by
  cases c with
  |none=>exact e
  |some c'=>
   have:=(aJb c' rfl).1;simp only[Hp.aBO,this,Kg] at e;split at e
   ·cases e
   exact e
 generalize h'.aBO c=h1 at aM2 aA3;have aAR:(h1.set id (.arr k es)) id=some (.arr k es):=by simp[Kc]
 have aF2:∀n b,n≠id→(h1.set id (.arr k es)) n=some b→h' n=some b:=fun n b hne e=>by
  unfold Kc at e;rw[if_neg hne] at e;exact aM2 n b e
 have aA9:K.le (K'.only fun n=>(K'.live n∧n<nx)∨n=id):=⟨fun n hn=> .inl ⟨hle.live n hn,hlv n hn⟩,hle.mu,hle.tp,hle.fro,hle.imm,hle.cell,hle.shape,hle.below⟩;have aT9:K'.live id:=aA3.lt id _ aAR;have aCA:Rel (K'.only fun n=>(K'.live n∧n<nx)∨n=id) (h1.set id (.arr k es)):=by
  refine⟨fun n b e=>?_,aA3.base,fun n b e=>?_,aA3.inj,aA3.size⟩
  ·by_cases hne:n=id
   ·exact .inr hne
   have e':=aF2 n b hne e;exact .inl ⟨hle.live n (aAS.lt n b e'),aBb n b e'⟩
  have hb':=aA3.blk n b e;cases hb' with
  |tip c T hh hi ht=>exact .tip c T hh hi ht
  |obj o U hh ho _ hU=>
   have hne:n≠id:=by rintro rfl;rw[aAR] at e;cases e
   have hb:=aAS.blk n _ (aF2 n _ hne e);cases hb with
   |obj _ _ _ _ hu _=>exact .obj o U hh ho (hU _ _ aA9.toV hu) hU
  |mp es c ces hh hl hvv=>
   have hne:n≠id:=by rintro rfl;rw[aAR] at e;cases e
   have hb:=aAS.blk n _ (aF2 n _ hne e);cases hb with
   |mp _ _ aMn hh0 hl0 hv0=>exact .mp es c ces hh hl fun i hi=>⟨(hvv i hi).1.only _ (cN (fun m hm=> .inl ⟨hle.live m hm,hlv m hm⟩) (hv0 i hi).1.names),(hvv i hi).2.1.only _ (cN (fun m hm=> .inl ⟨hle.live m hm,hlv m hm⟩) (hv0 i hi).2.1.names),(hvv i hi).2.2⟩
  |mit m since seen last hh hm=>
   have hne:n≠id:=by rintro rfl;rw[aAR] at e;cases e
   have hb:=aAS.blk n _ (aF2 n _ hne e);cases hb with
   |mit _ _ _ _ hh0 hm0=>exact .mit m since seen last hh (.inl ⟨hle.live m hm0,hlv m hm0⟩)
  |arr k2 es2 c T hh hsz hi aAH hvs=>
   by_cases hne:n=id
   ·subst hne;rw[aAR] at e;injection e with e;injection e with e1 e2;subst e1 e2;exact .arr k es c T hh hsz hi aAH fun i hi j hj=>(hvs i hi j hj).only _ (mO (eP (hv _) i) j)
   refine .arr k2 es2 c T hh hsz hi aAH fun i hi j hj=>(hvs i hi j hj).only _ ?_;have hb:=aAS.blk n _ (aF2 n _ hne e);cases hb with
   |arr _ _ c0 T0 hh0 aJG hi0 aEe aET=>exact cN (fun m hm=> .inl ⟨hle.live m hm,hlv m hm⟩) (aET i hi j hj).names
 have aHT:VR (K'.only fun n=>(K'.live n∧n<nx)∨n=id) (v id) cv:=hvr.only _ (hvn _ _ (.inr rfl));by_cases aC1:id=nx
 ·subst aC1;refine⟨K'.only fun n=>(K'.live n∧n<id)∨n=id,_,cv,_,id+1,rfl,he,aA9,aHT,aCA,fun n hn=>?_,or,rfl,rfl,rfl⟩;rcases hn with hn|hn
  ·exact⟨or,(aEa n hn.1).2⟩
  exact⟨or, .inr or⟩
 have hfr:¬((K'.live nx∧nx<nx)∨nx=id):=fun h=>h.elim (fun h=>Qq _ h.2) (fun h=>aC1 h.symm);generalize hKA:(K'.only fun n=>(K'.live n∧n<nx)∨n=id)=KA at aA9 aCA aHT;have aIw:¬KA.live nx:=by rw[←hKA];exact hfr
 have hbr:=aCA.blk id _ aAR;have aA4:=KA.aAf (b:=KA.mu id) (m:=KA.imm (KA.mu id)) aIw (Km _);have aBf:=aCA.aAG aAR (a:=nx) (m:=KA.imm (KA.mu id)) aIw (Km _) (b1:= .arr k es) (by
  cases hbr with
  |arr _ _ c T hh hsz hi aAH hvs=>exact .arr k es c T (by simpa [Ker.aAG] using hh) hsz (by simpa [Ker.aAG] using hi) aAH fun i hi j hj=>(hvs i hi j hj).mono aA4)
 have hn0:h1 id=none:=by
  cases e:h1 id with
  |none=>rfl
  |some b=>have:=aBb id b (aM2 id b e);omega
 have aDu:((h1.set id (.arr k es)).del id).set nx (.arr k es)=h1.set nx (.arr k es):=by
  funext x;unfold Kc Kg;by_cases e1:x=nx
  ·simp[e1]
  by_cases e2:x=id
  ·simp[e1,e2,hn0]
  simp[e1,e2]
 rw[aDu] at aBf;have aTg:=hm KA id nx cv (fun n=>(K'.live n∧n<nx)∨n=nx) aIw (.inr rfl) aHT;have aJW:K.le ((KA.aAG nx (KA.mu id) (KA.imm (KA.mu id))).only fun n=>(K'.live n∧n<nx)∨n=nx):=by
  have:=aA9.trans aA4;exact⟨fun n hn=> .inl ⟨hle.live n hn,hlv n hn⟩,this.mu,this.tp,this.fro,this.imm,this.cell,this.shape,this.below⟩
 have aEY:∀n b,n≠nx→(h1.set nx (.arr k es)) n=some b→h' n=some b:=fun n b hne e=>by
  unfold Kc at e;rw[if_neg hne] at e;exact aM2 n b e
 have aFz:(h1.set nx (.arr k es)) nx=some (.arr k es):=by simp[Kc]
 refine⟨(KA.aAG nx (KA.mu id) (KA.imm (KA.mu id))).only fun n=>(K'.live n∧n<nx)∨n=nx,_,cv,_,nx+1,?_,he,aJW,aTg,?_,fun n hn=>?_,or,rfl,rfl,rfl⟩
 ·rw[←hKA];rfl
 ·refine⟨fun n b e=>?_,aBf.base,fun n b e=>?_,aBf.inj,aBf.size⟩
  ·by_cases hne:n=nx
   ·exact .inr hne
   have e':=aEY n b hne e;exact .inl ⟨hle.live n (aAS.lt n b e'),aBb n b e'⟩
  have hb':=aBf.blk n b e;cases hb' with
  |tip c T hh hi ht=>exact .tip c T hh hi ht
  |obj o U hh ho _ hU=>
   have hne:n≠nx:=by rintro rfl;rw[aFz] at e;cases e
   have hb:=aAS.blk n _ (aEY n _ hne e);cases hb with
   |obj _ _ _ _ hu _=>exact .obj o U hh ho (hU _ _ aJW.toV hu) hU
  |mp es c ces hh hl hvv=>
   have hne:n≠nx:=by rintro rfl;rw[aFz] at e;cases e
   have hb:=aAS.blk n _ (aEY n _ hne e);cases hb with
   |mp _ _ aMn hh0 hl0 hv0=>exact .mp es c ces hh hl fun i hi=>⟨(hvv i hi).1.only _ (cN (fun m hm=> .inl ⟨hle.live m hm,hlv m hm⟩) (hv0 i hi).1.names),(hvv i hi).2.1.only _ (cN (fun m hm=> .inl ⟨hle.live m hm,hlv m hm⟩) (hv0 i hi).2.1.names),(hvv i hi).2.2⟩
  |mit m since seen last hh hm=>
   have hne:n≠nx:=by rintro rfl;rw[aFz] at e;cases e
   have hb:=aAS.blk n _ (aEY n _ hne e);cases hb with
   |mit _ _ _ _ hh0 hm0=>exact .mit m since seen last hh (.inl ⟨hle.live m hm0,hlv m hm0⟩)
  |arr k2 es2 c T hh hsz hi aAH hvs=>
   by_cases hne:n=nx
   ·subst hne;rw[aFz] at e;injection e with e;injection e with e1 e2;subst e1 e2;exact .arr k es c T hh hsz hi aAH fun i hi j hj=>(hvs i hi j hj).only _ (mO (eP (hv _) i) j)
   refine .arr k2 es2 c T hh hsz hi aAH fun i hi j hj=>(hvs i hi j hj).only _ ?_;have hb:=aAS.blk n _ (aEY n _ hne e);cases hb with
   |arr _ _ c0 T0 hh0 aJG hi0 aEe aET=>exact cN (fun m hm=> .inl ⟨hle.live m hm,hlv m hm⟩) (aET i hi j hj).names
 rcases hn with hn|hn
 ·exact⟨or,(aEa n hn.1).2⟩
 exact⟨or, .inr or⟩
theorem Ag(k:Sh)(len:Nat)(b:Bool):Cf fun a=> .tup [.rs a k 0 len, .bool b]:=by
 intro K a a' cv L ha hL hvr;cases hvr with
 |tup cs ccs hl hv=>
  refine .tup _ ccs (by simpa using hl) fun i hi=>?_;have hi2:i=0∨i=1:=by simp at hi;omega
  rcases hi2 with rfl|rfl
  ·have h0:VR K (.rs a k 0 len) (ccs.getD 0 KQ):=hv 0 Zm;show VR _ (.rs a' k 0 len) (ccs.getD 0 KQ);generalize ccs.getD 0 KQ=x at h0;cases h0 with
   |rs _ _ _ _ cap hl aAW hsh=>
    have hmu:((K.aAG a' (K.mu a) (K.imm (K.mu a))).only L).mu a'=K.mu a:=by simp[Ker.aAG,Ker.only]
    have:=VR.rs (K:=(K.aAG a' (K.mu a) (K.imm (K.mu a))).only L) a' k 0 len cap hL aAW (by rw[hmu];exact hsh);rw[hmu] at this;exact this
  have h1:VR K (.bool b) (ccs.getD 1 KQ):=hv 1 Zm;show VR _ (.bool b) (ccs.getD 1 KQ);generalize ccs.getD 1 KQ=x at h1;cases h1;exact .bool b
end Go.Proofs.YtecepaehmojpgaaGreat
namespace Go.Proofs.YtecepaehmojpgaaGreat
inductive fF{α:Type}(E:α→α→Prop):α→α→Prop where
 |one {a b:α}:E a b→fF E a b
 |cons {a b c:α}:E a b→fF E b c→fF E a c
namespace fF
variable{α:Type}{E F:α→α→Prop}
theorem trans{a b c:α}(h:fF E a b)(k:fF E b c):fF E a c:=by
 induction h with
 |one e=>exact .cons e k
 |cons e _ ih=>exact .cons e (ih k)
theorem snoc{a b c:α}(h:fF E a b)(e:E b c):fF E a c:=h.trans (.one e)
theorem mono(hs:∀a b,E a b→F a b){a b:α}(h:fF E a b):fF F a b:=by
 induction h with
 |one e=>exact .one (hs _ _ e)
 |cons e _ ih=>exact .cons (hs _ _ e) ih
theorem last{a b:α}(h:fF E a b):∃c,E c b∧(c=a∨fF E a c):=by
 induction h with
 |one e=>exact⟨_,e, .inl rfl⟩
 |cons e k ih=>
  obtain⟨c,hc,hh⟩:=ih;rcases hh with rfl|hh
  ·exact⟨_,hc, .inr (.one e)⟩
  exact⟨c,hc, .inr (.cons e hh)⟩
theorem closed{S:α→Prop}(hS:∀a b,S a→E a b→S b){a b:α}(h:fF E a b)(ha:S a):S b:=by
 induction h with
 |one e=>exact hS _ _ ha e
 |cons e _ ih=>exact ih (hS _ _ ha e)
end fF
theorem lI:∀(n:Nat) (l:List Nat),l.Nodup→(∀x∈l,x<n)→l.length≤n
 |0,l,_,h=>by
  cases l with
  |nil=>exact Km _
  |cons x l=>exact absurd (h x Zm) or
 |n+1,l,hn,h=>by
  have h1:=lI n (l.filter (fun x=>x≠n)) (hn.filter _) (fun x hx=>by
   simp only[Kk,decide_eq_true_eq,ne_eq,decide_not,KO,decide_eq_false_iff_not] at hx;have:=h x hx.1;omega)
  have h2:l.length≤(l.filter (fun x=>x≠n)).length+1:=by
   clear h h1;induction l with
   |nil=>simp
   |cons x l ih=>
    rw[Kz] at hn;by_cases e:x=n
    ·subst e;have:l.filter (fun y=>y≠x)=l:=KY.2 (fun y hy=>by
      simp only[ne_eq,decide_not,KO,decide_eq_false_iff_not];rintro rfl;exact hn.1 hy)
     simp only[ne_eq,decide_not] at this;simp[this]
    have:=ih hn.2;simp[e];simpa using this
  omega
theorem Ac{n:Nat}{l:List Nat}(hn:l.Nodup)(h:∀x∈l,x<n)(hl:n≤l.length)(x:Nat)(hx:x<n):x∈l:=by
 refine Decidable.byContradiction fun hm=>?_;have:=lI n (x::l) (Kz.2 ⟨hm,hn⟩) (fun y hy=>by
  rcases Kf.1 hy with rfl|hy
  ·exact hx
  exact h y hy)
 simp at this;omega
theorem mi{n:Nat}{E:Nat→Nat→Prop}{S:Nat→Prop}(hS:∀x,S x→x<n∧∃y,S y∧E y x)(x:Nat)(hx:S x):∃y,fF E y y:=by
 --a walk back of any length
 have walk:∀m:Nat,∃l:List Nat,l.length=m+1∧(∀y∈l,S y)∧l.Pairwise (fun a b=>fF E b a):=by
  --the head is the last one gone to
  have aM4:∀m:Nat,∃(y:Nat) (l:List Nat),l.length=m∧S y∧(∀z∈l,S z∧fF E y z)∧l.Pairwise (fun a b=>fF E a b):=by
   intro m;induction m with
   |zero=>exact⟨x,[],rfl,hx,Zm,Zm⟩
   |succ m ih=>
    obtain⟨y,l,hl,hy,aAu,hp⟩:=ih;obtain⟨_,z,hz,he⟩:=hS y hy;refine⟨z,y::l,by simp[hl],hz,?_,?_⟩
    ·intro u hu;rcases Kf.1 hu with rfl|hu
     ·exact⟨hy, .one he⟩
     exact⟨(aAu u hu).1, .cons he (aAu u hu).2⟩
    exact Kh.2 ⟨fun u hu=>(aAu u hu).2,hp⟩
  intro m;obtain⟨y,l,hl,hy,aAu,hp⟩:=aM4 m;refine⟨(y::l).reverse,by simp[hl],?_,?_⟩
  ·intro z hz;rcases Kf.1 (List.mem_reverse.1 hz) with rfl|hz
   ·exact hy
   exact(aAu z hz).1
  rw[List.pairwise_reverse];exact Kh.2 ⟨fun u hu=>(aAu u hu).2,hp⟩
 obtain⟨l,hl,aAu,hp⟩:=walk n;refine Ks fun hno=>?_;have hnd:l.Nodup:=hp.imp (fun{a b} h=>by
  rintro rfl;exact hno ⟨a,h⟩)
 have:=lI n l hnd (fun y hy=>(hS y (aAu y hy)).1);omega
structure oi(n:Nat)(E:List (Nat×Nat))(i:Nat)(bW:List Int)(row:List Nat):Prop where
 len:bW.length=n
 nd:row.Nodup
 lt:∀x∈row,x<n
 cnt:∀j,j<n→bW.getD j 0=((E.filter fun e=>decide (e.2=j)&& !((row.take i).contains e.1)).length:Int)
 iff:∀j,j<n→(j∈row↔bW.getD j 0=0)
 back:∀m (h:m<row.length),∀y,(y,row[m])∈E→y∈row.take m
theorem oi.done{n:Nat}{E:List (Nat×Nat)}{bW:List Int}{row:List Nat}(hE:∀e∈E,e.1<n∧e.2<n)(K:oi n E row.length bW row):
 (row.length<n)↔∃y,fF (fun a b=>(a,b)∈E) y y:=by
 constructor
 ·intro hlt;have hex:∃x,x<n∧x∉row:=by
   refine Ks fun hno=>?_;have aAu:∀x,x<n→x∈row:=fun x hx=>Ks fun h=>hno ⟨x,hx,h⟩;have:=lI row.length (KR n) Qd (fun x hx=>?_)
   ·simp at this;omega
   exact absurd (lI n (KR n) Qd Zm) (by
    have aJH:(KR n).length≤row.length:=(Qd (n:=n)).length_le_of_subset (fun x hx=>aAu x (by simpa using hx));simp at aJH;omega)
  obtain⟨x,hx,hnx⟩:=hex;refine mi (n:=n) (S:=fun x=>x<n∧x∉row) (fun x hS=>⟨hS.1,?_⟩) x ⟨hx,hnx⟩;have h0:bW.getD x 0≠0:=fun h=>hS.2 ((K.iff x hS.1).2 h);rw[K.cnt x hS.1,Kp] at h0;have hne:(E.filter fun e=>decide (e.2=x)&& !(row.contains e.1))≠ []:=fun h=>h0 (by rw[h];rfl);obtain⟨e,he⟩:=List.exists_mem_of_ne_nil _ hne;obtain⟨h1,h2⟩:=Kk.1 he;simp only[KU,decide_eq_true_eq,KO,Ko,decide_eq_false_iff_not] at h2;refine⟨e.1,⟨(hE e h1).1,h2.2⟩,?_⟩;have:e=(e.1,x):=by rw[←h2.1]
  rw[←this];exact h1
 rintro⟨y,hy⟩;refine Ks fun hge=>?_;have hle:n≤row.length:=or;have aAu:=Ac K.nd K.lt hle
 --no place of a ring stands in the row
 have key:∀(m:Nat) (h:m<row.length),¬fF (fun a b=>(a,b)∈E) row[m] row[m]:=by
  intro m;induction m using Nat.strongRecOn with
  |ind m ih=>
   intro h hr;obtain⟨c,hc,hcy⟩:=hr.last;have hb:=K.back m h c hc;obtain⟨k,hk,hkc⟩:=KZ hb;have hk':k<m:=by simp at hk;omega
   have e:row[k]'or=c:=by rw[←hkc];simp
   have aNJ:fF (fun a b=>(a,b)∈E) c c:=by
    rcases hcy with rfl|hcy
    ·exact .one hc
    exact .cons hc hcy
   exact ih k hk' or (by rw[e];exact aNJ)
 have hlt:y<n:=by
  obtain⟨c,hc,_⟩:=hy.last;exact(hE _ hc).2
 obtain⟨m,hm,hmy⟩:=KZ (aAu y hlt);exact key m hm (by rw[hmy];exact hy)
structure KIn(n:Nat)(E D R:List (Nat×Nat))(i k:Nat)(bW:List Int)(row:List Nat):Prop where
 eq:E=D++R
 hk:row[i]?=some k
 len:bW.length=n
 nd:row.Nodup
 lt:∀x∈row,x<n
 cnt:∀j,j<n→bW.getD j 0+((D.filter fun e=>decide (e.2=j)&&decide (e.1=k)).length:Int)=((E.filter fun e=>decide (e.2=j)&& !((row.take i).contains e.1)).length:Int)
 iff:∀j,j<n→(j∈row↔bW.getD j 0=0)
 back:∀m (h:m<row.length),∀y,(y,row[m])∈E→y∈row.take m
theorem oi.start{n:Nat}{E:List (Nat×Nat)}{i k:Nat}{bW:List Int}{row:List Nat}(K:oi n E i bW row)(hk:row[i]?=some k):KIn n E [] E i k bW row:=
 ⟨rfl,hk,K.len,K.nd,K.lt,fun j hj=>by simpa using K.cnt j hj,K.iff,K.back⟩
theorem b6{row:List Nat}{i k:Nat}(hn:row.Nodup)(hk:row[i]?=some k):k∉row.take i:=by
 intro h;obtain⟨m,hm,e⟩:=KZ h;obtain⟨hi,e2⟩:=KH.1 hk;have hm':m<i∧m<row.length:=by simp at hm;omega
 rw[List.getElem_take] at e;have hp:=Qa.1 hn m i hm'.2 hi hm'.1;exact hp (e.trans e2.symm)
theorem l6{row:List Nat}{i k:Nat}(hk:row[i]?=some k):row.take (i+1)=row.take i++[k]:=by
 obtain⟨hi,e2⟩:=KH.1 hk;rw[Ke hi,e2]
theorem KIn.finish{n:Nat}{E:List (Nat×Nat)}{i k:Nat}{bW:List Int}{row:List Nat}(K:KIn n E E [] i k bW row):oi n E (i+1) bW row:=by
 refine⟨K.len,K.nd,K.lt,fun j hj=>?_,K.iff,K.back⟩;have h:=K.cnt j hj;have hnk:=b6 K.nd K.hk;have key:∀l:List (Nat×Nat),((l.filter fun e=>decide (e.2=j)&& !((row.take i).contains e.1)).length:Int)=((l.filter fun e=>decide (e.2=j)&&decide (e.1=k)).length:Int)+((l.filter fun e=>decide (e.2=j)&& !((row.take (i+1)).contains e.1)).length:Int):=by
  intro l;rw[l6 K.hk];induction l with
  |nil=>simp
  |cons e l ih=>
   simp only[Kx,Ko,Ki,Kv] at ih⊢;by_cases h1:e.2=j
   ·by_cases h2:e.1=k
    ·simp only[h1,h2,hnk,Ko,decide_true,decide_false,KC,KV,if_true,Ku,Ki,Kv,or_true,KG,KD,Kj,if_false];omega
    by_cases h3:e.1∈row.take i
    ·simp only[h1,h2,h3,Ko,decide_true,decide_false,KC,KV,if_true,Ku,Ki,Kv,true_or,KG,KD,Kj,if_false];omega
    simp only[h1,h2,h3,Ko,decide_true,decide_false,KC,KV,if_true,Ku,Ki,Kv,or_self,KG,KD,Kj,if_false];omega
   simp only[h1,decide_false,Qi,Kj,if_false];exact ih
 have:=key E;omega
theorem KIn.other{n:Nat}{E D R:List (Nat×Nat)}{i k:Nat}{bW:List Int}{row:List Nat}{e:Nat×Nat}(K:KIn n E D (e::R) i k bW row)(he:e.1≠k):KIn n E (D++[e]) R i k bW row:=
 ⟨by rw[K.eq];simp,K.hk,K.len,K.nd,K.lt,fun j hj=>by rw[Kt];simpa [he] using K.cnt j hj,K.iff,K.back⟩
theorem sh(l:List Int)(i j:Nat)(v:Int)(h:i<l.length):(l.set i v).getD j 0=if j=i then v else l.getD j 0:=by
 rw[Kd,Kd];by_cases e:j=i
 ·subst e;simp[h]
 rw[KE or];simp[e]
theorem KIn.one{n:Nat}{E D R:List (Nat×Nat)}{i k x:Nat}{bW:List Int}{row:List Nat}(K:KIn n E D ((k,x)::R) i k bW row)(hx:x<n):
 1≤bW.getD x 0∧KIn n E (D++[(k,x)]) R i k (bW.set x (bW.getD x 0-1)) (if bW.getD x 0-1=0 then row++[x] else row):=by
 obtain⟨hi,hik⟩:=KH.1 K.hk;have hnk:=b6 K.nd K.hk;have hcx:=K.cnt x hx
 --ways to x from k are among those that count
 have sub:∀l:List (Nat×Nat),((l.filter fun e=>decide (e.2=x)&&decide (e.1=k)).length:Int)≤((l.filter fun e=>decide (e.2=x)&& !((row.take i).contains e.1)).length:Int):=by
  intro l;induction l with
  |nil=>simp
  |cons e l ih=>
   simp only[Kx,Ko,Ki,Kv] at ih⊢;by_cases h1:e.2=x
   ·by_cases h2:e.1=k
    ·simp only[h1,h2,hnk,Ko,decide_true,decide_false,KC,KV,if_true,Ku];omega
    simp only[h1,h2,decide_true,decide_false,KD,Kj,if_false,Ql];split<;>(try simp only[Ku])<;>omega
   simp only[h1,decide_false,Qi,Kj,if_false];exact ih
 have s1:=sub E;have s2:((E.filter fun e=>decide (e.2=x)&&decide (e.1=k)).length:Int)=((D.filter fun e=>decide (e.2=x)&&decide (e.1=k)).length:Int)+1+((R.filter fun e=>decide (e.2=x)&&decide (e.1=k)).length:Int):=by
  rw[K.eq,Kt,Kx];simp;omega
 have hge:1≤bW.getD x 0:=or;refine⟨hge,?_⟩;have hxr:x∉row:=fun h=>by have:=(K.iff x hx).1 h;omega
 have aAR:∀j,(bW.set x (bW.getD x 0-1)).getD j 0=if j=x then bW.getD x 0-1 else bW.getD j 0:=fun j=>sh _ _ _ _ (by rw[K.len];exact hx)
 have aFq:∀aM5:List Nat,aM5.take i=row.take i→∀j,j<n→(bW.set x (bW.getD x 0-1)).getD j 0+(((D++[(k,x)]).filter fun e=>decide (e.2=j)&&decide (e.1=k)).length:Int)=((E.filter fun e=>decide (e.2=j)&& !((aM5.take i).contains e.1)).length:Int):=by
  intro aM5 hr j hj;rw[hr,aAR,←K.cnt j hj,Kt];by_cases e:j=x
  ·subst e;simp;omega
  have e':¬x=j:=fun h=>e h.symm;simp[e,e']
 split
 ·rename_i h0;have htk:(row++[x]).take i=row.take i:=by rw[Kw or]
  refine⟨by rw[K.eq];simp,by rw[List.getElem?_append_left hi];exact K.hk,by simp[K.len],?_,?_,aFq _ htk,?_,?_⟩
  ·exact QA.2 ⟨K.nd,Zm,fun a ha b hb=>by
    rintro rfl;simp at hb;subst hb;exact hxr ha⟩
  ·intro y hy;rcases Ki.1 hy with h|h
   ·exact K.lt y h
   simp at h;omega
  ·intro j hj;rw[aAR,Ki,Kv];by_cases e:j=x
   ·simp only[e,or_true,if_true,true_iff];exact h0
   simp only[e,or_false,if_false];exact K.iff j hj
  intro m hm y hy;by_cases hml:m<row.length
  ·rw[List.getElem_append_left hml] at hy;rw[Kw or];exact K.back m hml y hy
  have hme:m=row.length:=by simp at hm;omega
  subst hme;have hyx:(y,x)∈E:=by simpa using hy
  rw[Kw or,Kp]
  --all ways to x that count come from k
  refine Ks fun hny=>?_;have hyk:y≠k:=fun e=>hny (by rw[e,←hik];exact KF hi);have hyt:y∉row.take i:=fun h=>hny (Qj h);have strict:∀l:List (Nat×Nat),(y,x)∈l→((l.filter fun e=>decide (e.2=x)&&decide (e.1=k)).length:Int)+1≤((l.filter fun e=>decide (e.2=x)&& !((row.take i).contains e.1)).length:Int):=by
   intro l hl;obtain⟨a,b,hab⟩:=KK hl;subst hab;have aSz:∀l:List (Nat×Nat),((l.filter fun e=>decide (e.2=x)&&decide (e.1=k)).length:Int)≤((l.filter fun e=>decide (e.2=x)&& !((row.take i).contains e.1)).length:Int):=sub;have ha:=aSz a;have hb:=aSz b;rw[Kt,Kt,Kx,Kx];simp only[hyk,hyt,Ko,decide_true,decide_false,KC,KV,KD,Kj,if_false,if_true,Qy,Ku] at ha hb⊢;omega
  have:=strict E hyx;omega
 rename_i h0;refine⟨by rw[K.eq];simp,K.hk,by simp[K.len],K.nd,K.lt,aFq _ rfl,?_,K.back⟩;intro j hj;rw[aAR];by_cases e:j=x
 ·simp only[e,if_true,hxr,false_iff];exact h0
 simp only[e,if_false];exact K.iff j hj
theorem oi.first{n:Nat}{E:List (Nat×Nat)}{bW:List Int}(hl:bW.length=n)(hc:∀j,j<n→bW.getD j 0=((E.filter fun e=>decide (e.2=j)).length:Int)):
 oi n E 0 bW ((KR n).filter fun j=>decide (bW.getD j 0=0)):=by
 refine⟨hl,List.nodup_range.filter _,fun x hx=>by simpa using(Kk.1 hx).1,fun j hj=>by simpa using hc j hj,fun j hj=>by simp[hj],?_⟩;intro m hm y hy;exfalso;have aAp:((KR n).filter fun j=>decide (bW.getD j 0=0))[m]∈(KR n).filter fun j=>decide (bW.getD j 0=0):=KF hm;generalize ((KR n).filter fun j=>decide (bW.getD j 0=0))[m]=z at aAp hy;obtain⟨h1,h2⟩:=Kk.1 aAp;have h1':z<n:=by simpa using h1
 have h2':bW.getD z 0=0:=by simpa using h2
 rw[hc z h1'] at h2';have hne:(E.filter fun e=>decide (e.2=z))≠ []:=List.ne_nil_of_mem (Kk.2 ⟨hy,Zm⟩);have:=List.length_pos_iff.2 hne;omega
def Via(E:Nat→Nat→Prop):Nat→Nat→Nat→Prop
 |0,i,j=>E i j
 |k+1,i,j=>Via E k i j∨(Via E k i k∧Via E k k j)
theorem Via.up{E:Nat→Nat→Prop}:∀{k:Nat} {i j:Nat},E i j→Via E k i j
 |0,_,_,h=>h
 |_+1,_,_,h=> .inl (Via.up h)
theorem Via.sound{E:Nat→Nat→Prop}:∀(k:Nat) {i j:Nat},Via E k i j→fF E i j
 |0,_,_,h=> .one h
 |k+1,_,_,h=>by
  rcases h with h|⟨h1,h2⟩
  ·exact Via.sound k h
  exact(Via.sound k h1).trans (Via.sound k h2)
theorem Via.join{E:Nat→Nat→Prop}:∀(k:Nat) {i l j:Nat},l<k→Via E k i l→Via E k l j→Via E k i j
 |0,_,_,_,hl,_,_=>or
 |k+1,i,l,j,hl,h1,h2=>by
  by_cases e:l=k
  ·subst e;have a:Via E l i l:=by rcases h1 with h|⟨h,_⟩<;>exact h
   have b:Via E l l j:=by rcases h2 with h|⟨_,h⟩<;>exact h
   exact .inr ⟨a,b⟩
  have hl':l<k:=or;rcases h1 with h1|⟨h1,h1'⟩<;>rcases h2 with h2|⟨h2,h2'⟩
  ·exact .inl (Via.join k hl' h1 h2)
  ·exact .inr ⟨Via.join k hl' h1 h2,h2'⟩
  ·exact .inr ⟨h1,Via.join k hl' h1' h2⟩
  exact .inr ⟨h1,h2'⟩
theorem Via.iff{E:Nat→Nat→Prop}{n:Nat}(hE:∀i j,E i j→i<n∧j<n)(i j:Nat):Via E n i j↔fF E i j:=by
 constructor
 ·exact Via.sound n
 intro h;induction h with
 |one e=>exact Via.up e
 |cons e _ ih=>exact Via.join n (hE _ _ e).2 (Via.up e) ih
structure Bfs(n:Nat)(E:Nat→Nat→Prop)(a b:Nat)(seen:List Bool)(todo:List Nat):Prop where
 len:seen.length=n
 lt:∀x∈todo,x<n
 aDI:∀x,(x∈todo∨seen.getD x false=true)→x=a∨fF E a x
 start:a∈todo∨(a≠b∧∀y,E a y→seen.getD y false=true)
 on:∀x,seen.getD x false=true→x∈todo∨(x≠b∧∀y,E x y→seen.getD y false=true)
structure tL(n:Nat)(E:Nat→Nat→Prop)(a b k:Nat)(D:Nat→Prop)(seen:List Bool)(todo:List Nat):Prop where
 len:seen.length=n
 lt:∀x∈todo,x<n
 kf:k=a∨fF E a k
 kb:k≠b
 got:∀y,D y→seen.getD y false=true
 aDI:∀x,(x∈todo∨seen.getD x false=true)→x=a∨fF E a x
 start:a=k∨a∈todo∨(a≠b∧∀y,E a y→seen.getD y false=true)
 on:∀x,seen.getD x false=true→x=k∨x∈todo∨(x≠b∧∀y,E x y→seen.getD y false=true)
theorem Au(l:List Bool)(i j:Nat)(v:Bool)(h:i<l.length):(l.set i v).getD j false=if j=i then v else l.getD j false:=by
 rw[Kd,Kd];by_cases e:j=i
 ·subst e;simp[h]
 rw[KE or];simp[e]
theorem Bfs.first{n:Nat}{E:Nat→Nat→Prop}{a b:Nat}(ha:a<n):Bfs n E a b (Ky n false) [a]:=by
 have hf:∀x,(Ky n false).getD x false=false:=fun x=>by
  rw[Kd,KM];split<;>rfl
 refine⟨Zm,by simpa using ha,fun x hx=>?_, .inl Zm,fun x hx=>by rw[hf x] at hx;cases hx⟩;rcases hx with hx|hx
 ·exact .inl (by simpa using hx)
 rw[hf x] at hx;cases hx
theorem Bfs.yes{n:Nat}{E:Nat→Nat→Prop}{a b:Nat}{seen:List Bool}{todo:List Nat}(B:Bfs n E a b seen (b::todo)):b=a∨fF E a b:=B.aDI b (.inl Zm)
theorem Bfs.no{n:Nat}{E:Nat→Nat→Prop}{a b:Nat}{seen:List Bool}(B:Bfs n E a b seen []):¬(b=a∨fF E a b):=by
 have hs:a≠b∧∀y,E a y→seen.getD y false=true:=by
  rcases B.start with h|h
  ·cases h
  exact h
 have key:∀x,(x=a∨seen.getD x false=true)→x≠b∧∀y,E x y→(y=a∨seen.getD y false=true):=by
  rintro x (rfl|hx)
  ·exact⟨hs.1,fun y hy=> .inr (hs.2 y hy)⟩
  rcases B.on x hx with h|h
  ·cases h
  exact⟨h.1,fun y hy=> .inr (h.2 y hy)⟩
 rintro(rfl|h)
 ·exact hs.1 rfl
 exact(key b (h.closed (S:=fun x=>x=a∨seen.getD x false=true) (fun x y hx e=>(key x hx).2 y e) (.inl rfl))).1 rfl
theorem Bfs.aI5{n:Nat}{E:Nat→Nat→Prop}{a b k:Nat}{seen:List Bool}{todo:List Nat}(B:Bfs n E a b seen (k::todo))(hk:k≠b):tL n E a b k (fun _=>False) seen todo:=by
 refine⟨B.len,fun x hx=>B.lt x (by simp[hx]),B.aDI k (.inl Zm),hk,(fun y hy=>hy.elim),fun x hx=>B.aDI x (hx.imp (fun h=>by simp[h]) id),?_,?_⟩
 ·rcases B.start with h|h
  ·rcases Kf.1 h with h|h
   ·exact .inl h
   exact .inr (.inl h)
  exact .inr (.inr h)
 intro x hx;rcases B.on x hx with h|h
 ·rcases Kf.1 h with h|h
  ·exact .inl h
  exact .inr (.inl h)
 exact .inr (.inr h)
theorem tL.more{n:Nat}{E:Nat→Nat→Prop}{a b k:Nat}{D:Nat→Prop}{seen:List Bool}{todo:List Nat}(B:tL n E a b k D seen todo){D':Nat→Prop}(hD:∀y,D' y→D y∨seen.getD y false=true):tL n E a b k D' seen todo:=
 ⟨B.len,B.lt,B.kf,B.kb,fun y hy=>(hD y hy).elim (B.got y) id,B.aDI,B.start,B.on⟩
theorem tL.one{n:Nat}{E:Nat→Nat→Prop}{a b k x:Nat}{D:Nat→Prop}{seen:List Bool}{todo:List Nat}(B:tL n E a b k D seen todo)(hx:x<n)(he:E k x):tL n E a b k (fun y=>D y∨y=x) (seen.set x true) (todo++[x]):=by
 have aAR:∀j,(seen.set x true).getD j false=if j=x then true else seen.getD j false:=fun j=>Au _ _ _ _ (by rw[B.len];exact hx)
 have up:∀y,seen.getD y false=true→(seen.set x true).getD y false=true:=fun y hy=>by rw[aAR];split<;>simp_all
 have hfx:x=a∨fF E a x:=by
  rcases B.kf with h|h
  ·rw[←h];exact .inr (.one he)
  exact .inr (h.snoc he)
 refine⟨by simp[B.len],?_,B.kf,B.kb,?_,?_,?_,?_⟩
 ·intro y hy;rcases Ki.1 hy with h|h
  ·exact B.lt y h
  simp at h;omega
 ·rintro y (hy|rfl)
  ·exact up y (B.got y hy)
  rw[aAR,if_pos rfl]
 ·intro y hy;by_cases e:y=x
  ·rw[e];exact hfx
  rw[aAR,if_neg e] at hy;refine B.aDI y (hy.imp (fun h=>?_) id);rcases Ki.1 h with h|h
  ·exact h
  exact absurd (by simpa using h) e
 ·rcases B.start with h|h|⟨h1,h2⟩
  ·exact .inl h
  ·exact .inr (.inl (by simp[h]))
  exact .inr (.inr ⟨h1,fun y hy=>up y (h2 y hy)⟩)
 intro y hy;by_cases e:y=x
 ·exact .inr (.inl (by simp[e]))
 rw[aAR,if_neg e] at hy;rcases B.on y hy with h|h|⟨h1,h2⟩
 ·exact .inl h
 ·exact .inr (.inl (by simp[h]))
 exact .inr (.inr ⟨h1,fun z hz=>up z (h2 z hz)⟩)
theorem tL.finish{n:Nat}{E:Nat→Nat→Prop}{a b k:Nat}{seen:List Bool}{todo:List Nat}(B:tL n E a b k (E k) seen todo):Bfs n E a b seen todo:=by
 refine⟨B.len,B.lt,B.aDI,?_,?_⟩
 ·rcases B.start with h|h|h
  ·exact .inr ⟨by rw[h];exact B.kb,by rw[h];exact B.got⟩
  ·exact .inl h
  exact .inr h
 intro x hx;rcases B.on x hx with h|h|h
 ·exact .inr ⟨by rw[h];exact B.kb,by rw[h];exact B.got⟩
 ·exact .inl h
 exact .inr h
def mE(seen:List Bool):Nat:=(seen.filter (·=false)).length
theorem bf:∀(seen:List Bool) (x:Nat),x<seen.length→seen.getD x false=false→mE (seen.set x true)+1=mE seen
 | [],x,h,_=>by simp at h
 |s::l,0,_,h=>by
  simp at h;subst h;simp[mE]
 |s::l,x+1,hx,h=>by
  have ih:=bf l x (by simpa using hx) (by simpa using h);unfold mE at ih⊢;rw[Qx,Kx,Kx];split<;>(try simp only[Ku])<;>omega
structure Pa where
 n:Bool
 a:Int
 deriving DecidableEq,Inhabited
def Pa.ok(p:Pa):Bool:=decide (0≤p.a)&&decide (p.a≤1048576)
def Pa.le(p q:Pa):Bool:=(p.n|| !q.n)&&decide (p.a≤q.a)
def Pa.thn(p q:Pa):Option Pa:=
 if (!p.ok|| !q.ok)=true then none
 else if q.n=true then some q
 else if Pa.ok ⟨p.n,p.a+q.a⟩=false then none else some ⟨p.n,p.a+q.a⟩
theorem Pa.le_refl(p:Pa):p.le p=true:=by cases p with|mk n a=>cases n<;>simp[Pa.le]
theorem Pa.le_trans{p q r:Pa}(h:p.le q=true)(k:q.le r=true):p.le r=true:=by
 obtain⟨a,x⟩:=p;obtain⟨b,y⟩:=q;obtain⟨c,z⟩:=r;cases a<;>cases b<;>cases c<;>simp[Pa.le] at*<;>omega
theorem Pa.le_antisymm{p q:Pa}(h:p.le q=true)(k:q.le p=true):p=q:=by
 obtain⟨a,x⟩:=p;obtain⟨b,y⟩:=q;cases a<;>cases b<;>simp[Pa.le] at*<;>omega
theorem Pa.aCX{p q r:Pa}(h:p.thn q=some r):r.ok=true∧q.ok=true∧p.ok=true:=by
 unfold Pa.thn at h;split at h
 ·cases h
 rename_i h0;simp only[Bool.or_eq_true,KO,not_or,Bool.not_eq_false] at h0;split at h
 ·injection h with h;subst h;exact⟨h0.2,h0.2,h0.1⟩
 split at h
 ·cases h
 rename_i h1;injection h with h;subst h;exact⟨by simpa using h1,h0.2,h0.1⟩
theorem Pa.aB2{p p' q r':Pa}(hp:p.ok=true)(hl:p.le p'=true)(h:p'.thn q=some r'):∃r,p.thn q=some r∧r.le r'=true:=by
 obtain⟨hr,hq,hp'⟩:=Pa.aCX h;unfold Pa.thn at h⊢;simp only[hp,hp',hq,KG,QK,Kj,if_false] at h⊢;split at h
 ·rename_i hn;injection h with h;subst h;exact⟨q,by rw[if_pos hn],Pa.le_refl _⟩
 rename_i hn;split at h
 ·cases h
 injection h with h;subst h;rw[if_neg hn];obtain⟨n,a⟩:=p;obtain⟨m,b⟩:=p';obtain⟨o,c⟩:=q;have hok:Pa.ok ⟨n,a+c⟩=true:=by
  simp only[Pa.ok,Pa.le,KU,decide_eq_true_eq] at*;omega
 simp only[hok,Qw,if_false];refine⟨_,rfl,?_⟩;simp only[Pa.le,KU,decide_eq_true_eq] at hl⊢;exact⟨hl.1,or⟩
theorem Pa.aI4{p q r:Pa}(hn:q.n=false)(h:p.thn q=some r):p.le r=true:=by
 obtain⟨hr,hq,hp⟩:=Pa.aCX h;unfold Pa.thn at h;simp only[hp,hq,hn,KG,QK,Kj,if_false] at h;split at h
 ·cases h
 injection h with h;subst h;obtain⟨n,a⟩:=p;obtain⟨o,c⟩:=q;simp only[Pa.ok,KU,decide_eq_true_eq] at hq;cases n<;>simp[Pa.le]<;>omega
structure We where
 f:Nat
 t:Nat
 p:Pa
 deriving DecidableEq,Inhabited
def iK(ws:List We):Nat→List We→Nat→Prop
 |a,[],k=>a=k
 |a,w::l,k=>w∈ws∧w.f=a∧iK ws w.t l k
def run:Pa→List We→Option Pa
 |p,[]=>some p
 |p,w::l=>(p.thn w.p).bind fun q=>run q l
def Pa.aAO:Pa:=⟨false,0⟩
def Val(ws:List We)(a k:Nat)(p:Pa):Prop:=∃l,iK ws a l k∧run Pa.aAO l=some p
theorem iK.append{ws:List We}:∀{l m:List We} {a b c:Nat},iK ws a l b→iK ws b m c→iK ws a (l++m) c
 | [],_,_,_,_,h,k=>by have h:_=_:=h;subst h;exact k
 |w::l,_,_,_,_,⟨h1,h2,h3⟩,k=>⟨h1,h2,iK.append h3 k⟩
theorem kY:∀(l m:List We) (p:Pa),run p (l++m)=(run p l).bind fun q=>run q m
 | [],m,p=>rfl
 |w::l,m,p=>by
  show((p.thn w.p).bind fun q=>run q (l++m))=((p.thn w.p).bind fun q=>run q l).bind fun q=>run q m;cases p.thn w.p with
  |none=>rfl
  |some q=>exact kY l m q
theorem u5:∀(l:List We) {p q:Pa},p.ok=true→run p l=some q→q.ok=true
 | [],p,q,hp,h=>by have h:some p=some q:=h;injection h with h;subst h;exact hp
 |w::l,p,q,hp,h=>by
  have h:((p.thn w.p).bind fun q=>run q l)=some q:=h;cases e:p.thn w.p with
  |none=>rw[e] at h;cases h
  |some r=>rw[e] at h;exact u5 l (Pa.aCX e).1 h
theorem aAs:∀(l:List We) {p p' r':Pa},p.ok=true→p.le p'=true→run p' l=some r'→∃r,run p l=some r∧r.le r'=true
 | [],p,p',r',hp,hl,h=>by have h:some p'=some r':=h;injection h with h;subst h;exact⟨p,rfl,hl⟩
 |w::l,p,p',r',hp,hl,h=>by
  have h:((p'.thn w.p).bind fun q=>run q l)=some r':=h;cases e:p'.thn w.p with
  |none=>rw[e] at h;cases h
  |some q'=>
   rw[e] at h;obtain⟨q,h1,h2⟩:=Pa.aB2 hp hl e;obtain⟨r,h3,h4⟩:=aAs l (Pa.aCX h1).1 h2 h;exact⟨r,by show((p.thn w.p).bind fun q=>run q l)=some r;rw[h1];exact h3,h4⟩
theorem u0:∀(l:List We) {p q:Pa},(∀w∈l,w.p.n=false)→run p l=some q→p.le q=true
 | [],p,q,_,h=>by have h:some p=some q:=h;injection h with h;subst h;exact Pa.le_refl p
 |w::l,p,q,hn,h=>by
  have h:((p.thn w.p).bind fun q=>run q l)=some q:=h;cases e:p.thn w.p with
  |none=>rw[e] at h;cases h
  |some r=>
   rw[e] at h;exact Pa.le_trans (Pa.aI4 (hn w Zm) e) (u0 l (fun v hv=>hn v (by simp[hv])) h)
def vH(ws:List We)(i j:Nat):Prop:=∃w∈ws,w.f=i∧w.t=j
theorem iK.plus{ws:List We}:∀{l:List We} {a b:Nat},iK ws a l b→a=b∨fF (vH ws) a b
 | [],_,_,h=> .inl h
 |w::l,_,_,⟨h1,h2,h3⟩=>by
  rcases iK.plus h3 with h|h
  ·subst h;exact .inr (.one ⟨w,h1,h2,rfl⟩)
  exact .inr (.cons ⟨w,h1,h2,rfl⟩ h)
theorem iK.split{ws:List We}:∀{l m:List We} {a c:Nat},iK ws a (l++m) c→∃b,iK ws a l b∧iK ws b m c
 | [],_,a,_,h=>⟨a,rfl,h⟩
 |w::l,_,_,_,⟨h1,h2,h3⟩=>by
  obtain⟨b,h4,h5⟩:=iK.split h3;exact⟨b,⟨h1,h2,h4⟩,h5⟩
def kX:Nat→List We→List Nat
 |a,[]=>[a]
 |a,w::l=>a::kX w.t l
theorem xR:∀(a:Nat) (l:List We),(kX a l).length=l.length+1
 |_,[]=>rfl
 |_,w::l=>by simp[kX,xR w.t l]
theorem pn{ws:List We}{n:Nat}(hw:∀w∈ws,w.t<n):∀{l:List We} {a b:Nat},a<n→iK ws a l b→∀x∈kX a l,x<n
 | [],a,_,ha,_,x,hx=>by simp[kX] at hx;omega
 |w::l,a,_,ha,⟨h1,_,h3⟩,x,hx=>by
  rcases Kf.1 hx with rfl|hx
  ·exact ha
  exact pn hw (hw w h1) h3 x hx
theorem bm{ws:List We}:∀{l:List We} {a b:Nat},iK ws a l b→∀i (h:i<(kX a l).length),iK ws a (l.take i) ((kX a l)[i])∧iK ws ((kX a l)[i]) (l.drop i) b
 | [],a,b,hw,i,h=>by
  have:i=0:=by simp[kX] at h;omega
  subst this;exact⟨rfl,hw⟩
 |w::l,a,b,hw,0,h=>⟨rfl,hw⟩
 |w::l,a,b,⟨h1,h2,h3⟩,i+1,h=>by
  have:=bm h3 i (by simpa [kX] using h);exact⟨⟨h1,h2,this.1⟩,this.2⟩
def vE(ws:List We):Prop:=∀w∈ws,w.p.n=true→¬(w.t=w.f∨fF (vH ws) w.t w.f)
theorem Cu{ws:List We}{n:Nat}(hw:∀w∈ws,w.t<n)(ht:vE ws){a k:Nat}(ha:a<n){l:List We}{p:Pa}(h:iK ws a l k)(hr:run Pa.aAO l=some p)(hl:n≤l.length):
 ∃m q,m.length<l.length∧iK ws a m k∧run Pa.aAO m=some q∧q.le p=true:=by
 have hnd:¬(kX a l).Nodup:=fun hd=>by
  have:=lI n _ hd (pn hw ha h);rw[xR] at this;omega
 have:∃i j,∃hi:i<(kX a l).length,∃hj:j<(kX a l).length,i<j∧(kX a l)[i]=(kX a l)[j]:=by
  refine Ks fun hno=>hnd (Qa.2 fun i j hi hj hij e=>hno ⟨i,j,hi,hj,hij,e⟩)
 obtain⟨i,j,hi,hj,hij,e⟩:=this;have hjl:j≤l.length:=by rw[xR] at hj;omega
 obtain⟨a1,b1⟩:=bm h i hi;obtain⟨a2,b2⟩:=bm h j hj;have el:l=l.take i++((l.drop i).take (j-i)++l.drop j):=by
  have e1:l.drop j=(l.drop i).drop (j-i):=by rw[KN];congr 1;omega
  rw[e1,Qg,Qg]
 have hc:iK ws (kX a l)[i] ((l.drop i).take (j-i)) (kX a l)[i]:=by
  have ej:l.take j=l.take i++(l.drop i).take (j-i):=by
   rw[←List.take_add];congr 1;omega
  rw[ej] at a2;obtain⟨x,q1,q2⟩:=iK.split a2;have:x=(kX a l)[i]:=by
   --a walk's end is told by its ways
   have uniq:∀{m:List We} {u v v':Nat},iK ws u m v→iK ws u m v'→v=v':=by
    intro m;induction m with
    |nil=>intro u v v' h h';exact(show u=v from h).symm.trans h'
    |cons w m ih=>intro u v v' h h';exact ih h.2.2 h'.2.2
   exact uniq q1 a1
  rw[this,←e] at q2;exact q2
 have hnn:∀w∈(l.drop i).take (j-i),w.p.n=false:=by
  intro w hwm;obtain⟨u,v,huv⟩:=KK hwm;rw[huv] at hc;obtain⟨x,q1,q2⟩:=iK.split hc;obtain⟨h1,h2,h3⟩:=q2;cases hn:w.p.n with
  |false=>rfl
  |true=>
   refine absurd ?_ (ht w h1 hn);rcases(h3.append q1).plus with h|h
   ·exact .inl (by rw[h,h2])
   exact .inr (by rw[h2];exact h)
 rw[el,kY] at hr;cases e1:run Pa.aAO (l.take i) with
 |none=>rw[e1] at hr;cases hr
 |some u=>
  rw[e1] at hr;have hr:run u ((l.drop i).take (j-i)++l.drop j)=some p:=hr;rw[kY] at hr;cases e2:run u ((l.drop i).take (j-i)) with
  |none=>rw[e2] at hr;cases hr
  |some v=>
   rw[e2] at hr;have hr:run v (l.drop j)=some p:=hr;have hu:u.ok=true:=u5 _ (by rfl) e1;obtain⟨q,hq,hle⟩:=aAs _ hu (u0 _ hnn e2) hr;refine⟨l.take i++l.drop j,q,by simp;omega,a1.append (by rw[e];exact b2),?_,hle⟩;rw[kY,e1];exact hq
theorem C9{ws:List We}{n:Nat}(hw:∀w∈ws,w.t<n)(ht:vE ws){a k:Nat}(ha:a<n):∀(r:Nat) (l:List We) (p:Pa),l.length≤r→iK ws a l k→run Pa.aAO l=some p→
 ∃m q,m.length<n∧iK ws a m k∧run Pa.aAO m=some q∧q.le p=true
 |0,l,p,hl,h,hr=>⟨l,p,or,h,hr,Pa.le_refl p⟩
 |r+1,l,p,hl,h,hr=>by
  by_cases hn:l.length<n
  ·exact⟨l,p,hn,h,hr,Pa.le_refl p⟩
  obtain⟨m,q,h1,h2,h3,h4⟩:=Cu hw ht ha h hr or;obtain⟨m',q',k1,k2,k3,k4⟩:=C9 hw ht ha r m q or h2 h3;exact⟨m',q',k1,k2,k3,Pa.le_trans k4 h4⟩
def Can(l:List Pa):Prop:=l.Pairwise fun p q=>p.n=false∧q.n=true∧p.a<q.a
theorem Can.unique:∀{l m:List Pa},Can l→Can m→(∀x,x∈l↔x∈m)→l=m
 | [],[],_,_,_=>rfl
 | [],y::m,_,_,h=>by have:=(h y).2 Zm;cases this
 |x::l,[],_,_,h=>by have:=(h x).1 Zm;cases this
 |x::l,y::m,hl,hm,h=>by
  have hl':=Kh.1 hl;have hm':=Kh.1 hm;have e:x=y:=by
   rcases Kf.1 ((h x).1 Zm) with e|e
   ·exact e
   rcases Kf.1 ((h y).2 Zm) with e2|e2
   ·exact e2.symm
   have h1:=hm'.1 x e;have h2:=hl'.1 y e2;rw[h1.1] at h2;exact absurd h2.2.2 (by have:=h1.2.2;omega)
  subst e;have hx1:x∉l:=fun hx=>absurd (hl'.1 x hx).2.2 or;have hx2:x∉m:=fun hx=>absurd (hm'.1 x hx).2.2 or;rw[Can.unique hl'.2 hm'.2 fun z=>?_];constructor
  ·intro hz;rcases Kf.1 ((h z).1 (by simp[hz])) with e|e
   ·subst e;exact absurd hz hx1
   exact e
  intro hz;rcases Kf.1 ((h z).2 (by simp[hz])) with e|e
  ·subst e;exact absurd hz hx2
  exact e
theorem Can.aWL{l:List Pa}(h:Can l){p q:Pa}(hp:p∈l)(hq:q∈l)(hle:p.le q=true):p=q:=by
 induction l with
 |nil=>cases hp
 |cons x l ih=>
  obtain⟨h1,h2⟩:=Kh.1 h;rcases Kf.1 hp with ep|ep<;>rcases Kf.1 hq with eq|eq
  ·rw[ep,eq]
  ·have:=h1 q eq;subst ep;simp[Pa.le,this.1,this.2.1] at hle
  ·have:=h1 p ep;subst eq;simp[Pa.le,this.1,this.2.1] at hle;exact absurd hle (by have:=this.2.2;omega)
  exact ih h2 ep eq
def lN(l:List Pa)(p:Pa):Prop:=∃q∈l,q.le p=true
theorem tj(l:List Pa)(p:Pa):(l.any fun x=>x.le p)=true↔lN l p:=by simp[lN]
def gB(l:List Pa)(p:Pa):List Pa:=if p.n=true then (l.filter fun x=> !(p.le x))++[p] else p::(l.filter fun x=> !(p.le x))
theorem gX(l:List Pa)(p x:Pa):x∈gB l p↔x=p∨(x∈l∧p.le x=false):=by
 unfold gB;split
 ·simp[or_comm]
 simp
theorem qq{l:List Pa}{p x:Pa}:lN (gB l p) x↔lN l x∨p.le x=true:=by
 constructor
 ·rintro⟨q,hq,hle⟩;rcases(gX l p q).1 hq with e|⟨h1,_⟩
  ·subst e;exact .inr hle
  exact .inl ⟨q,h1,hle⟩
 rintro(⟨q,hq,hle⟩|h)
 ·cases e:p.le q with
  |true=>exact⟨p,(gX l p p).2 (.inl rfl),Pa.le_trans e hle⟩
  |false=>exact⟨q,(gX l p q).2 (.inr ⟨hq,e⟩),hle⟩
 exact⟨p,(gX l p p).2 (.inl rfl),h⟩
theorem Can.put{l:List Pa}(h:Can l){p:Pa}(hd:¬lN l p):Can (gB l p):=by
 unfold gB Can;have hf:Can (l.filter fun x=> !(p.le x)):=List.Pairwise.sublist List.filter_sublist h;have hno:∀x∈l,x.le p=false:=fun x hx=>by
  cases e:x.le p with
  |false=>rfl
  |true=>exact absurd ⟨x,hx,e⟩ hd
 split
 ·rename_i hn;refine KW.2 ⟨hf,Zm,fun x hx q hq=>?_⟩;simp at hq;subst hq;obtain⟨hx1,hx2⟩:=Kk.1 hx;have h1:=hno x hx1;have h2:q.le x=false:=by simpa using hx2
  obtain⟨a,b⟩:=x;obtain⟨c,d⟩:=q;simp at hn;subst hn;cases a<;>simp[Pa.le] at*<;>omega
 rename_i hn;refine Kh.2 ⟨fun x hx=>?_,hf⟩;obtain⟨hx1,hx2⟩:=Kk.1 hx;have h1:=hno x hx1;have h2:p.le x=false:=by simpa using hx2
 obtain⟨a,b⟩:=x;obtain⟨c,d⟩:=p;simp at hn;subst hn;cases a<;>simp[Pa.le] at*<;>omega
def sR(l:List Pa):Nat:=l.foldr (fun p m=>min p.a.toNat m) 1048577
def co(l:List Pa):Nat:=sR l+sR (l.filter fun p=>p.n)
theorem sD{l:List Pa}{p:Pa}(h:p∈l):sR l≤p.a.toNat:=by
 induction l with
 |nil=>cases h
 |cons x l ih=>
  show min x.a.toNat (sR l)≤_;rcases Kf.1 h with e|e
  ·subst e;omega
  have:=ih e;omega
theorem wC(l:List Pa):sR l≤1048577:=by
 induction l with
 |nil=>exact Km _
 |cons x l ih=>show min x.a.toNat (sR l)≤_;omega
theorem ai{l:List Pa}{m:Nat}(hm:m≤1048577)(h:∀p∈l,m≤p.a.toNat):m≤sR l:=by
 induction l with
 |nil=>exact hm
 |cons x l ih=>
  show m≤min x.a.toNat (sR l);have h1:=h x Zm;have h2:=ih (fun p hp=>h p (by simp[hp]));omega
theorem B3{l:List Pa}(hok:∀x∈l,x.ok=true){p:Pa}(hp:p.ok=true)(hd:¬lN l p):co (gB l p)+1≤co l:=by
 have hno:∀x∈l,x.le p=false:=fun x hx=>by
  cases e:x.le p with
  |false=>rfl
  |true=>exact absurd ⟨x,hx,e⟩ hd
 have hpa:0≤p.a∧p.a≤1048576:=by simpa [Pa.ok] using hp
 --all of the list,and those that begin anew
 have h1:sR (gB l p)≤sR l:=by
  refine ai (wC _) fun x hx=>?_;cases e:p.le x with
  |false=>exact sD ((gX l p x).2 (.inr ⟨hx,e⟩))
  |true=>
   have:=sD ((gX l p p).2 (.inl rfl));simp[Pa.le] at e;omega
 have aAu:∀q∈(gB l p).filter (fun p=>p.n),q∈gB l p∧q.n=true:=fun q hq=>by simpa using Kk.1 hq
 have h2:sR ((gB l p).filter fun p=>p.n)≤sR (l.filter fun p=>p.n):=by
  refine ai (wC _) fun x hx=>?_;obtain⟨hx1,hx2⟩:=Kk.1 hx;cases e:p.le x with
  |false=>exact sD (Kk.2 ⟨(gX l p x).2 (.inr ⟨hx1,e⟩),hx2⟩)
  |true=>
   have aND:x.n=true:=hx2;simp[Pa.le,aND] at e;have:=sD (Kk.2 ⟨(gX l p p).2 (.inl rfl),by simpa using e.1⟩:p∈(gB l p).filter fun p=>p.n);omega
 unfold co;cases hn:p.n with
 |false=>
  have h3:sR (gB l p)≤p.a.toNat:=sD ((gX l p p).2 (.inl rfl));have h4:p.a.toNat+1≤sR l:=ai or fun x hx=>by
   have:=hno x hx;have hxo:=hok x hx;simp[Pa.le,hn,Pa.ok] at this hxo;omega
  omega
 |true=>
  have h3:sR ((gB l p).filter fun p=>p.n)≤p.a.toNat:=sD (Kk.2 ⟨(gX l p p).2 (.inl rfl),hn⟩);have h4:p.a.toNat+1≤sR (l.filter fun p=>p.n):=ai or fun x hx=>by
   obtain⟨hx1,hx2⟩:=Kk.1 hx;have:=hno x hx1;have hxo:=hok x hx1;have aND:x.n=true:=hx2;simp[Pa.le,hn,aND,Pa.ok] at this hxo;omega
  omega
theorem Val.ok{ws:List We}{a k:Nat}{p:Pa}(h:Val ws a k p):p.ok=true:=by
 obtain⟨l,_,hr⟩:=h;exact u5 l (by rfl) hr
theorem Val.step{ws:List We}{a:Nat}{p r:Pa}{w:We}(h:Val ws a w.f p)(hw:w∈ws)(e:p.thn w.p=some r):Val ws a w.t r:=by
 obtain⟨l,h1,h2⟩:=h;refine⟨l++[w],h1.append ⟨hw,rfl,rfl⟩,?_⟩;rw[kY,h2];show((p.thn w.p).bind fun q=>run q [])=some r;rw[e];rfl
theorem Val.aAO(ws:List We)(a:Nat):Val ws a a Pa.aAO:=⟨[],rfl,rfl⟩
def Cj(ws:List We)(out:List (List Pa))(k:Nat):Prop:=∀p∈out.getD k [],∀w∈ws,w.f=k→∀r,p.thn w.p=some r→lN (out.getD w.t []) r
structure og(ws:List We)(n a:Nat)(out:List (List Pa))(todo:List Nat):Prop where
 len:out.length=n
 can:∀k,Can (out.getD k [])
 val:∀k,∀p∈out.getD k [],Val ws a k p
 start:lN (out.getD a []) Pa.aAO
 lt:∀x∈todo,x<n
 clo:∀k,k<n→k∉todo→Cj ws out k
structure nA(ws:List We)(n a k:Nat)(paths:List Pa)(D:We→Pa→Prop)(out:List (List Pa))(todo:List Nat):Prop where
 len:out.length=n
 can:∀k,Can (out.getD k [])
 val:∀k,∀p∈out.getD k [],Val ws a k p
 start:lN (out.getD a []) Pa.aAO
 lt:∀x∈todo,x<n
 clo:∀j,j<n→j∉todo→j≠k→Cj ws out j
 pv:∀p∈paths,Val ws a k p
 me:k∈todo∨(out.getD k []=paths∧∀w∈ws,∀p∈paths,D w p→w.f=k→∀r,p.thn w.p=some r→lN (out.getD w.t []) r)
theorem og.begin{ws:List We}{n a k:Nat}{out:List (List Pa)}{todo:List Nat}(W:og ws n a out (k::todo)):nA ws n a k (out.getD k []) (fun _ _=>False) out todo:=
 ⟨W.len,W.can,W.val,W.start,fun x hx=>W.lt x (by simp[hx]),fun j hj hn hk=>W.clo j hj (by simp[hn,hk]),W.val k, .inr ⟨rfl,fun _ _ _ _ h=>h.elim⟩⟩
theorem nA.more{ws:List We}{n a k:Nat}{paths:List Pa}{D D':We→Pa→Prop}{out:List (List Pa)}{todo:List Nat}(W:nA ws n a k paths D out todo)
 (h:∀w∈ws,∀p∈paths,D' w p→w.f=k→D w p∨∀r,p.thn w.p=some r→lN (out.getD w.t []) r):nA ws n a k paths D' out todo:=
 ⟨W.len,W.can,W.val,W.start,W.lt,W.clo,W.pv,W.me.imp id fun⟨e,hd⟩=>⟨e,fun w hw p hp hD hf r hr=>(h w hw p hp hD hf).elim (fun hd'=>hd w hw p hp hd' hf r hr) (fun h=>h r hr)⟩⟩
theorem mA{α:Type}(l:List α)(i j:Nat)(v d:α)(h:i<l.length):(l.set i v).getD j d=if j=i then v else l.getD j d:=by
 rw[Kd,Kd];by_cases e:j=i
 ·subst e;simp[h]
 rw[KE or];simp[e]
theorem nA.put{ws:List We}{n a k:Nat}{paths:List Pa}{D:We→Pa→Prop}{out:List (List Pa)}{todo:List Nat}(W:nA ws n a k paths D out todo){w:We}{p r:Pa}(hw:w∈ws)(hf:w.f=k)(ht:w.t<n)(hp:p∈paths)(e:p.thn w.p=some r)(hd:¬lN (out.getD w.t []) r):
 nA ws n a k paths (fun v q=>D v q∨(v=w∧q=p)) (out.set w.t (gB (out.getD w.t []) r)) (todo++[w.t]):=by
 have aAR:∀j,(out.set w.t (gB (out.getD w.t []) r)).getD j []=if j=w.t then gB (out.getD w.t []) r else out.getD j []:=fun j=>mA _ _ _ _ _ (by rw[W.len];exact ht)
 have up:∀j x,lN (out.getD j []) x→lN ((out.set w.t (gB (out.getD w.t []) r)).getD j []) x:=fun j x h=>by
  rw[aAR];split
  ·rename_i ej;rw[ej] at h;exact qq.2 (.inl h)
  exact h
 refine⟨by simp[W.len],fun j=>?_,fun j q hq=>?_,up _ _ W.start,?_,?_,W.pv,?_⟩
 ·rw[aAR];split
  ·exact(W.can _).put hd
  exact W.can j
 ·rw[aAR] at hq;split at hq
  ·rename_i ej;subst ej;rcases(gX _ _ _).1 hq with eq|⟨h1,_⟩
   ·subst eq;exact Val.step (by rw[hf];exact W.pv p hp) hw e
   exact W.val _ q h1
  exact W.val j q hq
 ·intro x hx;rcases Ki.1 hx with h|h
  ·exact W.lt x h
  simp at h;omega
 ·intro j hj hn hk q hq v hv hvf r' hr';have hjt:j≠w.t:=fun ej=>hn (by simp[ej]);rw[aAR,if_neg hjt] at hq;exact up _ _ (W.clo j hj (fun h=>hn (by simp[h])) hk q hq v hv hvf r' hr')
 rcases W.me with h|⟨h1,h2⟩
 ·exact .inl (by simp[h])
 by_cases ek:k=w.t
 ·exact .inl (by simp[ek])
 refine .inr ⟨by rw[aAR,if_neg ek];exact h1,?_⟩;rintro v hv q hq (hD|⟨ev,eq⟩) hvf r' hr'
 ·exact up _ _ (h2 v hv q hq hD hvf r' hr')
 subst ev eq;rw[e] at hr';injection hr' with hr';subst hr';rw[aAR,if_pos rfl];exact qq.2 (.inr (Pa.le_refl _))
theorem nA.finish{ws:List We}{n a k:Nat}{paths:List Pa}{out:List (List Pa)}{todo:List Nat}(W:nA ws n a k paths (fun _ _=>True) out todo):og ws n a out todo:=by
 refine⟨W.len,W.can,W.val,W.start,W.lt,fun j hj hn=>?_⟩;by_cases e:j=k
 ·subst e;rcases W.me with h|⟨h1,h2⟩
  ·exact absurd h hn
  intro p hp w hw hf r hr;rw[h1] at hp;exact h2 w hw p hp trivial hf r hr
 exact W.clo j hj hn e
structure iL(ws:List We)(a k:Nat)(l:List Pa):Prop where
 can:Can l
 val:∀p∈l,Val ws a k p
 dom:∀p,Val ws a k p→lN l p
theorem og.done{ws:List We}{n a:Nat}{out:List (List Pa)}(ht:∀w∈ws,w.t<n)(ha:a<n)(W:og ws n a out [])(k:Nat):iL ws a k (out.getD k []):=by
 refine⟨W.can k,W.val k,?_⟩;have key:∀(l:List We) (j:Nat) (p r:Pa),j<n→lN (out.getD j []) p→run p l=some r→iK ws j l k→lN (out.getD k []) r:=by
  intro l;induction l with
  |nil=>
   intro j p r hj hd hr hw;have hr:some p=some r:=hr;injection hr with hr;subst hr;have hw:j=k:=hw;subst hw;exact hd
  |cons w l ih=>
   rintro j p r hj ⟨q,hq,hle⟩ hr ⟨h1,h2,h3⟩;have hr:((p.thn w.p).bind fun q=>run q l)=some r:=hr;cases e:p.thn w.p with
   |none=>rw[e] at hr;cases hr
   |some p'=>
    rw[e] at hr;have hqo:=(W.val j q hq).ok;obtain⟨q',k1,k2⟩:=Pa.aB2 hqo hle e;obtain⟨x,hx,hxl⟩:=W.clo j hj Zm q hq w h1 h2 q' k1;exact ih w.t p' r (ht w h1) ⟨x,hx,Pa.le_trans hxl k2⟩ hr h3
 rintro p ⟨l,h1,h2⟩;exact key l a Pa.aAO p ha W.start h2 h1
theorem iL.unique{ws:List We}{a k:Nat}{l m:List Pa}(hl:iL ws a k l)(hm:iL ws a k m):l=m:=by
 have one:∀{l m:List Pa},iL ws a k l→iL ws a k m→∀x∈l,x∈m:=by
  intro l m hl hm x hx;obtain⟨q,hq,hle⟩:=hm.dom x (hl.val x hx);obtain⟨y,hy,aA4⟩:=hl.dom q (hm.val q hq);have e:=hl.can.aWL hy hx (Pa.le_trans aA4 hle);subst e;rw[Pa.le_antisymm aA4 hle];exact hq
 exact hl.can.unique hm.can fun x=>⟨one hl hm x,one hm hl x⟩
structure lO(ws:List We)(n a r:Nat)(at':List (List Pa)):Prop where
 len:at'.length=n
 can:∀k,k<n→Can (at'.getD k [])
 val:∀k,k<n→∀p∈at'.getD k [],Val ws a k p
 dom:∀k,k<n→∀l p,l.length≤r→iK ws a l k→run Pa.aAO l=some p→lN (at'.getD k []) p
theorem lO.done{ws:List We}{n a r:Nat}{at':List (List Pa)}(ht:∀w∈ws,w.t<n)(hn:vE ws)(ha:a<n)(h:lO ws n a r at')(hr:n≤r)(k:Nat)(hk:k<n):iL ws a k (at'.getD k []):=by
 refine⟨h.can k hk,h.val k hk,?_⟩;rintro p ⟨l,h1,h2⟩;obtain⟨m,q,k1,k2,k3,k4⟩:=C9 ht hn ha l.length l p (Km _) h1 h2;obtain⟨x,hx,hxl⟩:=h.dom k hk m q or k2 k3;exact⟨x,hx,Pa.le_trans hxl k4⟩
structure Ch(l m:List Pa):Prop where
 can:Can m
 sub:∀p∈m,p∈l
 dom:∀p∈l,lN m p
theorem lO.next{ws:List We}{n a r:Nat}{at' nx at2:List (List Pa)}(hf:∀w∈ws,w.f<n)(h:lO ws n a r at')(hl:at2.length=n)
 (hnx:∀k,k<n→∀q,q∈nx.getD k []↔(q∈at'.getD k []∨∃w∈ws,w.t=k∧∃p∈at'.getD w.f [],p.thn w.p=some q)) (h2:∀k,k<n→Ch (nx.getD k []) (at2.getD k [])):lO ws n a (r+1) at2:=by
 refine⟨hl,fun k hk=>(h2 k hk).can,fun k hk p hp=>?_,fun k hk l p hlen hw hr=>?_⟩
 ·rcases(hnx k hk p).1 ((h2 k hk).sub p hp) with h3|⟨w,h3,h4,q,h5,h6⟩
  ·exact h.val k hk p h3
  rw[←h4];exact Val.step (h.val w.f (hf w h3) q h5) h3 h6
 have step:∀q,q∈nx.getD k []→q.le p=true→lN (at2.getD k []) p:=fun q hq hle=>by
  obtain⟨x,hx,hxl⟩:=(h2 k hk).dom q hq;exact⟨x,hx,Pa.le_trans hxl hle⟩
 by_cases hlr:l.length≤r
 ·obtain⟨q,hq,hle⟩:=h.dom k hk l p hlr hw hr;exact step q ((hnx k hk q).2 (.inl hq)) hle
 --the last way
 have hne:l≠ []:=fun e=>by rw[e] at hlr;simp at hlr
 obtain⟨m,w,rfl⟩:∃m w,l=m++[w]:=⟨l.dropLast,l.getLast hne,(List.dropLast_concat_getLast hne).symm⟩;obtain⟨b,q1,q2⟩:=iK.split hw;obtain⟨q3,q4,q5⟩:=q2;have q5:w.t=k:=q5;rw[kY] at hr;cases e:run Pa.aAO m with
 |none=>rw[e] at hr;cases hr
 |some u=>
  rw[e] at hr;have hr:((u.thn w.p).bind fun q=>run q [])=some p:=hr;cases e2:u.thn w.p with
  |none=>rw[e2] at hr;cases hr
  |some v=>
   rw[e2] at hr;have hr:some v=some p:=hr;injection hr with hr;subst hr;rw[←q4] at q1;obtain⟨x,hx,hxl⟩:=h.dom w.f (hf w q3) m u (by simp at hlen;omega) q1 e;obtain⟨y,hy,hyl⟩:=Pa.aB2 (h.val w.f (hf w q3) x hx).ok hxl e2;exact step y ((hnx k hk y).2 (.inr ⟨w,q3,q5,x,hx,hy⟩)) hyl
theorem lO.first{ws:List We}{n a:Nat}(ha:a<n):lO ws n a 0 ((Ky n []).set a [Pa.aAO]):=by
 have aAR:∀j,((Ky n ([]:List Pa)).set a [Pa.aAO]).getD j []=if j=a then [Pa.aAO] else []:=fun j=>by
  rw[mA _ _ _ _ _ (by simpa using ha)];split
  ·rfl
  rw[Kd,KM];split<;>rfl
 refine⟨Zm,fun k _=>?_,fun k _ p hp=>?_,fun k _ l p hl hw hr=>?_⟩
 ·rw[aAR];split<;>simp[Can]
 ·rw[aAR] at hp;split at hp
  ·rename_i e;simp at hp;subst e hp;exact Val.aAO ws k
  cases hp
 have e:l=[]:=List.length_eq_zero_iff.1 or;subst e;have hw:a=k:=hw;have hr:some Pa.aAO=some p:=hr;injection hr with hr;subst hw hr;rw[aAR,if_pos rfl];exact⟨Pa.aAO,Zm,Pa.le_refl _⟩
theorem og.first{ws:List We}{n a:Nat}(ha:a<n):og ws n a ((Ky n []).set a [Pa.aAO]) [a]:=by
 have aAR:∀j,((Ky n ([]:List Pa)).set a [Pa.aAO]).getD j []=if j=a then [Pa.aAO] else []:=fun j=>by
  rw[mA _ _ _ _ _ (by simpa using ha)];split
  ·rfl
  rw[Kd,KM];split<;>rfl
 refine⟨Zm,fun k=>?_,fun k p hp=>?_,?_,by simpa using ha,fun k hk hn p hp=>?_⟩
 ·rw[aAR];split<;>simp[Can]
 ·rw[aAR] at hp;split at hp
  ·rename_i e;simp at hp;subst e hp;exact Val.aAO ws k
  cases hp
 ·rw[aAR,if_pos rfl];exact⟨Pa.aAO,Zm,Pa.le_refl _⟩
 rw[aAR,if_neg (by simpa using hn)] at hp;cases hp
section
variable{α:Type} [DecidableEq α]{lt:α→α→Bool}
structure Ord(lt:α→α→Bool):Prop where
 irr:∀x,lt x x=false
 trans:∀x y z,lt x y=true→lt y z=true→lt x z=true
 tot:∀x y,lt x y=false→lt y x=false→x=y
theorem Ord.asym(O:Ord lt){x y:α}(h:lt x y=true):lt y x=false:=by
 cases e:lt y x with
 |false=>rfl
 |true=>have:=O.trans x y x h e;rw[O.irr] at this;cases this
def Inc(lt:α→α→Bool)(l:List α):Prop:=l.Pairwise fun x y=>lt x y=true
theorem Inc.unique(O:Ord lt):∀{l m:List α},Inc lt l→Inc lt m→(∀x,x∈l↔x∈m)→l=m
 | [],[],_,_,_=>rfl
 | [],y::m,_,_,h=>by have:=(h y).2 Zm;cases this
 |x::l,[],_,_,h=>by have:=(h x).1 Zm;cases this
 |x::l,y::m,hl,hm,h=>by
  have hl':=Kh.1 hl;have hm':=Kh.1 hm;have e:x=y:=by
   rcases Kf.1 ((h x).1 Zm) with e|e
   ·exact e
   rcases Kf.1 ((h y).2 Zm) with e2|e2
   ·exact e2.symm
   have h1:=O.asym (hm'.1 x e);rw[hl'.1 y e2] at h1;cases h1
  subst e;have hx1:x∉l:=fun hx=>by have:=hl'.1 x hx;rw[O.irr] at this;cases this
  have hx2:x∉m:=fun hx=>by have:=hm'.1 x hx;rw[O.irr] at this;cases this
  rw[Inc.unique O hl'.2 hm'.2 fun z=>?_];constructor
  ·intro hz;rcases Kf.1 ((h z).1 (by simp[hz])) with e|e
   ·subst e;exact absurd hz hx1
   exact e
  intro hz;rcases Kf.1 ((h z).2 (by simp[hz])) with e|e
  ·subst e;exact absurd hz hx2
  exact e
def csT(out:List α)(x:α):List α:=if out.getLast?=some x then out else out++[x]
def cs(l:List α):List α:=l.foldl csT []
theorem nq(l:List α)(x:α):cs (l++[x])=csT (cs l) x:=by simp[cs]
theorem CR(out:List α)(x:α):(csT out x).length≤out.length+1:=by unfold csT;split<;>simp
theorem zb:∀(l:List α),(cs l).getLast?=l.getLast?:=by
 intro l;rcases List.eq_nil_or_concat l with h|⟨m,x,h⟩
 ·subst h;rfl
 subst h;rw[List.concat_eq_append,nq,Qk];unfold csT;split
 ·rename_i e;rw[e];rfl
 rw[Qk];simp
theorem AC(l:List α):∀out:List α,(l.foldl csT out).length≤out.length+l.length:=by
 induction l with
 |nil=>intro out;simp
 |cons x l ih=>
  intro out;have:=ih (csT out x);have h2:=CR out x;simp only[Qf,Ku];omega
theorem aDl(l:List α):(cs l).length≤l.length:=by simpa [cs] using AC l []
theorem fg(O:Ord lt):∀(l out:List α),Inc lt out→l.Pairwise (fun x y=>lt y x=false)→(∀z∈out,∀y∈l,lt y z=false)→Inc lt (l.foldl csT out)∧∀x,x∈l.foldl csT out↔x∈out∨x∈l
 | [],out,h,_,_=>⟨h,fun x=>Zm⟩
 |x::l,out,h,hs,hb=>by
  obtain⟨h1,h2⟩:=Kh.1 hs;have key:Inc lt (csT out x)∧(∀z,z∈csT out x↔z∈out∨z=x):=by
   unfold csT;split
   ·rename_i e;refine⟨h,fun z=>⟨.inl,fun hz=>?_⟩⟩;rcases hz with hz|rfl
    ·exact hz
    exact List.mem_of_getLast? e
   rename_i e;refine⟨KW.2 ⟨h,Zm,fun z hz y hy=>?_⟩,fun z=>Zm⟩;simp at hy;subst hy;cases ez:lt z y with
   |true=>rfl
   |false=>
    have hzy:=O.tot z y ez (hb z hz y Zm);subst hzy
    --it stands in the list,and not at its end
    exfalso;obtain⟨a,b,rfl⟩:=KK hz;cases b with
    |nil=>exact e Zm
    |cons u b=>
     have h3:=(KW.1 h).2.1;have h4:=(Kh.1 h3).1 u Zm;have h5:=hb u Zm z Zm;rw[h4] at h5;cases h5
  obtain⟨k1,k2⟩:=key;have:=fg O l (csT out x) k1 h2 (fun z hz y hy=>by
   rcases(k2 z).1 hz with hz|rfl
   ·exact hb z hz y (by simp[hy])
   exact h1 y hy)
  refine⟨this.1,fun z=>?_⟩;rw[Qf,this.2,k2];simp[or_assoc]
theorem DB(O:Ord lt){l:List α}(hs:l.Pairwise fun x y=>lt y x=false):Inc lt (cs l)∧∀x,x∈cs l↔x∈l:=by
 have:=fg O l [] List.Pairwise.nil hs Zm;exact⟨this.1,fun x=>by rw[show cs l=l.foldl csT [] from rfl,this.2];simp⟩
def nU(lt:α→α→Bool):List α→α→List α
 | [],w=>[w]
 |x::l,w=>if lt x w=true then x::nU lt l w else if x=w then x::l else w::x::l
theorem sb(l:List α)(w z:α):z∈nU lt l w↔z=w∨z∈l:=by
 induction l with
 |nil=>simp[nU]
 |cons x l ih=>
  unfold nU;split
  ·simp only[Kf,ih];constructor
   ·rintro(h|h|h)
    ·exact .inr (.inl h)
    ·exact .inl h
    exact .inr (.inr h)
   rintro(h|h|h)
   ·exact .inr (.inl h)
   ·exact .inl h
   exact .inr (.inr h)
  split
  ·rename_i e;subst e;simp
  simp
theorem BF(O:Ord lt){l:List α}(h:Inc lt l)(w:α):Inc lt (nU lt l w):=by
 induction l with
 |nil=>simp[nU,Inc]
 |cons x l ih=>
  obtain⟨h1,h2⟩:=Kh.1 h;unfold nU;split
  ·rename_i e;refine Kh.2 ⟨fun y hy=>?_,ih h2⟩;rcases(sb l w y).1 hy with rfl|hy
   ·exact e
   exact h1 y hy
  rename_i e;split
  ·exact h
  rename_i e2;have hwx:lt w x=true:=by
   cases e3:lt w x with
   |true=>rfl
   |false=>exact absurd (O.tot x w (by simpa using e) e3) e2
  refine Kh.2 ⟨fun y hy=>?_,h⟩;rcases Kf.1 hy with rfl|hy
  ·exact hwx
  exact O.trans _ _ _ hwx (h1 y hy)
theorem yx{l:List α}{w:α}:∀(k:Nat),k≤l.length→(∀i (h:i<k) (h':i<l.length),lt l[i] w=true)→(∀h:k<l.length,lt l[k] w=false)→nU lt l w=if l[k]?=some w then l else l.take k++w::l.drop k:=by
 induction l with
 |nil=>intro k hk _ _;have:k=0:=by simpa using hk
       subst this;simp[nU]
 |cons x l ih=>
  intro k hk h1 h2;cases k with
  |zero=>
   have:=h2 Zm;simp at this;unfold nU;simp only[this,Kj,if_false,List.getElem?_cons_zero,Option.some.injEq,QH,KB,List.nil_append]
  |succ k=>
   have h0:=h1 0 or Zm;simp at h0;unfold nU;rw[if_pos h0,ih k (by simpa using hk) (fun i hi hi'=>by have:=h1 (i+1) or (by simpa using hi');simpa using this) (fun h=>by have:=h2 (by simpa using h);simpa using this)];simp only[List.getElem?_cons_succ,Qm,Qo,List.cons_append];split<;>rfl
def kO(lt:α→α→Bool)(l:List α):List α:=l.foldl (nU lt) []
theorem pP(O:Ord lt):∀(l out:List α),Inc lt out→Inc lt (l.foldl (nU lt) out)∧∀z,z∈l.foldl (nU lt) out↔z∈out∨z∈l
 | [],out,h=>⟨h,fun z=>Zm⟩
 |x::l,out,h=>by
  have:=pP O l (nU lt out x) (BF O h x);refine⟨this.1,fun z=>?_⟩;rw[Qf,this.2,sb];simp only[Kf];constructor
  ·rintro((h|h)|h)
   ·exact .inr (.inl h)
   ·exact .inl h
   exact .inr (.inr h)
  rintro(h|h|h)
  ·exact .inl (.inr h)
  ·exact .inl (.inl h)
  exact .inr h
theorem Aq(O:Ord lt){l m:List α}(hp:m.Perm l)(hs:m.Pairwise fun x y=>lt y x=false):cs m=kO lt l:=by
 have h1:=DB O hs;have h2:=pP O l [] List.Pairwise.nil;exact Inc.unique O h1.1 h2.1 fun z=>by rw[h1.2,show z∈kO lt l↔_ from h2.2 z,hp.mem_iff];simp
end
end Go.Proofs.YtecepaehmojpgaaGreat
namespace Go.Proofs.YtecepaehmojpgaaGreat
open Go.RowKit Go.Sort
attribute [local irreducible] IntKind.wrap
namespace LB
abbrev aD9(k:Sh):List aA:=[
 ⟨some 2,none, .val (.move (.const (.sl k .nil [])))⟩]
abbrev aD8:List aA:=[
 ⟨some 6,none, .val (.move (.slot 0))⟩,
 ⟨some 7,none, .val (.len (.slot 6))⟩,
 ⟨some 8,none, .val (.bin .lss (.slot 7) (.const (.int .i64 2)))⟩]
abbrev aD7:List aA:=[
 ⟨some 9,none, .val (.move (.slot 0))⟩,
 ⟨some 2,none, .val (.move (.slot 9))⟩]
abbrev aD6:List aA:=[
 ⟨some 3,none, .val (.move (.const (.int .i64 1)))⟩]
abbrev aD5:List aA:=[
 ⟨some 10,none, .val (.move (.slot 3))⟩,
 ⟨some 11,none, .val (.move (.slot 0))⟩,
 ⟨some 12,none, .val (.len (.slot 11))⟩,
 ⟨some 13,none, .val (.bin .lss (.slot 10) (.slot 12))⟩]
abbrev aD4(k:Sh)(e:vG):List (aA×List Nat):=[
 (⟨some 16,none, .val (.move (.slot 0))⟩,[]),
 (⟨some 17,none, .val (.move (.slot 3))⟩,[]),
 (⟨some 18,none, .val (.aBn k (.slot 16) (.slot 17))⟩,[0,1]),
 (⟨some 19,none, .val (.load k (.slot 18))⟩,[0,1,2]),
 (⟨some 20,none, .val (.move (.slot 0))⟩,[]),
 (⟨some 21,none, .val (.move (.slot 3))⟩,[]),
 (⟨some 22,none, .val (.bin .sub (.slot 21) (.const (.int .i64 1)))⟩,[5]),
 (⟨some 23,none, .val (.aBn k (.slot 20) (.slot 22))⟩,[4,5,6]),
 (⟨some 24,none, .val (.load k (.slot 23))⟩,[4,5,6,7]),
 (⟨some 25,none, .val (.eq false e (.slot 19) (.slot 24))⟩,[0,1,2,3,4,5,6,7,8])]
abbrev aDQ:List aA:=[]
abbrev aD3(k:Sh):List aA:=[
 ⟨some 26,none, .val (.move (.slot 0))⟩,
 ⟨some 27,none, .val (.move (.slot 3))⟩,
 ⟨some 28,none, .val (.slc k (.slot 26) (.some (.slot 27)) .none .none)⟩,
 ⟨some 4,none, .val (.move (.slot 28))⟩]
abbrev aD2:List aA:=[
 ⟨some 5,none, .val (.move (.const (.int .i64 1)))⟩]
abbrev aD1:List aA:=[
 ⟨some 29,none, .val (.move (.slot 5))⟩,
 ⟨some 30,none, .val (.move (.slot 4))⟩,
 ⟨some 31,none, .val (.len (.slot 30))⟩,
 ⟨some 32,none, .val (.bin .lss (.slot 29) (.slot 31))⟩]
abbrev aD0(k:Sh)(e:vG):List (aA×List Nat):=[
 (⟨some 35,none, .val (.move (.slot 4))⟩,[]),
 (⟨some 36,none, .val (.move (.slot 5))⟩,[]),
 (⟨some 37,none, .val (.aBn k (.slot 35) (.slot 36))⟩,[0,1]),
 (⟨some 38,none, .val (.load k (.slot 37))⟩,[0,1,2]),
 (⟨some 39,none, .val (.move (.slot 4))⟩,[]),
 (⟨some 40,none, .val (.move (.slot 5))⟩,[]),
 (⟨some 41,none, .val (.bin .sub (.slot 40) (.const (.int .i64 1)))⟩,[5]),
 (⟨some 42,none, .val (.aBn k (.slot 39) (.slot 41))⟩,[4,5,6]),
 (⟨some 43,none, .val (.load k (.slot 42))⟩,[4,5,6,7]),
 (⟨some 44,none, .val (.eq true e (.slot 38) (.slot 43))⟩,[0,1,2,3,4,5,6,7,8])]
abbrev aDP:List aA:=[]
abbrev aDX(k:Sh):List aA:=[
 ⟨some 45,none, .val (.move (.slot 0))⟩,
 ⟨some 46,none, .val (.move (.slot 3))⟩,
 ⟨some 47,none, .val (.move (.slot 4))⟩,
 ⟨some 48,none, .val (.move (.slot 5))⟩,
 ⟨some 49,none, .val (.aBn k (.slot 47) (.slot 48))⟩,
 ⟨some 50,none, .val (.load k (.slot 49))⟩,
 ⟨some 51,none, .val (.aBn k (.slot 45) (.slot 46))⟩,
 ⟨none,none, .store k (.slot 51) (.slot 50)⟩]
abbrev aDW:List aA:=[
 ⟨some 52,none, .val (.move (.slot 3))⟩,
 ⟨some 53,none, .val (.bin .add (.slot 52) (.const (.int .i64 1)))⟩,
 ⟨some 3,none, .val (.move (.slot 53))⟩]
abbrev aDV:List aA:=[
 ⟨some 33,none, .val (.move (.slot 5))⟩,
 ⟨some 34,none, .val (.bin .add (.slot 33) (.const (.int .i64 1)))⟩,
 ⟨some 5,none, .val (.move (.slot 34))⟩]
abbrev aEB(k:Sh)(e:vG):bF:=(.seq (.seq (.ops aD1) (.cond (.slot 32) .skip (.exit 2))) (.seq (.block 3 (.seq (.draw 10 (aD0 k e) aDP) (.cond (.slot 44) (.seq (.ops (aDX k)) (.ops aDW)) .skip))) (.ops aDV)))
abbrev aDU(k:Sh)(z:V):List aA:=[
 ⟨some 54,none, .val (.move (.slot 0))⟩,
 ⟨some 55,none, .val (.move (.slot 3))⟩,
 ⟨some 56,none, .val (.slc k (.slot 54) (.some (.slot 55)) .none .none)⟩,
 ⟨none,none, .clear k (.slot 56) z⟩]
abbrev aDT(k:Sh):List aA:=[
 ⟨some 57,none, .val (.move (.slot 0))⟩,
 ⟨some 58,none, .val (.move (.slot 3))⟩,
 ⟨some 59,none, .val (.slc k (.slot 57) .none (.some (.slot 58)) .none)⟩,
 ⟨some 2,none, .val (.move (.slot 59))⟩]
abbrev aDS:List aA:=[
 ⟨some 14,none, .val (.move (.slot 3))⟩,
 ⟨some 15,none, .val (.bin .add (.slot 14) (.const (.int .i64 1)))⟩,
 ⟨some 3,none, .val (.move (.slot 15))⟩]
abbrev aEA(k:Sh)(z:V)(e:vG):bF:=(.seq (.seq (.ops aD5) (.cond (.slot 13) .skip (.exit 0))) (.seq (.block 1 (.seq (.draw 10 (aD4 k e) aDQ) (.cond (.slot 25) (.seq (.ops (aD3 k)) (.seq (.seq (.ops aD2) (.block 2 (.loop (aEB k e)))) (.seq (.ops (aDU k z)) (.seq (.ops (aDT k)) .ret)))) .skip))) (.ops aDS)))
abbrev aDR:List aA:=[
 ⟨some 60,none, .val (.move (.slot 0))⟩,
 ⟨some 2,none, .val (.move (.slot 60))⟩]
def aFb(k:Sh)(z:V)(e:vG):LFn:=⟨(.seq (.ops (aD9 k)) (.seq (.seq (.ops aD8) (.cond (.slot 8) (.seq (.ops aD7) .ret) .skip)) (.seq (.seq (.ops aD6) (.block 0 (.loop (aEA k z e)))) (.seq (.ops aDR) .ret)))),61,[.slot 2]⟩
end LB
section
variable{P:Program}{α:Type} [DecidableEq α] [Inhabited α](e:α→V){k:Sh}{z:V}{q:vG}
theorem B2{out:List α}{x:α}(h:out.getLast?=some x):csT out x=out:=by unfold csT;rw[if_pos h]
theorem CQ{out:List α}{x y:α}(h:out.getLast?=some y)(hne:x≠y):csT out x=out++[x]:=by
 unfold csT;rw[if_neg];rw[h];intro e2;injection e2 with e2;exact hne e2.symm
theorem wX(ds:List α)(j:Nat)(h1:0<j)(h2:j<ds.length)(he:ds[j]=ds[j-1]):cs (ds.take (j+1))=cs (ds.take j):=by
 rw[Ke h2,nq];refine B2 ?_;rw[zb,Qb,Qz,if_pos (by simp;omega),QF,he,show min j ds.length-1=j-1 by omega,KJ or]
theorem zO(ds:List α)(j:Nat)(h1:0<j)(h2:j<ds.length)(he:ds[j]≠ds[j-1]):cs (ds.take (j+1))=cs (ds.take j)++[ds[j]]:=by
 rw[Ke h2,nq];refine CQ (y:=ds[j-1]) ?_ he;rw[zb,Qb,Qz,if_pos (by simp;omega),QF,show min j ds.length-1=j-1 by omega,KJ or]
set_option maxHeartbeats 1000000 in
theorem ib{f:Nat}(hL:aJ P f=some (LB.aFb k z q))(hz:z.fits k=true)(aAH:∀x,(e x).fits k=true)(heq:∀x y,veq q (e x) (e y)=some (decide (x=y)))(n:Nat)(ds:List α)(hlen:ds.length≤1000000)(h:Hp)(nx:Nat)(hn:h n=some (.arr k (ds.map e))):
 bD P f [.rs n k 0 ds.length] h nx fun v h' _=>∃off len es,v= .rs n k off len∧off+len≤es.length∧h'=h.set n (.arr k es)∧(es.drop off).take len=(cs ds).map e:=by
 have aHY:h.set n (.arr k (ds.map e))=h:=by
  funext x;unfold Kc;split
  ·rename_i hx;rw[hx,hn]
  rfl
 have aAu:∀hp:Hp,hp=h→cs ds=ds→∃off len es,V.rs n k 0 ds.length= .rs n k off len∧off+len≤es.length∧hp=h.set n (.arr k es)∧(es.drop off).take len=(cs ds).map e:=by
  rintro hp rfl hc;exact⟨0,ds.length,ds.map e,rfl,Zm,aHY.symm,by rw[hc,KB];exact Qe Zm⟩
 refine aD hL fun hd=>?_;simp only[jL,jM,jA,jB,jN,jO,jP,jQ,Kb];rcases KL ds.length 2 with h2|h2
 ·have hc:decide ((ds.length:Int)<2)=true:=decide_eq_true or;refine aue hc ?_;refine aG h (Ka _) ?_;refine Zn ?_;refine aAu h rfl ?_;match ds,h2 with
  | [],_=>rfl
  | [x],_=>rfl
 have hc:decide ((ds.length:Int)<2)=false:=decide_eq_false or;refine aue hc ?_;refine aT (fun i:Nat=>aB 61 0 [(0, .rs n k 0 ds.length),(3, .int .i64 i)]) (fun i hp _=>1≤i∧i≤ds.length∧hp=h∧cs (ds.take i)=ds.take i) (fun i=>ds.length-i) 1 ⟨Km _,or,rfl,?_⟩ ?_ ?_
 ·match ds,h2 with
  |x::l,_=>rfl
 ·simp only[WkL,aB,jH,jI,jJ,go_sem,reduceIte,jA,jB,jC,jD,reduceCtorEq,jE,jF]
 rintro i hp nx1 ⟨hi1,hi,rfl,hcs⟩;generalize hQ:bO _ _ _ _ _=Q0;simp only[aB,go_sem,reduceIte,jA,jB,jC,jD,reduceCtorEq,jE,jF];rcases KL i ds.length with hlt|hge
 ·have hc:decide ((i:Int)<(ds.length:Int))=true:=decide_eq_true or;have hg:=bI e ds i hlt;have hg1:=bI e ds (i-1) or;have hw1:IntKind.i64.wrap ((i:Int)-1)=((i-1:Nat):Int):=by rw[aY]<;>omega
  have hw:IntKind.i64.wrap ((i:Int)+1)=((i+1:Nat):Int):=by rw[aY]<;>omega
  have aEb:i-1<ds.length:=or;have hne:(i=ds.length)=False:=eq_false or
  (repeat' (first|(with_reducible first|refine stp ?_|refine bG ZM ?_|refine iI (fun _=>?_) (fun _=>?_))|((first|(with_reducible refine fO ?_;first|refine eH rfl ?_ ?_|refine Zx ?_)|(with_reducible refine fP ?_;first|refine bY rfl ?_ ?_|refine ZX ?_)|refine Zy ?_)<;>try simp only[hc,hg,hg1,hw1,hw,hlt,aEb,hn,hne,heq,aAH,jK,jG,go_sem,reduceIte,jA,jB,jC,jD,reduceCtorEq,jE,jF])|refine ZY ?_|omega))
  ·rename_i hx;have hx:ds[i]=ds[i-1]:=of_decide_eq_true hx
   refine aT (fun p:Nat×Nat×List α=>aB 61 0 [(0, .rs n k 0 ds.length),(3, .int .i64 p.1),(4, .rs n k i (ds.length-i)),(5, .int .i64 p.2.1)])
    (fun p hp2 _=>i≤p.1∧p.1+1≤i+p.2.1∧1≤p.2.1∧i+p.2.1≤ds.length∧p.2.2.length=ds.length∧p.2.2.take p.1=cs (ds.take (i+p.2.1))∧p.2.2.drop p.1=ds.drop p.1∧hp2 n=some (.arr k (p.2.2.map e))∧∀x,x≠n→hp2 x=hp x)
    (fun p=>ds.length-p.2.1) (i,1,ds) ⟨Km _,Km _,Km _,Zw,rfl,?_,rfl,hn,fun _ _=>rfl⟩ ?_ ?_
   ·dsimp only;rw[wX ds i or hlt hx,hcs]
   ·simp only[WkL,aB,jH,jI,jJ,go_sem,reduceIte,jA,jB,jC,jD,reduceCtorEq,jE,jF]
   rintro⟨m,k2,xs⟩ hp2 nx2 ⟨a1,a2,a3,a4,a5,a6,a7,a8,a9⟩;generalize hQ2:bO _ _ _ _ _=Q2;dsimp only at a1 a2 a3 a4 a5 a6 a7 a8;simp only[aB,go_sem,reduceIte,jA,jB,jC,jD,reduceCtorEq,jE,jF];have hat:∀j,m≤j→(hj:j<ds.length)→xs[j]'or=ds[j]:=fun j hm hj=>by
    have e1:xs[j]'or=(xs.drop m)[j-m]'(by simp;omega):=by simp[show m+(j-m)=j by omega]
    have e2:ds[j]=(ds.drop m)[j-m]'(by simp;omega):=by simp[show m+(j-m)=j by omega]
    rw[e1,e2];congr 1
   rcases KL k2 (ds.length-i) with aF3|aDf
   ·have hcc:decide ((k2:Int)<((ds.length-i:Nat):Int))=true:=decide_eq_true or;have hj:i+k2<ds.length:=or;have g1:(xs.map e).getD (i+k2) (.tup [])=e ds[i+k2]:=by rw[bI e xs (i+k2) or,hat _ or hj]
    have g2:(xs.map e).getD (i+(k2-1)) (.tup [])=e ds[i+k2-1]:=by
     rw[bI e xs (i+(k2-1)) or];rw[show e xs[i+(k2-1)]=e (xs[i+k2-1]'or) by congr 2;omega,hat _ or or]
    have w1:IntKind.i64.wrap ((k2:Int)-1)=((k2-1:Nat):Int):=by rw[aY]<;>omega
    have w2:IntKind.i64.wrap ((k2:Int)+1)=((k2+1:Nat):Int):=by rw[aY]<;>omega
    have w3:IntKind.i64.wrap ((m:Int)+1)=((m+1:Nat):Int):=by rw[aY]<;>omega
    have b1:i+(k2-1)<ds.length:=or;have b2:k2-1<ds.length-i:=or;have b3:m<ds.length:=or
    (repeat' (first|(with_reducible first|refine stp ?_|refine bG ZM ?_|refine iI (fun _=>?_) (fun _=>?_))|((first|(with_reducible refine fO ?_;first|refine eH rfl ?_ ?_|refine Zx ?_)|(with_reducible refine fP ?_;first|refine bY rfl ?_ ?_|refine ZX ?_)|refine Zy ?_)<;>try simp only[hcc,g1,g2,w1,w2,w3,hj,b1,b2,b3,aF3,a8,a5,heq,aAH,jK,jG,go_sem,reduceIte,jA,jB,jC,jD,reduceCtorEq,jE,jF])|refine ZY ?_|omega))
    ·rename_i hy;have hy:ds[i+k2]≠ds[i+k2-1]:=by simpa using hy
     rw[←hQ2];refine aF (m+1,k2+1,xs.set m ds[i+k2]) Zw ⟨Zw,Zw,Zw,Zw,by simpa using a5,?_,?_,?_,?_⟩ ?_
     ·dsimp only;rw[show i+(k2+1)=(i+k2)+1 by omega,zO ds (i+k2) or hj hy,←a6,Ke (by simp;omega),Qh,Qt (Km _)]
     ·dsimp only;rw[Qu or];have:=congrArg (QO 1) a7;rwa [KN,KN] at this
     ·refine Zn ?_;rw[QL,bI e xs m or,cG (aAH _) (aAH _)]
     ·intro x hx;simp only[hx,go_sem,reduceIte,jA,jB,jC,jD,reduceCtorEq,jE,jF];exact a9 x hx
     simp only[WkL,aB,jH,jI,jJ,go_sem,reduceIte,jA,jB,jC,jD,reduceCtorEq,jE,jF]
    rename_i hy;have hy:ds[i+k2]=ds[i+k2-1]:=by simpa using hy
    rw[←hQ2];refine aF (m,k2+1,xs) Zw ⟨a1,Zw,Zw,Zw,a5,?_,a7,a8,a9⟩ ?_
    ·dsimp only;rw[show i+(k2+1)=(i+k2)+1 by omega,wX ds (i+k2) or hj hy,a6]
    simp only[WkL,aB,jH,jI,jJ,go_sem,reduceIte,jA,jB,jC,jD,reduceCtorEq,jE,jF]
   have hcc:decide ((k2:Int)<((ds.length-i:Nat):Int))=false:=decide_eq_false or;have aEg:i+k2=ds.length:=or;rw[aEg,Kp] at a6;have hm1:m<ds.length:=or;have hml:(m=ds.length)=False:=eq_false or;refine aue hcc ?_;rw[←hQ2];refine aue (ee5 hml hm1 a8 a5 hz) ?_;rw[←hQ]
   (repeat' (first|(with_reducible first|refine stp ?_|refine bG ZM ?_|refine iI (fun _=>?_) (fun _=>?_))|((first|(with_reducible refine fO ?_;first|refine eH rfl ?_ ?_|refine Zx ?_)|(with_reducible refine fP ?_;first|refine bY rfl ?_ ?_|refine ZX ?_)|refine Zy ?_)<;>try simp only[ go_sem,reduceIte,jA,jB,jC,jD,reduceCtorEq,jE,jF])|refine ZY ?_|omega))
   refine aG _ (Ka _) ⟨0,m,(xs.map e).take m++Ky (ds.length-m) z++(xs.map e).drop (m+(ds.length-m)),?_,?_,?_,?_⟩
   ·simp only[QM,go_sem,reduceIte,jA,jB,jC,jD,reduceCtorEq,jE,jF]
   ·simp;omega
   ·funext x;by_cases hx:x=n
    ·subst hx;simp only[go_sem,reduceIte,jA,jB,jC,jD,reduceCtorEq,jE,jF]
    simp only[hx,go_sem,reduceIte,jA,jB,jC,jD,reduceCtorEq,jE,jF];exact a9 x hx
   rw[KB,QB,Kw (by simp;omega),List.take_take,Nat.min_self,←QI,a6]
  rename_i hx;have hx:ds[i]≠ds[i-1]:=of_decide_eq_false hx;rw[←hQ];refine aF (i+1) or ⟨or,or,rfl,?_⟩ ?_
  ·rw[zO ds i or hlt hx,hcs,←Ke hlt]
  simp only[WkL,aB,jH,jI,jJ,go_sem,reduceIte,jA,jB,jC,jD,reduceCtorEq,jE,jF]
 have hc:decide ((i:Int)<(ds.length:Int))=false:=decide_eq_false or;refine aue hc ?_;rw[←hQ];refine au ?_;refine aG hp (Ka _) ?_;refine Zn ?_;refine aAu hp rfl ?_;rw[show i=ds.length by omega,Kp] at hcs;exact hcs
end
namespace LB
abbrev aCU(k:Sh):List aA:=[
 ⟨some 4,none, .val (.move (.const (.sl k .nil [])))⟩]
abbrev aCT(f0:Nat):List aA:=[
 ⟨some 8,none, .val (.move (.slot 0))⟩,
 ⟨some 9,none, .val (.move (.slot 1))⟩,
 ⟨some 10,none, .call f0 [(.slot 8),(.slot 9)]⟩,
 ⟨some 5,none, .val (.move (.slot 10))⟩]
abbrev aCS:List aA:=[
 ⟨some 11,none, .val (.move (.slot 5))⟩,
 ⟨some 12,none, .val (.bin .eql (.slot 11) (.const (.int .i64 (-1))))⟩]
abbrev aCR:List aA:=[
 ⟨some 13,none, .val (.move (.slot 0))⟩,
 ⟨some 4,none, .val (.move (.slot 13))⟩]
abbrev aCQ:List aA:=[
 ⟨some 14,none, .val (.move (.slot 5))⟩,
 ⟨some 15,none, .val (.bin .add (.slot 14) (.const (.int .i64 1)))⟩,
 ⟨some 6,none, .val (.move (.slot 15))⟩]
abbrev aCP:List aA:=[
 ⟨some 16,none, .val (.move (.slot 6))⟩,
 ⟨some 17,none, .val (.move (.slot 0))⟩,
 ⟨some 18,none, .val (.len (.slot 17))⟩,
 ⟨some 19,none, .val (.bin .lss (.slot 16) (.slot 18))⟩]
abbrev aCO(k:Sh)(z:V):List aA:=[
 ⟨some 22,none, .val (.move (.slot 0))⟩,
 ⟨some 23,none, .val (.move (.slot 6))⟩,
 ⟨some 24,none, .val (.aBn k (.slot 22) (.slot 23))⟩,
 ⟨some 25,none, .val (.load k (.slot 24))⟩,
 ⟨some 7,none, .box k (.const z)⟩,
 ⟨none,none, .store k (.slot 7) (.slot 25)⟩]
abbrev aCN(k:Sh):List aA:=[
 ⟨some 26,none, .val (.move (.slot 1))⟩,
 ⟨some 27,none, .val (.load k (.slot 7))⟩,
 ⟨some 28,none, .aAc (.slot 26) [(.slot 27)]⟩,
 ⟨some 29,none, .val (.not (.slot 28))⟩]
abbrev aCM(k:Sh):List aA:=[
 ⟨some 30,none, .val (.move (.slot 0))⟩,
 ⟨some 31,none, .val (.move (.slot 5))⟩,
 ⟨some 32,none, .val (.load k (.slot 7))⟩,
 ⟨some 33,none, .val (.aBn k (.slot 30) (.slot 31))⟩,
 ⟨none,none, .store k (.slot 33) (.slot 32)⟩]
abbrev aCL:List aA:=[
 ⟨some 34,none, .val (.move (.slot 5))⟩,
 ⟨some 35,none, .val (.bin .add (.slot 34) (.const (.int .i64 1)))⟩,
 ⟨some 5,none, .val (.move (.slot 35))⟩]
abbrev aBu:List aA:=[
 ⟨some 20,none, .val (.move (.slot 6))⟩,
 ⟨some 21,none, .val (.bin .add (.slot 20) (.const (.int .i64 1)))⟩,
 ⟨some 6,none, .val (.move (.slot 21))⟩]
abbrev aCV(k:Sh)(z:V):bF:=(.seq (.seq (.ops aCP) (.cond (.slot 19) .skip (.exit 0))) (.seq (.block 1 (.seq (.ops (aCO k z)) (.seq (.ops (aCN k)) (.cond (.slot 29) (.seq (.ops (aCM k)) (.ops aCL)) .skip)))) (.ops aBu)))
abbrev aBt(k:Sh)(z:V):List aA:=[
 ⟨some 36,none, .val (.move (.slot 0))⟩,
 ⟨some 37,none, .val (.move (.slot 5))⟩,
 ⟨some 38,none, .val (.slc k (.slot 36) (.some (.slot 37)) .none .none)⟩,
 ⟨none,none, .clear k (.slot 38) z⟩]
abbrev aBs(k:Sh):List aA:=[
 ⟨some 39,none, .val (.move (.slot 0))⟩,
 ⟨some 40,none, .val (.move (.slot 5))⟩,
 ⟨some 41,none, .val (.slc k (.slot 39) .none (.some (.slot 40)) .none)⟩,
 ⟨some 4,none, .val (.move (.slot 41))⟩]
def aBR(k:Sh)(z:V)(f0:Nat):LFn:=⟨(.seq (.ops (aCU k)) (.seq (.ops (aCT f0)) (.seq (.seq (.ops aCS) (.cond (.slot 12) (.seq (.ops aCR) .ret) .skip)) (.seq (.seq (.ops aCQ) (.block 0 (.loop (aCV k z)))) (.seq (.ops (aBt k z)) (.seq (.ops (aBs k)) .ret)))))),42,[.slot 4]⟩
end LB
theorem BK{hc h:Hp}{n:Nat}(hh:Kq hc h)(hn:hc n=none)(b:Blk):Kq hc (h.set n b):=fun m k e hb=>by
 unfold Kc;rw[if_neg (fun e2=>by rw[e2,hn] at e;cases e)];exact hh m k e hb
section
variable{P:Program}{α:Type} [Inhabited α](e:α→V){k:Sh}{z:V}
theorem pQ{f:Nat}(aAH:∀x,(e x).fits k=true)(hL:aJ P f=some (LB.aAe k))(p:α→Bool)(n:Nat)(l:List α)(g:Nat)(aAg:List V)(h:Hp)(hn:h n=some (.arr k (l.map e)))(hp:∀x∈l,aX P g ([e x]++aAg) h (.bool (p x)))(hl:l.length≤1000000000):
 aX P f [.rs n k 0 l.length, .fn (.func g) [] aAg] h (.int .i64 (fD p l)):=by
 refine aP (fun L=>trivial) fun h' nx hh=>aD hL fun hd=>?_;have hn':=hh n _ hn rfl;simp only[jL,jM,jA,jB,jN,jO,jP,jQ,Kb];refine au ?_;refine aT (fun i:Nat=>aB 19 0 [(0, .rs n k 0 l.length),(1, .fn (.func g) [] aAg),(7, .int .i64 l.length),(8, .int .i64 i)]) (fun i hp2 _=>i≤l.length∧hp2=h'∧∀x∈l.take i,p x=false) (fun i=>l.length-i) 0 ⟨KS _,rfl,Zm⟩ ?_ ?_
 ·simp only[WkL,aB,jH,jI,jJ,go_sem,reduceIte,jA,jB,jC,jD,reduceCtorEq,jE,jF]
 rintro i hp2 nx1 ⟨hi,rfl,hno⟩;generalize hQ:bO _ _ _ _ _=Q0;simp only[aB,go_sem,reduceIte,jA,jB,jC,jD,reduceCtorEq,jE,jF];rcases KL i l.length with hlt|hge
 ·have hc:decide ((i:Int)<(l.length:Int))=true:=decide_eq_true or;have hg:=bI e l i hlt;have hw:IntKind.i64.wrap ((i:Int)+1)=((i+1:Nat):Int):=by rw[aY]<;>omega
  have htk:l.take (i+1)=l.take i++[l[i]]:=Ke hlt
  (repeat' (first|(with_reducible first|refine stp ?_|refine bG ZM ?_|refine iI (fun _=>?_) (fun _=>?_))|((first|(with_reducible refine fO ?_;first|refine eH rfl ?_ ?_|refine pL rfl (hp l[i] (KF _)) (by simp only[go_sem,reduceIte,jA,jB,jC,jD,reduceCtorEq,jE,jF]) hh ?_|refine Zx ?_)|(with_reducible refine fP ?_;first|refine bY rfl ?_ ?_|refine ZX ?_)|refine Zy ?_)<;>try simp only[hc,hg,hw,hlt,hn',aAH,jK,jG,jQ,go_sem,reduceIte,jA,jB,jC,jD,reduceCtorEq,jE,jF])|refine ZY ?_|omega))
  ·rename_i hx;rw[←hQ];refine au ?_;refine aG hp2 (Ka _) ⟨?_,rfl⟩;refine Zn ?_;rw[fD,(KP (p:=p) (xs:=l) (i:=i)).2 ⟨hlt,hx,fun j hj=>by simp[hno l[j] (Qc.2 ⟨j,or,rfl⟩)]⟩]
  rename_i hx;rw[←hQ];refine aF (i+1) or ⟨hlt,rfl,fun x hx2=>?_⟩ ?_
  ·rw[htk] at hx2;rcases Ki.1 hx2 with h1|h1
   ·exact hno x h1
   simp at h1;rw[h1];exact hx
  simp only[WkL,aB,jH,jI,jJ,go_sem,reduceIte,jA,jB,jC,jD,reduceCtorEq,jE,jF]
 have hc:decide ((i:Int)<(l.length:Int))=false:=decide_eq_false or;refine aue hc ?_;rw[←hQ];refine au ?_;refine aG hp2 (Ka _) ⟨?_,rfl⟩;refine Zn ?_;rw[show i=l.length by omega,Kp] at hno;rw[fD,KI.2 (fun x hx=>by simp[hno x hx])]
theorem qI{f f0:Nat}(aAH:∀x,(e x).fits k=true)(hL:aJ P f=some (LB.aAj k f0))(hL0:aJ P f0=some (LB.aAe k))(p:α→Bool)(n:Nat)(l:List α)(g:Nat)(aAg:List V)(h:Hp)(hn:h n=some (.arr k (l.map e)))(hp:∀x∈l,aX P g ([e x]++aAg) h (.bool (p x)))(hl:l.length≤1000000000):
 aX P f [.rs n k 0 l.length, .fn (.func g) [] aAg] h (.bool (l.any p)):=by
 refine aP (fun L=>trivial) fun h' nx hh=>aD hL fun hd=>?_;simp only[jL,jM,jA,jB,jN,jO,jP,jQ,Kb]
 (repeat' (first|(with_reducible first|refine stp ?_|refine bG ZM ?_|refine iI (fun _=>?_) (fun _=>?_))|((first|(with_reducible refine fO ?_;first|refine eH rfl ?_ ?_|refine aQ (pQ e aAH hL0 p n l g aAg h hn hp hl) (by simp only[go_sem,reduceIte,jA,jB,jC,jD,reduceCtorEq,jE,jF]) hh ?_|refine Zx ?_)|(with_reducible refine fP ?_;first|refine bY rfl ?_ ?_|refine ZX ?_)|refine Zy ?_)<;>try simp only[ go_sem,reduceIte,jA,jB,jC,jD,reduceCtorEq,jE,jF])|refine ZY ?_|omega))
 refine aG h' (Ka _) ⟨?_,rfl⟩;refine Zn ?_;rw[←zK]
theorem sx(p:α→Bool)(l:List α):((fD p l==-1)=true↔∀x∈l,p x=false)∧∀i:Nat,fD p l=i→∃h:i<l.length,p l[i]=true∧∀x∈l.take i,p x=false:=by
 unfold fD;cases hf:l.findIdx? p with
 |none=>
  have:=KI.1 hf;refine⟨by simpa using this,fun i hi=>?_⟩;exact absurd hi (by simp only;omega)
 |some j=>
  obtain⟨h1,h2,h3⟩:=KP.1 hf;refine⟨⟨fun h=>?_,fun h=>?_⟩,fun i hi=>?_⟩
  ·exfalso;simp at h<;>omega
  ·have:=h l[j] (KF _);rw[this] at h2;cases h2
  have:j=i:=by simp only at hi;omega
  subst this;refine⟨h1,h2,fun x hx=>?_⟩;obtain⟨q,hq,rfl⟩:=Qc.1 hx;have:=h3 q or;simpa using this
set_option maxHeartbeats 1000000 in
theorem yN{f f0:Nat}(hL:aJ P f=some (LB.aBR k z f0))(hL0:aJ P f0=some (LB.aAe k))(hz:z.fits k=true)(aAH:∀x,(e x).fits k=true)(p:α→Bool)(n:Nat)(l:List α)(g:Nat)(aAg:List V)(h hc:Hp)(nx:Nat)(hn:h n=some (.arr k (l.map e)))
 (hcn:hc n=none) (hch:Kq hc h) (hcd:aK hc nx) (hp:∀x∈l,aX P g ([e x]++aAg) hc (.bool (p x))) (hl:l.length≤1000000):
 bD P f [.rs n k 0 l.length, .fn (.func g) [] aAg] h nx fun v h' nx'=>∃zs,v= .rs n k 0 (l.filter fun x=> !(p x)).length∧h'=h.set n (.arr k ((l.filter fun x=> !(p x)).map e++zs)):=by
 have aHY:h.set n (.arr k (l.map e))=h:=by
  funext x;unfold Kc;split
  ·rename_i hx;rw[hx,hn]
  rfl
 refine aD hL fun hd=>?_;have aWS:n<nx:=hd n _ hn;obtain⟨k1,k2⟩:=sx p l;simp only[jL,jM,jA,jB,jN,jO,jP,jQ,Kb];cases aHh:(fD p l==-1) with
 |true=>
  have aAu:=k1.1 aHh
  (repeat' (first|(with_reducible first|refine stp ?_|refine bG ZM ?_|refine iI (fun _=>?_) (fun _=>?_))|((first|(with_reducible refine fO ?_;first|refine eH rfl ?_ ?_|refine aQ (pQ e aAH hL0 p n l g aAg h hn (fun x hx=>(hp x hx).mono hch) or) (by simp only[go_sem,reduceIte,jA,jB,jC,jD,reduceCtorEq,jE,jF]) (aU _) ?_|refine Zx ?_)|(with_reducible refine fP ?_;first|refine bY rfl ?_ ?_|refine ZX ?_)|refine Zy ?_)<;>try simp only[aHh,go_sem,reduceIte,jA,jB,jC,jD,reduceCtorEq,jE,jF])|refine ZY ?_|omega))
  have hfl:(l.filter fun x=> !(p x))=l:=KY.2 (fun x hx=>by simp[aAu x hx]);refine aG h (Ka _) ⟨[],?_,?_⟩
  ·simp only[hfl,go_sem,reduceIte,jA,jB,jC,jD,reduceCtorEq,jE,jF]
  rw[hfl,QG,aHY]
 |false=>
  obtain⟨i0,hi0⟩:∃i:Nat,fD p l=i:=by
   cases hf:l.findIdx? p with
   |none=>exact absurd (k1.2 (by simpa using KI.1 hf)) (by rw[aHh];simp)
   |some j=>exact⟨j,by unfold fD;rw[hf]⟩
  obtain⟨b1,b2,b3⟩:=k2 i0 hi0;have hw0:IntKind.i64.wrap ((i0:Int)+1)=((i0+1:Nat):Int):=by rw[aY]<;>omega
  rw[hi0] at aHh
  (repeat' (first|(with_reducible first|refine stp ?_|refine bG ZM ?_|refine iI (fun _=>?_) (fun _=>?_))|((first|(with_reducible refine fO ?_;first|refine eH rfl ?_ ?_|refine aQ (pQ e aAH hL0 p n l g aAg h hn (fun x hx=>(hp x hx).mono hch) or) (by simp only[go_sem,reduceIte,jA,jB,jC,jD,reduceCtorEq,jE,jF]) (aU _) ?_|refine Zx ?_)|(with_reducible refine fP ?_;first|refine bY rfl ?_ ?_|refine ZX ?_)|refine Zy ?_)<;>try simp only[aHh,hi0,hw0,go_sem,reduceIte,jA,jB,jC,jD,reduceCtorEq,jE,jF])|refine ZY ?_|omega))
  refine aT (fun q:Nat×Nat×List α=>aB 42 0 [(0, .rs n k 0 l.length),(1, .fn (.func g) [] aAg),(5, .int .i64 q.1),(6, .int .i64 q.2.1)])
   (fun q hp2 nx1=>q.1+1≤q.2.1∧q.2.1≤l.length∧q.2.2.length=l.length∧q.2.2.take q.1=(l.take q.2.1).filter (fun x=> !(p x))∧q.2.2.drop q.1=l.drop q.1∧hp2 n=some (.arr k (q.2.2.map e))∧nx≤nx1∧∀x,x≠n→x<nx→hp2 x=h x)
   (fun q=>l.length-q.2.1) (i0,i0+1,l) ⟨Km _,b1,rfl,?_,rfl,hn,Km _,fun _ _ _=>rfl⟩ ?_ ?_
  ·dsimp only;rw[Ke b1,Kt,KY.2 (fun x hx=>by simp[b3 x hx])];simp[b2]
  ·simp only[WkL,aB,jH,jI,jJ,go_sem,reduceIte,jA,jB,jC,jD,reduceCtorEq,jE,jF]
  rintro⟨i,j,xs⟩ hp2 nx1 ⟨a1,a2,a3,a4,a5,a6,a7,a8⟩;generalize hQ:bO _ _ _ _ _=Q0;dsimp only at a1 a2 a3 a4 a5 a6;simp only[aB,go_sem,reduceIte,jA,jB,jC,jD,reduceCtorEq,jE,jF];have aNe:Kq hc hp2:=fun m kk hm hbm=>by
   have hmn:m≠n:=fun e2=>by rw[e2,hcn] at hm;cases hm
   rw[a8 m hmn (hcd m _ hm)];exact hch m kk hm hbm
  have hcf:∀m,nx≤m→hc m=none:=fun m hm=>aK.none hcd hm;rcases KL j l.length with hlt|hge
  ·have hcc:decide ((j:Int)<(l.length:Int))=true:=decide_eq_true or;have hxj:xs[j]'or=l[j]:=by
    have e1:xs[j]'or=(xs.drop i)[j-i]'(by simp;omega):=by simp[show i+(j-i)=j by omega]
    have e2:l[j]=(l.drop i)[j-i]'(by simp;omega):=by simp[show i+(j-i)=j by omega]
    rw[e1,e2];congr 1
   have hg:(xs.map e).getD j (.tup [])=e l[j]:=by rw[bI e xs j or,hxj]
   have hw:IntKind.i64.wrap ((j:Int)+1)=((j+1:Nat):Int):=by rw[aY]<;>omega
   have hw2:IntKind.i64.wrap ((i:Int)+1)=((i+1:Nat):Int):=by rw[aY]<;>omega
   have hnl:n<nx1:=or;have hil:i<l.length:=or;have htk:l.take (j+1)=l.take j++[l[j]]:=Ke hlt
   (repeat' (first|(with_reducible first|refine stp ?_|refine bG ZM ?_|refine iI (fun _=>?_) (fun _=>?_))|((first|(with_reducible refine fO ?_;first|refine eH rfl ?_ ?_|refine pL rfl (hp l[j] (KF _)) (by simp only[go_sem,reduceIte,jA,jB,jC,jD,reduceCtorEq,jE,jF]) (by repeat (first|exact aNe|refine BK ?_ (by first|exact hcn|exact hcf _ or) _)) ?_|refine Zx ?_)|(with_reducible refine fP ?_;first|refine bY rfl ?_ ?_|refine ZX ?_)|refine Zy ?_)<;>try simp only[hcc,hg,hw,hw2,hnl,hil,hlt,a6,a3,hz,aAH,jK,jG,go_sem,reduceIte,jA,jB,jC,jD,reduceCtorEq,jE,jF])|refine ZY ?_|omega))
   ·rename_i hx;have hx:p l[j]=false:=by simpa using hx
    rw[←hQ];refine aF (i+1,j+1,xs.set i l[j]) Zw ⟨Zw,Zw,by simpa using a3,?_,?_,?_,or,fun x hxn hxl=>?_⟩ ?_
    ·dsimp only;rw[htk,Kt,←a4,Ke (by simp;omega),Qh,Qt (Km _)];simp[hx]
    ·dsimp only;rw[Qu or];have:=congrArg (QO 1) a5;rwa [KN,KN] at this
    ·simp only[hnl,go_sem,reduceIte,jA,jB,jC,jD,reduceCtorEq,jE,jF];rw[QL,bI e xs i or,cG (aAH _) (aAH _)]
    ·have h1:(x=nx1)=False:=eq_false or;simp only[hxn,h1,go_sem,reduceIte,jA,jB,jC,jD,reduceCtorEq,jE,jF];exact a8 x hxn hxl
    simp only[WkL,aB,jH,jI,jJ,go_sem,reduceIte,jA,jB,jC,jD,reduceCtorEq,jE,jF]
   rename_i hx;have hx:p l[j]=true:=by simpa using hx
   rw[←hQ];refine aF (i,j+1,xs) Zw ⟨Zw,Zw,a3,?_,a5,?_,or,fun x hxn hxl=>?_⟩ ?_
   ·dsimp only;rw[htk,Kt,←a4];simp[hx]
   ·simp only[hnl,a6,go_sem,reduceIte,jA,jB,jC,jD,reduceCtorEq,jE,jF]
   ·have h1:(x=nx1)=False:=eq_false or;simp only[hxn,h1,go_sem,reduceIte,jA,jB,jC,jD,reduceCtorEq,jE,jF];exact a8 x hxn hxl
   simp only[WkL,aB,jH,jI,jJ,go_sem,reduceIte,jA,jB,jC,jD,reduceCtorEq,jE,jF]
  have hcc:decide ((j:Int)<(l.length:Int))=false:=decide_eq_false or;rw[show j=l.length by omega,Kp] at a4;have hil:i<l.length:=or;have aUC:(i=l.length)=False:=eq_false or;refine aue hcc ?_;rw[←hQ];refine aue (ee5 aUC hil a6 a3 hz) ?_;have hlen:(l.filter fun x=> !(p x)).length=i:=by rw[←a4];simp;omega
  refine aG (h.set n (.arr k ((l.filter fun x=> !(p x)).map e++(Ky (l.length-i) z++(xs.map e).drop (i+(l.length-i)))))) ?_ ⟨_,?_,rfl⟩
  ·intro x b hxb;by_cases hxn:x=n
   ·subst hxn;simp only[go_sem,reduceIte,jA,jB,jC,jD,reduceCtorEq,jE,jF] at hxb⊢;rw[←hxb,←a4,QI,QB]
   have hxl:x<nx:=hd x b (by simpa only[Kc,if_neg hxn] using hxb);simp only[hxn,go_sem,reduceIte,jA,jB,jC,jD,reduceCtorEq,jE,jF] at hxb⊢;rw[a8 x hxn hxl];exact hxb
  simp only[hlen,QM,go_sem,reduceIte,jA,jB,jC,jD,reduceCtorEq,jE,jF]
theorem ff{f f0:Nat}(aAH:∀x,(e x).fits k=true)(hL:aJ P f=some (LB.aBR k z f0))(hL0:aJ P f0=some (LB.aAe k))(p:α→Bool)(g:Nat)(aAg:List V)(h:Hp):
 aX P f [.sl k .nil [], .fn (.func g) [] aAg] h (.sl k .nil []):=by
 refine aP (fun L=>by simp[V.names,bP]) fun h' nx hh=>aD hL fun hd=>?_;have aHh:(fD p ([]:List α)==-1)=true:=by simp[fD]
 have hi:aX P f0 [.sl k .nil [], .fn (.func g) [] aAg] h' (.int .i64 (fD p [])):=by
  have:=tD e aAH hL0 p .nil [] g aAg h' (fun x hx=>by cases hx) Zm;simpa using this
 simp only[jL,jM,jA,jB,jN,jO,jP,jQ,Kb];have C5:=hi;refine aue aHh ?_;exact aG h' (Ka _) ⟨rfl,rfl⟩
end
end Go.Proofs.YtecepaehmojpgaaGreat
